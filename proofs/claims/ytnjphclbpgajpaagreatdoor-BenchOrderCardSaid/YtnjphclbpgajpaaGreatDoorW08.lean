/- Part of a proof over a Go program: VcEv, Fn2, Fn3, MaLoad, MaFit, MaMost, Ca, Cb, Fn1, MaSort, MaWin, MaPlan, MaPick. No condition. -/
import Derived.Test.YtnjphclbpgajpaaGreatDoorW07
import Derived.Test.YtnjphclbpgajpaaGreatDoorProg
set_option linter.unnecessarySimpa false
set_option linter.unusedSectionVars false
set_option linter.unusedSimpArgs false
set_option linter.unusedVariables false
set_option maxRecDepth 100000
namespace Go.Proofs.YtnjphclbpgajpaaGreatDoor.Vc
open Go.RowKit
variable {P:Program}
abbrev mv(d x:Nat):Ins:=⟨some d,none,.mov false,[.t x]⟩
abbrev mt(d x:Nat):Ins:=⟨some d,none,.mov true,[.t x]⟩
abbrev mc(d:Nat)(x:PV):Ins:=⟨some d,none,.mov true,[.c (.p x)]⟩
abbrev fa(d o x:Nat):Ins:=⟨some d,none,.fad o,[.t x]⟩
abbrev ld(d x:Nat):Ins:=⟨some d,none,.load 1 false false,[.t x]⟩
abbrev b2(d:Nat)(op:BinOp)(x y:Nat):Ins:=⟨some d,none,.bin op,[.t x,.t y]⟩
abbrev b1(d:Nat)(op:BinOp)(x:Nat)(y:PV):Ins:=⟨some d,none,.bin op,[.t x,.c (.p y)]⟩
abbrev ii(d:Nat)(κ:Kd)(xs:List O):Ins:=⟨some d,none, κ,xs⟩
abbrev gt(d j:Nat)(κ:Kd)(xs:List O):Ins:=⟨some d,some (j,true), κ,xs⟩
abbrev gf(d j:Nat)(κ:Kd)(xs:List O):Ins:=⟨some d,some (j,false), κ,xs⟩
def j5{α:Type}(l:List α):Nat -> α->(List α->Prop)->Prop :=
 List.rec (motive:=fun _=>Nat -> α->(List α->Prop)->Prop) (fun _ _ K=>K []) (fun x xs ih n v K=>Nat.rec (motive:=fun _=>Prop) (K (v ::xs)) (fun n _=>ih n v fun ys=>K (x ::ys)) n) l
theorem eW{α:Type}(l:List α)(n:Nat)(v : α)(K:List α->Prop):j5 l n v K=K (aJ l n v):=by
 induction l generalizing n K with
 |nil=>rfl
 |cons x xs ih=>cases n with
  |zero=>rfl
  |succ n=>exact ih n fun ys=>K (x ::ys)
def CM{α:Type}(l:List α):(List α->Prop)->Prop :=
 List.rec (motive:=fun _=>(List α->Prop)->Prop) (fun K=>K []) (fun x _ ih K=>ih fun ys=>K (x ::ys)) l
theorem nK{α:Type}(l:List α)(K:List α->Prop):CM l K=K l:=by
 induction l generalizing K with
 |nil=>rfl
 |cons x xs ih=>exact ih fun ys=>K (x ::ys)
def EX(t:List DV)(d:Option Nat)(v:DV)(K:List DV->Prop):Prop :=
 match d with
 |some i=>U6 v fun v=>j5 t i v K
 |none=>K t
theorem AV(t:List DV)(d:Option Nat)(v:DV)(K:List DV->Prop):EX t d v K=K (aP t d v):=by
 cases d with
 |none=>rfl
 |some i=>simp only[EX,aP,qM,eW]
def PP(t:List DV)(n:Nat)(K:List DV->Prop):Prop:=U6 (aW t n).copy fun v=>j5 t n v K
def MT:Kd->List O->List DV->(List DV->Prop)->Prop
 | .mov true,[.t n],t,K=>PP t n K
 | .app _ _,.t n ::_,t,K=>PP t n K
 | .store _,[_,.t n],t,K=>PP t n K
 | .ext j,[.t n],t,K=>CM (dW (.ext j) [.t n] t) K
 |_,_,t,K=>K t
theorem J3(κ:Kd)(xs:List O)(t:List DV)(K:List DV->Prop):MT κ xs t K=K (dW κ xs t):=by
 unfold MT
 split
 ·simp only[PP,qM,eW,dW]
 ·simp only[PP,qM,eW,dW]
 ·simp only[PP,qM,eW,dW]
 ·rw[nK]
 ·rename_i h1 h2 h3 h4
  unfold dW
  split
  ·exact(h1 _ rfl rfl).elim
  ·exact(h2 _ _ _ _ rfl rfl).elim
  ·exact(h3 _ _ _ rfl rfl).elim
  ·exact(h4 _ _ rfl rfl).elim
  ·rfl
def aL(i:Ins)(s:St):Bool :=
 match aH i.k with
 |some k=>decide (k<s.b.length)&&(bL k (aP s.t i.d .top)&&aG k 0 s.b)
 |none=>bif aQ i.k then sX s.b.length (aP s.t i.d .top)&&bA s.b.length s.b else true
theorem tG(i:Ins)(s:St):(aL i s=true)=fresh i s:=by
 unfold aL fresh
 split
 ·rename_i k hk;rw[hk];simp[and_assoc]
 ·rename_i hk;rw[hk];cases aQ i.k<;>simp
def UX(P:Program)(i:Ins)(s:St)(K:St->Prop):Prop :=
 testB (aL i s) (bV P i.k (i.xs.map (O.val s.t)) s.b fun v b'=>MT i.k.core i.xs s.t fun t=>EX t i.d v fun t=>CM b' fun b'=>K ⟨t,b'⟩)
def V1(P:Program)(i:Ins)(s:St)(K:St->Prop):Prop :=
 match i.g with
 |none=>UX P i s K
 |some (j,want)=>match aW s.t j with
  | .p (.bool c)=>(c=want->j5 s.t j (.p (.bool want)) fun t=>UX P i ⟨t,s.b⟩ K)/\(c=(!want)->j5 s.t j (.p (.bool (!want))) fun t=>EX t i.d (.tup []) fun t=>K ⟨t,s.b⟩)
  | .tup []=>EX s.t i.d (.tup []) fun t=>K ⟨t,s.b⟩
  |_=>False
def FW(P:Program)(l:List Ins):St->(St->Prop)->Prop :=
 List.rec (motive:=fun _=>St->(St->Prop)->Prop) (fun s K=>K s) (fun i _ ih s K=>V1 P i s fun s'=>ih s' K) l
theorem FS(P:Program)(i:Ins)(is:List Ins)(s:St)(K:St->Prop):FW P (i ::is) s K=V1 P i s fun s'=>FW P is s' K:=rfl
theorem NB(i:Ins)(s:St)(K:St->Prop):UX P i s K=kU P i s K:=by
 unfold UX kU;rw[eF,tG];simp only[J3,AV,nK]
theorem MJ(i:Ins)(s:St)(K:St->Prop):V1 P i s K=b5 P i s K:=by
 unfold V1 b5;simp only[eW,AV,NB]
 cases i.g with
 |none=>rfl
 |some g=>
  obtain⟨j,want⟩:=g;simp only
  cases aW s.t j with
  |p x=>cases x<;>rfl
  |tup ds=>cases ds<;>rfl
  |_=>rfl
theorem uT(is:List Ins)(s:St)(K:St->Prop):FW P is s K=bI P is s K:=by
 induction is generalizing s K with
 |nil=>rfl
 |cons i is ih=>rw[FS];simp only[bI,MJ,ih]
def dP(t:List DV)(ns:List Nat)(K:List DV->Prop):Prop :=
 List.rec (motive:=fun _=>List DV->(List DV->Prop)->Prop) (fun t K=>K t) (fun n _ ih t K=>j5 t n .top fun t=>ih t K) ns t K
theorem uH(t:List DV)(n:Nat)(ns:List Nat)(K:List DV->Prop):dP t (n ::ns) K=j5 t n .top fun t=>dP t ns K:=rfl
theorem i6(t:List DV)(ns:List Nat)(K:List DV->Prop):dP t ns K=K (forget t ns):=by
 induction ns generalizing t with
 |nil=>rfl
 |cons n ns ih=>rw[uH];simp only[forget,eW,ih]
def j1(t:List (Option Box))(ns:List Nat)(K:List (Option Box)->Prop):Prop :=
 List.rec (motive:=fun _=>List (Option Box)->(List (Option Box)->Prop)->Prop) (fun t K=>K t) (fun n _ ih t K=>j5 t n none fun t=>ih t K) ns t K
theorem xR(t:List (Option Box))(n:Nat)(ns:List Nat)(K:List (Option Box)->Prop):j1 t (n ::ns) K=j5 t n none fun t=>j1 t ns K:=rfl
theorem lS(t:List (Option Box))(ns:List Nat)(K:List (Option Box)->Prop):j1 t ns K=K (dropB t ns):=by
 induction ns generalizing t with
 |nil=>rfl
 |cons n ns ih=>rw[xR];simp only[dropB,eW,ih]
abbrev ZL:=St->(St->Prop)->(Nat->St->Prop)->(St->Prop)->Prop
noncomputable def ev (P:Program) (c:C):ZL :=
 C.rec (motive:=fun _=>ZL)
  (fun _ _ _ _=>False)
  (fun s n _ _=>n s)
  (fun ops s n _ _=>FW P ops s n)
  (fun ops s n _ _=>FW P ops s n)
  (fun ops s n _ _=>testB (aV ops s) (FW P ops s n))
  (fun _ _ iha ihb s n x r=>iha s (fun s'=>ihb s' n x r) x r)
  (fun c _ _ iha ihb s n x r => match c, c.val s.t with
   | .t j,.p (.bool t)=>(t=true->j5 s.t j (.p (.bool true)) fun t=>iha ⟨t,s.b⟩ n x r)/\(t=false->j5 s.t j (.p (.bool false)) fun t=>ihb ⟨t,s.b⟩ n x r)
   | .c _,.p (.bool t)=>(t=true->iha s n x r)/\(t=false->ihb s n x r)
   |_,_=>False)
  (fun id _ ih s n x r=>ih s n (fun j s'=>if j=id then n s' else x j s') r)
  (fun fs ds _ ih s _ x r=>∃k,dP s.t fs fun t=>j1 s.b ds fun b=>yK (fun s' N=>ih s' (fun s2=>dP s2.t fs fun t=>j1 s2.b ds fun b=>N ⟨t,b⟩) x r) k ⟨t,b⟩)
  (fun id s _ x _=>x id s)
  (fun s _ _ r=>r s)
  (fun fs zs ds _ ih s n x r=>oH s.b zs fun b=>dP s.t fs fun t=>j1 b ds fun b=>ih ⟨t,b⟩ n x r)
  (fun i k ag _ ih s n x r => match aW s.t i with
   | .ow size _ rows=>testB (decide (size≠0)&&(decide (k<s.b.length)&&(bL k s.t&&(aG k 0 s.b&&(nU i 0 s.t&&nV k 0 s.b))))) (rows≠[]/\kG (cY rows)=true /\
     j5 s.t i (.bs k size ag 0 rows.length) fun t=>j5 s.b k (some ⟨true,size,cY rows,false⟩) fun b=>ih ⟨t,b⟩ n x r)
   |_=>False)
  (fun ops s n _ _=>n4 P (ops.length+1) (rH 0 ops) s n)
  (fun ops s n _ _=>testB (IG ops s) (FW P ops s n))
  (fun g _ ih s n x r=>GV P g s fun s'=>CM s'.t fun t=>CM s'.b fun b=>ih ⟨t,b⟩ n x r)
  (fun _ g ih s n x r=>ih s (fun s'=>GV P g s' fun s'=>CM s'.t fun t=>CM s'.b fun b=>n ⟨t,b⟩) x r) c
theorem JQ:∀(c:C) (s:St) (n:St->Prop) (x:Nat->St->Prop) (r:St->Prop),ev P c s n x r=vc P c s n x r:=by
 intro c
 induction c with
 |stuck=>intros;rfl
 |skip=>intros;rfl
 |reg ops=>intros;show FW P _ _ _=_;simp only[vc,uT]
 |regd ops=>intros;show FW P _ _ _=_;simp only[vc,uT]
 |rega ops=>intros;show testB _ (FW P _ _ _)=_;simp only[vc,uT,eF]
 |regm ops=>intros;show testB _ (FW P _ _ _)=_;simp only[vc,uT,eF]
 |gp c g ih=>
  intro s n x r
  show ev P c s (fun s'=>GV P g s' fun s'=>CM s'.t fun t=>CM s'.b fun b=>n ⟨t,b⟩) x r=_
  simp only[vc,nK,ih]
 |gh g c ih=>
  intro s n x r
  show GV P g s (fun s'=>CM s'.t fun t=>CM s'.b fun b=>ev P c ⟨t,b⟩ n x r)=_
  simp only[vc,nK,ih]
 |seq a b iha ihb=>intro s n x r;show ev P a s (fun s'=>ev P b s' n x r) x r=_;simp only[vc,iha,ihb]
 |cond c a b iha ihb=>
  intro s n x r
  show (match c,c.val s.t with
   | .t j,.p (.bool t)=>(t=true->j5 s.t j (.p (.bool true)) fun t=>ev P a ⟨t,s.b⟩ n x r)/\(t=false->j5 s.t j (.p (.bool false)) fun t=>ev P b ⟨t,s.b⟩ n x r)
   | .c _,.p (.bool t)=>(t=true->ev P a s n x r)/\(t=false->ev P b s n x r)
   |_,_=>False)=_
  simp only[vc,iha,ihb,eW]
  cases c with
  |t j=>
   simp only[O.val]
   cases aW s.t j with
   |p z=>cases z<;>rfl
   |_=>rfl
  |c d=>
   simp only[O.val]
   cases d with
   |p z=>cases z<;>rfl
   |_=>rfl
 |block id c ih=>intro s n x r;show ev P c s n (fun j s'=>if j=id then n s' else x j s') r=_;simp only[vc,ih]
 |loop fs ds c ih=>
  intro s n x r
  show (∃k,dP s.t fs fun t=>j1 s.b ds fun b=>yK (fun s' N=>ev P c s' (fun s2=>dP s2.t fs fun t=>j1 s2.b ds fun b=>N ⟨t,b⟩) x r) k ⟨t,b⟩)=_
  simp only[vc,ih,i6,lS]
 |exit id=>intros;rfl
 |regx ops=>intros;simp only[vc];rfl
 |ret=>intros;rfl
 |pre fs zs ds c ih=>
  intro s n x r
  show (oH s.b zs fun b=>dP s.t fs fun t=>j1 b ds fun b=>ev P c ⟨t,b⟩ n x r)=_
  simp only[vc,ih,i6,lS]
 |own i k ag c ih=>
  intro s n x r
  show (match aW s.t i with
   | .ow size _ rows=>testB (decide (size≠0)&&(decide (k<s.b.length)&&(bL k s.t&&(aG k 0 s.b&&(nU i 0 s.t&&nV k 0 s.b))))) (rows≠[]/\kG (cY rows)=true /\
     j5 s.t i (.bs k size ag 0 rows.length) fun t=>j5 s.b k (some ⟨true,size,cY rows,false⟩) fun b=>ev P c ⟨t,b⟩ n x r)
   |_=>False)=_
  simp only[vc]
  cases aW s.t i with
  |ow size nl rows=>simp only[eF,eW,ih]
  |_=>rfl
theorem GR{F:St->(St->Prop)->Prop}(I:Nat->St->Prop)(hs:∀n s (N:St->Prop),I n s->(∀m s',m<n->I m s'->N s')->F s N) :
  ∀(k n:Nat) (s:St),n<k->I n s->yK F k s:=by
 intro k
 induction k with
 |zero=>exact fun n s h=>by omega
 |succ k ih=>exact fun n s hn hI=>hs n s _ hI fun m s' hm hI'=>ih m s' (by omega) hI'
theorem cE{T:List DV}{fs:List Nat}{B:List (Option Box)}{ds:List Nat}{F:St->(St->Prop)->Prop}(I:Nat->St->Prop)(n:Nat)(h0:dP T fs fun t=>j1 B ds fun b=>I n ⟨t,b⟩)
  (hs:∀n t b (N:St->Prop),I n ⟨t,b⟩->(∀m s',m<n->I m s'->N s')->CM t fun t=>CM b fun b=>F ⟨t,b⟩ N):∃k,dP T fs fun t=>j1 B ds fun b=>yK F k ⟨t,b⟩:=by
 rw[i6,lS] at h0;refine⟨n+1,?_⟩;rw[i6,lS];exact GR I (fun n s N hI hN=>by have:=hs n s.t s.b N hI hN;rwa [nK,nK] at this) _ _ _ (Nat.lt_succ_self n) h0
def uB(n:Nat):List (Nat×DV)->List DV
 |[]=>List.replicate n .top
 |(i,d) ::l=>aJ (uB n l) i d
theorem bJ{n:Int}(h1 : -9223372036854775808<=n)(h2:n<=9223372036854775807):IntKind.wrap .i64 n=n:=by
 have e:(2:Int) ^ (64:Nat)=18446744073709551616:=by decide
 have e':(2:Int) ^ (63:Nat)=9223372036854775808:=by decide
 simp only[IntKind.wrap,IntKind.signed,IntKind.bits];simp only[Bool.true_and,decide_eq_true_eq,e,e',ge_iff_le,Nat.add_one_sub_one,Nat.reduceSub]
 split<;>omega
class No (A:Prop):Prop where no:¬A
instance:No (true=false):=⟨by decide⟩
instance:No (false=true):=⟨by decide⟩
instance:No ((!true)=true):=⟨by decide⟩
instance:No ((!false)=false):=⟨by decide⟩
instance:No (true = !true):=⟨by decide⟩
instance:No (false = !false):=⟨by decide⟩
instance:No ((!true) = !false):=⟨by decide⟩
instance:No ((!false) = !true):=⟨by decide⟩
instance {a b c:Bool}[h:No (a=c)]:No ((if true=true then a else b)=c):=⟨fun e=>h.no (by simpa using e)⟩
instance {a b c:Bool}[h:No (b=c)]:No ((if false=true then a else b)=c):=⟨fun e=>h.no (by simpa using e)⟩
class Opp (x y:Bool):Prop where no:x≠y
instance:Opp true false:=⟨by decide⟩
instance:Opp false true:=⟨by decide⟩
instance:Opp true (!true):=⟨by decide⟩
instance:Opp false (!false):=⟨by decide⟩
theorem US{c x y:Bool}[o:Opp x y](h:c=x):¬(c=y):=fun e=>o.no (h.symm.trans e)
theorem zP{A B C D:Prop}(k:B)(h:¬C:=by first|exact No.no|exact US (x:=true) (by assumption)|exact US (x:=false) (by assumption)):(A->B)/\(C->D):=⟨fun _=>k,fun c=>(h c).elim⟩
theorem zL{A B C D:Prop}(k:D)(h:¬A:=by first|exact No.no|exact US (x:=true) (by assumption)|exact US (x:=false) (by assumption)):(A->B)/\(C->D):=⟨fun c=>(h c).elim,fun _=>k⟩
theorem zX{α:Type}{p K : α->Prop}{x : α}(k:K x)(h:p x:=by assumption):∃x,p x/\K x:=⟨x,h,k⟩
theorem zn{n:Nat}{K:Prop}(k:K):(0:Int)<=(n:Int)/\K:=⟨Int.natCast_nonneg _,k⟩
theorem zb{a b:Nat}{K:Prop}(h:Nat.ble a b=true)(k:K):a<=b/\K:=⟨Nat.le_of_ble_eq_true h,k⟩
theorem zo{α:Type}{a b : α}{B K:Prop}(h:a=b)(k:K):(a=b\/B)/\K:=⟨.inl h,k⟩
theorem zs{A K:Prop}(k:K)(h:A:=by first|assumption|decide|(simp only[List.length_nil,List.length_cons,List.length_map,List.length_append];omega)|(refine List.forall_mem_cons.2 ⟨rfl,?_⟩;(repeat' first|exact fun _ h=>absurd h List.not_mem_nil|refine List.forall_mem_cons.2 ⟨rfl,?_⟩);done)):A/\K:=⟨h,k⟩
theorem Fn.run{f:FuncId}{F:Fn}(h:aI P f F=true){args:List PV}{r:DV}(hr:r.plain=true)
  (hv:ev P F.c (K9 F.n F.nb args) (F.post r) (fun _ _=>False) (F.post r)):aO P f args r :=
 Fn.pure h hr (by unfold Fn.vc;rw[<-JQ];exact hv)
theorem Fn.runO{f:FuncId}{F:Fn}(h:aI P f F=true){args:List DV}{bs:List Box}{bs':List (Option Box)}{r:DV}(hr:(r.plain||r.isRef)=true)(hbs:o9 bs=true)(hlen:Nat.ble bs.length bs'.length=true)
  (hv:ev P F.c (J8 F.n F.nb args bs) (F.postO bs.length bs' r) (fun _ _=>False) (F.postO bs.length bs' r)):aX P f args bs bs' r :=
 Fn.ocall h hr hbs hlen (by rw[<-JQ];exact hv)
open Go.RowKit
def LV:Fn:=⟨89,3,[.tmp 6],
 (.sr [ii 3 (.box 0 5) [.t 0],
 ii 4 (.box 1 4) [.t 1],
 ii 5 (.box 2 2) [.t 2],
 mc 6 (.bool false)]
 (.seq
 (.sr [ii 8 (.load 5 true false) [.t 3],
 ii 9 (.call 80) [.t 8],
 ii 10 (.un .not) [.t 9],
 mv 11 10,
 gf 12 11 (.load 5 true false) [.t 3],
 gf 13 11 (.load 4 true false) [.t 4],
 gf 14 11 (.call 81) [.t 12,.t 13],
 gf 15 11 (.un .not) [.t 14],
 ii 16 .pick [.t 11,.c (.p (.bool true)),.t 15],
 mv 17 16,
 gf 18 17 (.load 5 true false) [.t 3],
 gf 19 17 (.load 2 true false) [.t 5],
 gf 20 17 (.call 218) [.t 18,.t 19],
 gf 21 17 (.un .not) [.t 20],
 ii 22 .pick [.t 17,.c (.p (.bool true)),.t 21]]
 (.cond (.t 22)
 (.sr [mc 6 (.bool false)]
 .ret)
 .skip))
 (.sr [fa 23 1 5,
 ld 24 23,
 ii 25 .len [.t 24],
 mt 7 25]
 (.seq
 (.sr [fa 26 0 5,
 ld 27 26]
 (.block 0
 (.sr [b1 29 .eql 27 (.int .i64 1),
 mt 28 29]
 (.cond (.t 28)
 (.seq
 (.regd [mv 30 7,
 b1 31 .eql 30 (.int .i64 1),
 mv 32 31,
 gt 33 32 (.fad 1) [.t 5],
 gt 34 32 (.at 2 (.load 1 false false)) [.t 33],
 gt 35 32 (.iad 4) [.t 34,cI 0],
 gt 36 32 (.fad 1) [.t 35],
 gt 37 32 (.loadp 1 false) [.t 36],
 gt 38 32 (.bin .eql) [.t 37,cI 0],
 ii 39 .pick [.t 32,.t 38,.c (.p (.bool false))],
 mv 40 39,
 gt 41 40 (.fad 1) [.t 5],
 gt 42 40 (.at 2 (.load 1 false false)) [.t 41],
 gt 43 40 (.iad 4) [.t 42,cI 0],
 gt 44 40 (.fad 2) [.t 43],
 gt 45 40 (.loadp 1 false) [.t 44],
 gt 46 40 (.fad 1) [.t 4],
 gt 47 40 (.at 1 (.load 1 false false)) [.t 46],
 gt 48 40 (.bin .eql) [.t 45,.t 47],
 ii 49 .pick [.t 40,.t 48,.c (.p (.bool false))],
 mv 50 49,
 gt 51 50 (.fad 1) [.t 5],
 gt 52 50 (.at 2 (.load 1 false false)) [.t 51],
 gt 53 50 (.iad 4) [.t 52,cI 0],
 gt 54 50 (.fad 3) [.t 53],
 gt 55 50 (.loadp 1 false) [.t 54],
 gt 56 50 (.fad 0) [.t 4],
 gt 57 50 (.at 1 (.load 1 false false)) [.t 56],
 gt 58 50 (.bin .eql) [.t 55,.t 57],
 ii 59 .pick [.t 50,.t 58,.c (.p (.bool false))],
 mt 6 59])
 .ret)
 (.sr [b1 61 .eql 27 (.int .i64 2),
 mt 60 61]
 (.cond (.t 60)
 (.sr [ii 62 (.load 5 true false) [.t 3],
 ii 63 (.load 4 true false) [.t 4],
 ii 64 (.load 2 true false) [.t 5],
 ii 65 (.call 219) [.t 62,.t 63,.t 64],
 mt 6 65]
 .ret)
 (.sr [b1 67 .eql 27 (.int .i64 3),
 mt 66 67]
 (.cond (.t 66)
 (.seq
 (.regd [ii 68 (.at 0 (.load 5 true false)) [.t 3],
 ii 69 (.at 1 (.load 4 true false)) [.t 4],
 ii 70 (.at 2 (.load 2 true false)) [.t 5],
 ii 71 (.pl (.call 219)) [.t 68,.t 69,.t 70],
 mv 72 71,
 gt 73 72 (.mov false) [.t 7],
 gt 74 72 (.bin .eql) [.t 73,cI 2],
 ii 75 .pick [.t 72,.t 74,.c (.p (.bool false))],
 mv 76 75,
 gt 77 76 (.fad 1) [.t 5],
 gt 78 76 (.at 2 (.load 1 false false)) [.t 77],
 gt 79 76 (.iad 4) [.t 78,cI 0],
 gt 80 76 (.fad 2) [.t 79],
 gt 81 76 (.loadp 1 false) [.t 80],
 gt 82 76 (.fad 1) [.t 5],
 gt 83 76 (.at 2 (.load 1 false false)) [.t 82],
 gt 84 76 (.iad 4) [.t 83,cI 0],
 gt 85 76 (.fad 3) [.t 84],
 gt 86 76 (.loadp 1 false) [.t 85],
 gt 87 76 (.bin .eql) [.t 81,.t 86],
 ii 88 .pick [.t 76,.t 87,.c (.p (.bool false))],
 mt 6 88])
 .ret)
 .skip))))))))
 (.sr [mc 6 (.bool false)]
 .ret)))))⟩
theorem QJ:aI Tryz.prog 185 LV=true:=by kernel_rfl
def VL:Fn:=⟨64,3,[.cell 6 2,.tmp 7],
 (.sr [ii 3 (.box 0 5) [.t 0],
 ii 5 (.box 1 4) [.t 2],
 ⟨some 6,none,.alloc 2 2 [Z0,.ow 4 true []],[]⟩,
 mc 7 (.bool false)]
 (.seq
 (.sr [ii 12 (.load 5 true false) [.t 3],
 ii 13 (.call 80) [.t 12],
 ii 14 (.un .not) [.t 13],
 mv 15 14,
 gf 16 15 (.load 5 true false) [.t 3],
 gf 17 15 (.load 4 true false) [.t 5],
 gf 18 15 (.call 81) [.t 16,.t 17],
 gf 19 15 (.un .not) [.t 18],
 ii 20 .pick [.t 15,.c (.p (.bool true)),.t 19],
 mv 21 20,
 gf 22 21 (.fad 3) [.t 5],
 gf 23 21 (.load 1 false false) [.t 22],
 gf 24 21 .len [.t 23],
 gf 25 21 (.bin .gtr) [.t 24,cI 0],
 ii 26 .pick [.t 21,.c (.p (.bool true)),.t 25],
 mv 27 26,
 gf 28 27 (.mov false) [.t 1],
 gf 29 27 .len [.t 28],
 gf 30 27 (.fad 0) [.t 3],
 gf 31 27 (.load 1 false false) [.t 30],
 gf 32 27 (.bin .neq) [.t 29,.t 31],
 ii 33 .pick [.t 27,.c (.p (.bool true)),.t 32]]
 (.cond (.t 33)
 (.seq
 (.gp (.reg [⟨some 34,none,.build [.int .i64 0,.sl 4 true []] [],[]⟩,
 ⟨none,none,.store 2,[.t 6,.t 34]⟩,
 mc 7 (.bool false)]) (.lay 2 2))
 .ret)
 .skip))
 (.seq
 (.sr [mc 8 (.int .i64 2)]
 (.block 0
 (.loop [0,2,7,9,10,11,12,13,14,15,16,17,18,19,20,21,22,23,24,25,26,27,28,29,30,31,32,33,34,35,36,37,38,39,40,41,42,43,44,45,46,47,48,49,50,51,52,53,54,55,56,57,58,59,60,61,62,63] []
 (.seq
 (.sr [mv 35 8,
 fa 36 0 3,
 ld 37 36,
 b2 38 .leq 35 37]
 (.cond (.t 38)
 .skip
 (.exit 0)))
 (.seq
 (.block 1
 (.sr [ii 41 (.load 5 true false) [.t 3],
 ii 42 (.load 4 true false) [.t 5],
 mv 43 8,
 ii 44 (.call 82) [.t 41,.t 42,.t 43],
 mt 9 44]
 (.seq
 (.sr [mv 45 9,
 b1 46 .eql 45 (.int .i64 0)]
 (.cond (.t 46)
 (.exit 0)
 .skip))
 (.seq
 (.regd [ii 48 (.at 0 (.load 5 true false)) [.t 3],
 ii 49 (.at 1 (.load 4 true false)) [.t 5],
 mv 50 9,
 ii 51 (.at 0 (.load 5 true false)) [.t 3],
 mv 52 1,
 ii 53 (.at 1 (.load 4 true false)) [.t 5],
 mv 54 8,
 mv 55 9,
 ii 56 (.pl (.call 84)) [.t 51,.t 52,.t 53,.t 54,.t 55],
 ii 57 (.pl (.call 83)) [.t 48,.t 49,.t 50,.t 56],
 mv 47 57,
 ii 58 (.extp 0) [.t 47],
 ii 59 (.extp 1) [.t 47],
 mt 10 58,
 mt 11 59])
 (.sr [mv 60 11]
 (.cond (.t 60)
 (.seq
 (.gp (.reg [mv 61 10,
 ⟨some 62,none,.build [.int .i64 0,.sl 4 true []] [(0,1),(1,1)],[cI 2,.t 61]⟩,
 ⟨none,none,.store 2,[.t 6,.t 62]⟩,
 mc 7 (.bool true)]) (.lay 2 2))
 .ret)
 .skip))))))
 (.reg [mv 39 8,
 b1 40 .add 39 (.int .i64 1),
 mt 8 40]))))))
 (.seq
 (.gp (.reg [⟨some 63,none,.build [.int .i64 0,.sl 4 true []] [],[]⟩,
 ⟨none,none,.store 2,[.t 6,.t 63]⟩,
 mc 7 (.bool false)]) (.lay 2 2))
 .ret))))⟩
theorem YU:aI Tryz.prog 50 VL=true:=by kernel_rfl
def WU:Fn:=⟨20,2,[.tmp 6],
 (.sr [ii 3 (.box 0 5) [.t 0],
 ii 4 (.box 1 4) [.t 1],
 mc 6 (.int .i64 0)]
 (.seq
 (.sr [mv 7 2,
 b1 8 .lss 7 (.int .i64 1)]
 (.cond (.t 8)
 (.sr [mc 6 (.int .i64 0)]
 .ret)
 .skip))
 (.sr [fa 9 1 4,
 ld 10 9,
 mv 11 2,
 b1 12 .sub 11 (.int .i64 1),
 fa 13 2 3,
 ld 14 13,
 b2 15 .mul 12 14,
 b2 16 .sub 10 15,
 mv 17 2,
 ii 18 (.call 129) [.t 16,.t 17],
 ii 19 .mx [.t 18,cI 0],
 mt 6 19]
 .ret)))⟩
theorem Z9:aI Tryz.prog 82 WU=true:=by kernel_rfl
def WQ:Fn:=⟨62,4,[.cell 6 2,.tmp 7],
 (.sr [ii 3 (.box 0 5) [.t 0],
 ii 5 (.box 1 4) [.t 2],
 ⟨some 6,none,.alloc 2 2 [Z0,.ow 4 true []],[]⟩,
 mc 7 (.bool false)]
 (.seq
 (.sr [ii 12 (.load 5 true false) [.t 3],
 ii 13 (.call 80) [.t 12],
 ii 14 (.un .not) [.t 13],
 mv 15 14,
 gf 16 15 (.load 5 true false) [.t 3],
 gf 17 15 (.load 4 true false) [.t 5],
 gf 18 15 (.call 81) [.t 16,.t 17],
 gf 19 15 (.un .not) [.t 18],
 ii 20 .pick [.t 15,.c (.p (.bool true)),.t 19],
 mv 21 20,
 gf 22 21 (.fad 3) [.t 5],
 gf 23 21 (.load 1 false false) [.t 22],
 gf 24 21 .len [.t 23],
 gf 25 21 (.bin .gtr) [.t 24,cI 0],
 ii 26 .pick [.t 21,.c (.p (.bool true)),.t 25],
 mv 27 26,
 gf 28 27 (.mov false) [.t 1],
 gf 29 27 .len [.t 28],
 gf 30 27 (.fad 0) [.t 3],
 gf 31 27 (.load 1 false false) [.t 30],
 gf 32 27 (.bin .neq) [.t 29,.t 31],
 ii 33 .pick [.t 27,.c (.p (.bool true)),.t 32]]
 (.cond (.t 33)
 (.seq
 (.gp (.reg [⟨some 34,none,.build [.int .i64 0,.sl 4 true []] [],[]⟩,
 ⟨none,none,.store 2,[.t 6,.t 34]⟩,
 mc 7 (.bool false)]) (.lay 2 2))
 .ret)
 .skip))
 (.seq
 (.sr [mv 35 1,
 ii 36 .len [.t 35],
 ii 37 (.mov false) [cI 0]]
 (.block 0
 (.loop [0,2,7,8,9,10,11,12,13,14,15,16,17,18,19,20,21,22,23,24,25,26,27,28,29,30,31,32,33,34,35,38,39,40,41,42,43,44,45,46,47,48,49,50,51,52,53,54,55,56,57,58,59,60,61] [3]
 (.sr [b2 38 .lss 37 36]
 (.seq
 (.cond (.t 38)
 .skip
 (.exit 0))
 (.seq
 (.block 1
 (.sr [mv 39 37,
 mt 8 39]
 (.sr [mv 40 1,
 ii 41 .len [.t 40],
 ii 42 (.mov false) [cI 0]]
 (.block 2
 (.loop [0,2,7,9,10,11,12,13,14,15,16,17,18,19,20,21,22,23,24,25,26,27,28,29,30,31,32,33,34,35,38,39,40,43,44,45,46,47,48,49,50,51,52,53,54,55,56,57,58,59,60,61] [3]
 (.sr [b2 43 .lss 42 41]
 (.seq
 (.cond (.t 43)
 .skip
 (.exit 2))
 (.seq
 (.block 3
 (.sr [mv 44 42,
 mt 9 44]
 (.seq
 (.sr [mv 45 8,
 mv 46 9,
 b2 47 .eql 45 46]
 (.cond (.t 47)
 (.exit 3)
 .skip))
 (.seq
 (.gp (.reg [ii 49 (.load 5 true false) [.t 3],
 mv 50 1,
 ii 51 (.load 4 true false) [.t 5],
 mv 52 8,
 mv 53 9,
 ii 54 (.call 85) [.t 49,.t 50,.t 51,.t 52,.t 53],
 mv 48 54,
 ii 55 (.ext 0) [.t 48],
 ii 56 (.ext 1) [.t 48],
 ⟨some 10,none,.alloc 3 2 [Z0,.ow 4 true []],[]⟩,
 ⟨none,none,.store 2,[.t 10,.t 55]⟩,
 mt 11 56]) (.lay 3 2))
 (.sr [mv 57 11]
 (.cond (.t 57)
 (.seq
 (.gp (.reg [ii 58 (.load 2 true false) [.t 10],
 ⟨none,none,.store 2,[.t 6,.t 58]⟩,
 mc 7 (.bool true)]) (.lay 2 2))
 .ret)
 .skip))))))
 (.reg [b1 59 .add 42 (.int .i64 1),
 mv 42 59])))))))))
 (.reg [b1 60 .add 37 (.int .i64 1),
 mv 37 60])))))))
 (.seq
 (.gp (.reg [⟨some 61,none,.build [.int .i64 0,.sl 4 true []] [],[]⟩,
 ⟨none,none,.store 2,[.t 6,.t 61]⟩,
 mc 7 (.bool false)]) (.lay 2 2))
 .ret))))⟩
theorem YV:aI Tryz.prog 51 WQ=true:=by kernel_rfl
def MI:Fn:=⟨19,2,[.tmp 2],
 (.sr [ii 1 (.box 0 2) [.t 0],
 mc 2 (.int .i64 0)]
 (.sr [mc 3 (.int .i64 0)]
 (.seq
 (.sr [fa 6 1 1,
 ld 7 6,
 ii 8 .len [.t 7],
 ii 9 (.mov false) [cI 0]]
 (.block 0
 (.loop [0,1,2,5,6,10,11,12,13,14,15,16,17,18] [1]
 (.sr [b2 10 .lss 9 8]
 (.seq
 (.cond (.t 10)
 .skip
 (.exit 0))
 (.seq
 (.block 1
 (.seq
 (.gp (.reg [ii 11 (.iad 4) [.t 7,.t 9],
 ii 12 (.load 4 true false) [.t 11],
 ⟨some 5,none,.alloc 1 4 [Z0,Z0,Z0,Z0],[]⟩,
 ⟨none,none,.store 4,[.t 5,.t 12]⟩]) (.lay 1 4))
 (.reg [mv 13 3,
 fa 14 3 5,
 ld 15 14,
 b2 16 .add 13 15,
 mt 3 16])))
 (.reg [b1 17 .add 9 (.int .i64 1),
 mv 9 17])))))))
 (.sr [mv 18 3,
 mt 2 18]
 .ret))))⟩
theorem RY:aI Tryz.prog 186 MI=true:=by kernel_rfl
def LR:Fn:=⟨17,2,[.tmp 4],
 (.sr [ii 2 (.box 0 2) [.t 0],
 ii 3 (.box 1 2) [.t 1],
 mc 4 (.bool false)]
 (.sr [fa 5 0 2,
 ld 6 5,
 fa 7 0 3,
 ld 8 7,
 b2 9 .eql 6 8,
 mv 10 9,
 gt 11 10 (.fad 1) [.t 2],
 gt 12 10 (.load 1 false false) [.t 11],
 gt 13 10 (.fad 1) [.t 3],
 gt 14 10 (.load 1 false false) [.t 13],
 gt 15 10 (.call 220) [.t 12,.t 14],
 ii 16 .pick [.t 10,.t 15,.c (.p (.bool false))],
 mt 4 16]
 .ret))⟩
theorem QH:aI Tryz.prog 187 LR=true:=by kernel_rfl
def UV:Fn:=⟨31,1,[.tmp 6],
 (.sr [ii 3 (.box 0 2) [.t 0],
 mc 6 (.int .i64 0)]
 (.seq
 (.sr [mv 7 1,
 b1 8 .lss 7 (.int .i64 0),
 mv 9 8,
 gf 10 9 (.mov false) [.t 1],
 gf 11 9 (.fad 1) [.t 3],
 gf 12 9 (.load 1 false false) [.t 11],
 gf 13 9 .len [.t 12],
 gf 14 9 (.bin .geq) [.t 10,.t 13],
 ii 15 .pick [.t 9,.c (.p (.bool true)),.t 14]]
 (.cond (.t 15)
 (.sr [mc 6 (.int .i64 0)]
 .ret)
 .skip))
 (.seq
 (.regd [mv 16 2,
 fa 17 1 3,
 ii 18 (.at 0 (.load 1 false false)) [.t 17],
 mv 19 1,
 ii 20 (.iad 4) [.t 18,.t 19],
 fa 21 1 20,
 ii 22 (.loadp 1 false) [.t 21],
 b2 23 .add 16 22,
 fa 24 1 3,
 ii 25 (.at 0 (.load 1 false false)) [.t 24],
 mv 26 1,
 ii 27 (.iad 4) [.t 25,.t 26],
 fa 28 2 27,
 ii 29 (.loadp 1 false) [.t 28],
 b2 30 .add 23 29,
 mt 6 30])
 .ret)))⟩
theorem XS:aI Tryz.prog 26 UV=true:=by kernel_rfl
def L6:Fn:=⟨2,0,[.tmp 0],
 (.sr [mc 0 (.bool false)]
 (.sr [ii 1 (.call 217) [],
 mt 0 1]
 .ret))⟩
theorem SJ:aI Tryz.prog 184 L6=true:=by kernel_rfl
def LN:Fn:=⟨19,0,[.tmp 4],
 (.sr [mc 4 (.int .i64 0)]
 (.seq
 (.sr [mv 6 0,
 ii 7 .len [.t 6],
 ii 8 (.mov false) [cI 0]]
 (.block 0
 (.loop [4,5,6,9,10,11,12,13,14,15,16,17,18] []
 (.sr [b2 9 .lss 8 7]
 (.seq
 (.cond (.t 9)
 .skip
 (.exit 0))
 (.seq
 (.block 1
 (.sr [mv 10 8,
 mt 5 10]
 (.sr [mv 11 1,
 mv 12 0,
 mv 13 5,
 ii 14 (.iad 1) [.t 12,.t 13],
 ld 15 14,
 ii 16 .callv [.t 11,.t 15]]
 (.cond (.t 16)
 (.sr [mv 17 5,
 mt 4 17]
 .ret)
 .skip))))
 (.reg [b1 18 .add 8 (.int .i64 1),
 mv 8 18])))))))
 (.sr [mc 4 (.int .i64 (-1))]
 .ret)))⟩
theorem S5:aI Tryz.prog 138 LN=true:=by kernel_rfl
def ON:Fn:=⟨10,0,[.tmp 3],
 (.sr [mc 3 (.bool false)]
 (.seq
 (.regd [mv 4 0,
 ii 5 (.pl (.call 137)) [.t 4],
 ii 6 (.loadp 3 true) [.t 1],
 ii 7 (.bsl 3 1) [.t 6],
 ii 8 (.pl (.app 3 24)) [.t 5,.t 7],
 ii 9 (.pl (.call 136)) [.t 8],
 mt 3 9])
 .ret))⟩
theorem Q4:aI Tryz.prog 139 ON=true:=by kernel_rfl
def W6:Fn:=⟨22,0,[.tmp 2],
 (.sr [mc 2 (.bool false)]
 (.sr [mv 8 0,
 ii 9 (.call 174) [.t 8],
 mv 7 9,
 ii 10 (.ext 0) [.t 7],
 ii 11 (.ext 1) [.t 7],
 mt 3 10,
 mt 4 11]
 (.sr [mv 13 0,
 ii 14 (.call 175) [.t 13],
 mv 12 14,
 ii 15 (.ext 0) [.t 12],
 ii 16 (.ext 1) [.t 12],
 mt 5 15,
 mt 6 16]
 (.sr [mv 17 4,
 mv 18 17,
 gt 19 18 (.mov false) [.t 6],
 gt 20 18 (.un .not) [.t 19],
 ii 21 .pick [.t 18,.t 20,.c (.p (.bool false))],
 mt 2 21]
 .ret))))⟩
theorem XO:aI Tryz.prog 136 W6=true:=by kernel_rfl
def KQ:Fn:=⟨8,0,[.tmp 2],
 (.sr [ii 2 (.mov true) [.c (.ow 3 true [])]]
 (.seq
 (.sr [mv 3 0,
 ii 4 (.eqnil false) [.t 3,.c (.ow 3 true [])]]
 (.cond (.t 4)
 (.sr [ii 2 (.mov true) [.c (.ow 3 true [])]]
 .ret)
 .skip))
 (.sr [ii 5 (.bsl 3 0) [],
 mv 6 0,
 ii 7 (.app 3 24) [.t 5,.t 6],
 mt 2 7]
 .ret)))⟩
theorem JL:aI Tryz.prog 137 KQ=true:=by kernel_rfl
def XC:Fn:=⟨38,1,[.tmp 2],
 (.sr [ii 1 (.box 0 5) [.t 0],
 mc 2 (.bool false)]
 (.seq
 (.sr [fa 4 0 1,
 ld 5 4,
 ii 6 (.call 126) [.t 5,cI 1,cI 6],
 ii 7 (.un .not) [.t 6],
 mv 8 7,
 gf 9 8 (.fad 1) [.t 1],
 gf 10 8 (.load 1 false false) [.t 9],
 gf 11 8 (.call 126) [.t 10,cI 0,cI 3],
 gf 12 8 (.un .not) [.t 11],
 ii 13 .pick [.t 8,.c (.p (.bool true)),.t 12],
 mv 14 13,
 gf 15 14 (.fad 2) [.t 1],
 gf 16 14 (.load 1 false false) [.t 15],
 gf 17 14 (.call 126) [.t 16,cI 0,cI 5],
 gf 18 14 (.un .not) [.t 17],
 ii 19 .pick [.t 14,.c (.p (.bool true)),.t 18],
 mv 20 19,
 gf 21 20 (.fad 3) [.t 1],
 gf 22 20 (.load 1 false false) [.t 21],
 gf 23 20 (.call 126) [.t 22,cI 0,cI 5],
 gf 24 20 (.un .not) [.t 23],
 ii 25 .pick [.t 20,.c (.p (.bool true)),.t 24]]
 (.cond (.t 25)
 (.sr [mc 2 (.bool false)]
 .ret)
 .skip))
 (.seq
 (.pre [] [0] [] (.reg [ii 26 (.mkfn 127) [.t 1],
 mt 3 26]))
 (.sr [fa 27 4 1,
 ld 28 27,
 ii 29 .len [.t 28],
 b1 30 .leq 29 (.int .i64 6),
 mv 31 30,
 gt 32 31 (.fad 4) [.t 1],
 gt 33 31 (.load 1 false false) [.t 32],
 gt 34 31 (.mov false) [.t 3],
 gt 35 31 (.call 128) [.t 33,.t 34],
 gt 36 31 (.un .not) [.t 35],
 ii 37 .pick [.t 31,.t 36,.c (.p (.bool false))],
 mt 2 37]
 .ret))))⟩
theorem ZX:aI Tryz.prog 80 XC=true:=by kernel_rfl
def VZ:Fn:=⟨76,3,[.tmp 4],
 (.sr [ii 2 (.box 0 5) [.t 0],
 ii 3 (.box 1 4) [.t 1],
 mc 4 (.bool false)]
 (.seq
 (.sr [fa 8 0 3,
 ld 9 8,
 b1 10 .lss 9 (.int .i64 1),
 mv 11 10,
 gf 12 11 (.fad 0) [.t 3],
 gf 13 11 (.load 1 false false) [.t 12],
 gf 14 11 (.fad 1) [.t 3],
 gf 15 11 (.load 1 false false) [.t 14],
 gf 16 11 (.bin .gtr) [.t 13,.t 15],
 ii 17 .pick [.t 11,.c (.p (.bool true)),.t 16],
 mv 18 17,
 gf 19 18 (.fad 1) [.t 3],
 gf 20 18 (.load 1 false false) [.t 19],
 gf 21 18 (.fad 2) [.t 3],
 gf 22 18 (.load 1 false false) [.t 21],
 gf 23 18 (.bin .gtr) [.t 20,.t 22],
 ii 24 .pick [.t 18,.c (.p (.bool true)),.t 23],
 mv 25 24,
 gf 26 25 (.fad 2) [.t 3],
 gf 27 25 (.load 1 false false) [.t 26],
 gf 28 25 (.bin .gtr) [.t 27,cI 200],
 ii 29 .pick [.t 25,.c (.p (.bool true)),.t 28],
 mv 30 29,
 gf 31 30 (.fad 3) [.t 3],
 gf 32 30 (.load 1 false false) [.t 31],
 gf 33 30 .len [.t 32],
 gf 34 30 (.bin .gtr) [.t 33,cI 2],
 ii 35 .pick [.t 30,.c (.p (.bool true)),.t 34]]
 (.cond (.t 35)
 (.sr [mc 4 (.bool false)]
 .ret)
 .skip))
 (.sr [mc 5 (.int .i64 0)]
 (.seq
 (.sr [fa 36 3 3,
 ld 37 36,
 ii 38 .len [.t 37],
 ii 39 (.mov false) [cI 0]]
 (.block 0
 (.loop [0,1,4,7,8,9,10,11,12,13,14,15,16,17,18,19,20,21,22,23,24,25,26,27,28,29,30,31,32,33,34,35,36,40,41,42,43,44,45,46,47,48,49,50,51,52,53,54,55,56,57,58,59,60,61,62,63,64,65,66,67,68,69,70,71,72,73,74,75] [2]
 (.sr [b2 40 .lss 39 38]
 (.seq
 (.cond (.t 40)
 .skip
 (.exit 0))
 (.seq
 (.block 1
 (.seq
 (.gp (.reg [ii 41 (.iad 3) [.t 37,.t 39],
 ii 42 (.load 3 true false) [.t 41],
 ⟨some 7,none,.alloc 2 3 [Z0,Z0,Z0],[]⟩,
 ⟨none,none,.store 3,[.t 7,.t 42]⟩]) (.lay 2 3))
 (.seq
 (.sr [fa 43 0 7,
 ld 44 43,
 b1 45 .lss 44 (.int .i64 0),
 mv 46 45,
 gf 47 46 (.fad 0) [.t 7],
 gf 48 46 (.load 1 false false) [.t 47],
 gf 49 46 (.fad 4) [.t 2],
 gf 50 46 (.load 1 false false) [.t 49],
 gf 51 46 .len [.t 50],
 gf 52 46 (.bin .geq) [.t 48,.t 51],
 ii 53 .pick [.t 46,.c (.p (.bool true)),.t 52],
 mv 54 53,
 gf 55 54 (.fad 2) [.t 7],
 gf 56 54 (.load 1 false false) [.t 55],
 gf 57 54 (.call 126) [.t 56,cI 1,cI 200],
 gf 58 54 (.un .not) [.t 57],
 ii 59 .pick [.t 54,.c (.p (.bool true)),.t 58],
 mv 60 59,
 gf 61 60 (.fad 1) [.t 7],
 gf 62 60 (.load 1 false false) [.t 61],
 gf 63 60 (.mov false) [.t 5],
 gf 64 60 (.bin .leq) [.t 62,.t 63],
 ii 65 .pick [.t 60,.c (.p (.bool true)),.t 64],
 mv 66 65,
 gf 67 66 (.fad 1) [.t 7],
 gf 68 66 (.load 1 false false) [.t 67],
 gf 69 66 (.fad 0) [.t 3],
 gf 70 66 (.load 1 false false) [.t 69],
 gf 71 66 (.bin .geq) [.t 68,.t 70],
 ii 72 .pick [.t 66,.c (.p (.bool true)),.t 71]]
 (.cond (.t 72)
 (.sr [mc 4 (.bool false)]
 .ret)
 .skip))
 (.reg [fa 73 1 7,
 ld 74 73,
 mt 5 74]))))
 (.reg [b1 75 .add 39 (.int .i64 1),
 mv 39 75])))))))
 (.sr [mc 4 (.bool true)]
 .ret)))))⟩
theorem Y0:aI Tryz.prog 81 VZ=true:=by kernel_rfl
def NE:Fn:=⟨30,4,[.tmp 4],
 (.sr [ii 2 (.box 0 5) [.t 0],
 ii 3 (.box 1 2) [.t 1],
 mc 4 (.bool false)]
 (.sr [ii 8 (.mkmap 2) [],
 mt 5 8]
 (.seq
 (.sr [fa 9 1 3,
 ld 10 9,
 ii 11 .len [.t 10],
 ii 12 (.mov false) [cI 0]]
 (.block 0
 (.loop [0,1,3,4,7,8,9,13,14,15,16,17,18,19,20,21,22,23,24,25,26,27,28,29] [3]
 (.sr [b2 13 .lss 12 11]
 (.seq
 (.cond (.t 13)
 .skip
 (.exit 0))
 (.seq
 (.block 1
 (.seq
 (.gp (.reg [ii 14 (.iad 4) [.t 10,.t 12],
 ii 15 (.load 4 true false) [.t 14],
 ⟨some 7,none,.alloc 3 4 [Z0,Z0,Z0,Z0],[]⟩,
 ⟨none,none,.store 4,[.t 7,.t 15]⟩]) (.lay 3 4))
 (.seq
 (.sr [ii 16 (.load 5 true false) [.t 2],
 ii 17 (.load 4 true false) [.t 7],
 ii 18 (.call 242) [.t 16,.t 17],
 ii 19 (.un .not) [.t 18],
 mv 20 19,
 gf 21 20 (.mov false) [.t 5],
 gf 22 20 (.fad 0) [.t 7],
 gf 23 20 (.load 1 false false) [.t 22],
 gf 24 20 (.look .i64 (.bool false)) [.t 21,.t 23],
 ii 25 .pick [.t 20,.c (.p (.bool true)),.t 24]]
 (.cond (.t 25)
 (.sr [mc 4 (.bool false)]
 .ret)
 .skip))
 (.reg [mv 26 5,
 fa 27 0 7,
 ld 28 27,
 ⟨none,none,.mupd .i64,[.t 26,.t 28,.c (.p (.bool true))]⟩]))))
 (.reg [b1 29 .add 12 (.int .i64 1),
 mv 12 29])))))))
 (.sr [mc 4 (.bool true)]
 .ret))))⟩
theorem PX:aI Tryz.prog 218 NE=true:=by kernel_rfl
def OD:Fn:=⟨92,6,[.tmp 6],
 (.sr [ii 3 (.box 0 5) [.t 0],
 ii 4 (.box 1 4) [.t 1],
 ii 5 (.box 2 2) [.t 2],
 mc 6 (.bool false)]
 (.sr [fa 12 1 5,
 ld 13 12,
 ii 14 .len [.t 13],
 mt 7 14]
 (.seq
 (.sr [fa 15 3 4,
 ld 16 15,
 ii 17 .len [.t 16],
 b1 18 .gtr 17 (.int .i64 0),
 mv 19 18,
 gf 20 19 (.mov false) [.t 7],
 gf 21 19 (.bin .lss) [.t 20,cI 2],
 ii 22 .pick [.t 19,.c (.p (.bool true)),.t 21],
 mv 23 22,
 gf 24 23 (.fad 1) [.t 5],
 gf 25 23 (.load 1 false false) [.t 24],
 gf 26 23 (.iad 4) [.t 25,cI 0],
 gf 27 23 (.fad 1) [.t 26],
 gf 28 23 (.load 1 false false) [.t 27],
 gf 29 23 (.bin .neq) [.t 28,cI 0],
 ii 30 .pick [.t 23,.c (.p (.bool true)),.t 29]]
 (.cond (.t 30)
 (.sr [mc 6 (.bool false)]
 .ret)
 .skip))
 (.seq
 (.sr [mc 8 (.int .i64 1)]
 (.block 0
 (.loop [0,1,2,6,9,10,11,12,13,14,15,16,17,18,19,20,21,22,23,24,25,26,27,28,29,30,31,32,33,34,35,36,37,38,39,40,41,42,43,44,45,46,47,48,49,50,51,52,53,54,55,56,57,58,59,60,61,62,63,64,65,66,67,68,69,70,71,72,73,74,75,76,77,78,79,80,81,82,83,84,85,86,87,88,89,90,91] [3,4]
 (.seq
 (.sr [mv 31 8,
 mv 32 7,
 b2 33 .lss 31 32]
 (.cond (.t 33)
 .skip
 (.exit 0)))
 (.seq
 (.block 1
 (.seq
 (.gp (.gp (.pre [9,10,47,49,51,59] [] [3,4] (.rega [fa 36 1 5,
 ii 37 (.at 2 (.load 1 false false)) [.t 36],
 mv 38 8,
 b1 39 .sub 38 (.int .i64 1),
 ii 40 (.iad 4) [.t 37,.t 39],
 ii 41 (.loadp 4 true) [.t 40],
 fa 42 1 5,
 ii 43 (.at 2 (.load 1 false false)) [.t 42],
 mv 44 8,
 ii 45 (.iad 4) [.t 43,.t 44],
 ii 46 (.loadp 4 true) [.t 45],
 ⟨some 9,none,.alloc 3 4 [Z0,Z0,Z0,Z0],[]⟩,
 ⟨some 10,none,.alloc 4 4 [Z0,Z0,Z0,Z0],[]⟩,
 ⟨none,none,.at 3 (.store 4),[.t 9,.t 41]⟩,
 ⟨none,none,.at 4 (.store 4),[.t 10,.t 46]⟩])) (.lay 3 4)) (.lay 4 4))
 (.sr [fa 47 1 10,
 ld 48 47,
 fa 49 1 9,
 ld 50 49,
 fa 51 2 9,
 ld 52 51,
 b2 53 .add 50 52,
 fa 54 2 3,
 ld 55 54,
 b2 56 .add 53 55,
 b2 57 .lss 48 56,
 mv 58 57,
 gf 59 58 (.fad 3) [.t 10],
 gf 60 58 (.load 1 false false) [.t 59],
 gf 61 58 (.fad 3) [.t 3],
 gf 62 58 (.load 1 false false) [.t 61],
 gf 63 58 (.bin .leq) [.t 60,.t 62],
 ii 64 .pick [.t 58,.c (.p (.bool true)),.t 63]]
 (.cond (.t 64)
 (.sr [mc 6 (.bool false)]
 .ret)
 .skip))))
 (.reg [mv 34 8,
 b1 35 .add 34 (.int .i64 1),
 mt 8 35]))))))
 (.seq
 (.gp (.reg [fa 65 1 5,
 ld 66 65,
 mv 67 7,
 b1 68 .sub 67 (.int .i64 1),
 ii 69 (.iad 4) [.t 66,.t 68],
 ii 70 (.load 4 true false) [.t 69],
 ⟨some 11,none,.alloc 5 4 [Z0,Z0,Z0,Z0],[]⟩,
 ⟨none,none,.store 4,[.t 11,.t 70]⟩]) (.lay 5 4))
 (.seq
 (.regd [fa 71 1 11,
 ii 72 (.at 5 (.load 1 false false)) [.t 71],
 fa 73 2 11,
 ii 74 (.at 5 (.load 1 false false)) [.t 73],
 b2 75 .add 72 74,
 fa 76 1 4,
 ii 77 (.at 1 (.load 1 false false)) [.t 76],
 b2 78 .leq 75 77,
 mv 79 78,
 gt 80 79 (.at 2 (.load 2 true false)) [.t 5],
 gt 81 79 (.pl (.call 186)) [.t 80],
 gt 82 79 (.fad 0) [.t 4],
 gt 83 79 (.at 1 (.load 1 false false)) [.t 82],
 gt 84 79 (.mov false) [.t 7],
 gt 85 79 (.bin .sub) [.t 84,cI 1],
 gt 86 79 (.fad 3) [.t 3],
 gt 87 79 (.at 0 (.load 1 false false)) [.t 86],
 gt 88 79 (.bin .mul) [.t 85,.t 87],
 gt 89 79 (.bin .add) [.t 83,.t 88],
 gt 90 79 (.bin .eql) [.t 81,.t 89],
 ii 91 .pick [.t 79,.t 90,.c (.p (.bool false))],
 mt 6 91])
 .ret))))))⟩
theorem QQ:aI Tryz.prog 219 OD=true:=by kernel_rfl
def XI:Fn:=⟨65,3,[.tmp 8,.tmp 9],
 (.sr [ii 4 (.box 0 5) [.t 0],
 ii 5 (.box 1 4) [.t 1],
 ii 8 (.mov true) [.c (.ow 4 true [])],
 mc 9 (.bool false)]
 (.sr [ii 10 (.mov true) [.c (.ow 4 true [])]]
 (.sr [fa 16 0 5,
 ld 17 16,
 mt 11 17]
 (.seq
 (.sr [mv 18 3,
 ii 19 .len [.t 18],
 ii 20 (.mov false) [cI 0]]
 (.block 0
 (.loop [0,1,3,5,8,9,12,13,14,15,16,17,21,22,23,24,25,26,27,28,29,30,31,32,33,34,35,36,37,38,39,40,41,42,43,44,45,46,47,48,49,50,51,52,53,54,55,56,57,58,59,60,61,62,63,64] [2]
 (.sr [b2 21 .lss 20 19]
 (.seq
 (.cond (.t 21)
 .skip
 (.exit 0))
 (.seq
 (.block 1
 (.seq
 (.gp (.reg [mv 22 20,
 ii 23 (.iad 2) [.t 18,.t 20],
 ii 24 (.load 2 true false) [.t 23],
 ⟨some 13,none,.alloc 2 2 [Z0,Z0],[]⟩,
 mt 12 22,
 ⟨none,none,.store 2,[.t 13,.t 24]⟩]) (.lay 2 2))
 (.seq
 (.sr [mv 25 11,
 b1 26 .eql 25 (.int .i64 0)]
 (.cond (.t 26)
 (.exit 0)
 .skip))
 (.sr [fa 27 3 4,
 ld 28 27,
 mt 14 28]
 (.seq
 (.sr [mv 29 12,
 b1 30 .eql 29 (.int .i64 0)]
 (.cond (.t 30)
 (.reg [mc 14 (.int .i64 0)])
 .skip))
 (.sr [fa 31 1 13,
 ld 32 31,
 mv 33 14,
 b2 34 .sub 32 33,
 mv 35 11,
 ii 36 .mn [.t 34,.t 35],
 mt 15 36]
 (.sr [mt 37 10,
 fa 38 0 13,
 ld 39 38,
 mv 40 12,
 mv 41 2,
 fa 42 2 4,
 ld 43 42,
 b2 44 .add 41 43,
 b2 45 .mul 40 44,
 mv 46 2,
 mv 47 14,
 mv 48 15,
 b2 49 .add 47 48,
 ⟨some 50,none,.build [.int .i64 0,.int .i64 0,.int .i64 0,.int .i64 0] [(0,1),(1,1),(2,1),(3,1)],[.t 39,.t 45,.t 46,.t 49]⟩,
 ii 51 (.bsl 4 1) [.t 50],
 ii 52 (.app 4 32) [.t 37,.t 51],
 mt 10 52]
 (.reg [mv 53 11,
 mv 54 15,
 b2 55 .sub 53 54,
 mt 11 55]))))))))
 (.reg [b1 56 .add 20 (.int .i64 1),
 mv 20 56])))))))
 (.sr [mv 57 10,
 mv 58 11,
 b1 59 .eql 58 (.int .i64 0),
 mv 60 59,
 gt 61 60 (.mov false) [.t 10],
 gt 62 60 .len [.t 61],
 gt 63 60 (.bin .gtr) [.t 62,cI 1],
 ii 64 .pick [.t 60,.t 63,.c (.p (.bool false))],
 mt 8 57,
 mt 9 64]
 .ret)))))⟩
theorem ZS:aI Tryz.prog 83 XI=true:=by kernel_rfl
def VC:Fn:=⟨51,3,[.tmp 10],
 (.sr [ii 5 (.box 0 5) [.t 0],
 ii 7 (.box 1 4) [.t 2],
 ii 10 (.mov true) [.c (.ow 2 true [])]]
 (.sr [ii 11 (.mov true) [.c (.ow 2 true [])]]
 (.seq
 (.sr [mv 15 1,
 ii 16 .len [.t 15],
 ii 17 (.mov false) [cI 0]]
 (.block 0
 (.loop [0,1,2,10,12,13,14,18,19,20,21,22,23,24,25,26,27,28,29,30,31,32,33,34,35,36,37,38,39,40,41,42,43,44,45,46,47,48,49,50] []
 (.sr [b2 18 .lss 17 16]
 (.seq
 (.cond (.t 18)
 .skip
 (.exit 0))
 (.seq
 (.block 1
 (.sr [mv 19 17,
 ii 20 (.iad 1) [.t 15,.t 17],
 ld 21 20,
 mt 12 19,
 mt 13 21]
 (.sr [mv 22 13,
 mv 23 4,
 fa 24 2 7,
 ld 25 24,
 mv 26 4,
 ii 27 (.call 130) [.t 22,.t 23,.t 25,.t 26],
 mt 14 27]
 (.sr [mv 28 14,
 fa 29 3 5,
 ld 30 29,
 b2 31 .gtr 28 30]
 (.cond (.t 31)
 (.reg [mt 32 11,
 mv 33 12,
 mv 34 14,
 ⟨some 35,none,.build [.int .i64 0,.int .i64 0] [(0,1),(1,1)],[.t 33,.t 34]⟩,
 ii 36 (.bsl 2 1) [.t 35],
 ii 37 (.app 2 16) [.t 32,.t 36],
 mt 11 37])
 .skip)))))
 (.reg [b1 38 .add 17 (.int .i64 1),
 mv 17 38])))))))
 (.seq
 (.sr [mv 39 11,
 ii 40 .len [.t 39],
 mv 41 3,
 b2 42 .lss 40 41]
 (.cond (.t 42)
 (.sr [ii 10 (.mov true) [.c (.ow 2 true [])]]
 .ret)
 .skip))
 (.seq
 (.pre [0,1,2,4,5,7,10,12,13,14,15,16,17,18,19,20,21,22,23,24,25,26,27,28,29,30,31,32,33,34,35,36,37,38,39,40,41,42,43,44,45,46,47,48,49,50] [] [0,1] (.own 11 2 true (.reg [mv 43 11,
 ii 44 (.callm 131 2) [.t 43,.c (.p (.fn 132 []))]])))
 (.sr [mv 45 11,
 mv 46 3,
 ii 47 (.slb 2 2) [.t 45,.t 46],
 mt 11 47]
 (.sr [mv 48 11,
 ii 49 (.callm 133 2) [.t 48,.c (.p (.fn 134 []))]]
 (.sr [mv 50 11,
 mt 10 50]
 (.pre [] [2] [] .ret)))))))))⟩
theorem YN:aI Tryz.prog 84 VC=true:=by kernel_rfl
def NX:Fn:=⟨18,0,[.tmp 4],
 (.sr [mc 4 (.int .i64 0)]
 (.seq
 (.sr [mv 6 1,
 b1 7 .leq 6 (.int .i64 0)]
 (.cond (.t 7)
 (.sr [mc 4 (.int .i64 0)]
 .ret)
 .skip))
 (.sr [mv 8 0,
 mv 9 1,
 b2 10 .quo 8 9,
 mt 5 10]
 (.seq
 (.sr [mv 11 0,
 mv 12 1,
 b2 13 .rem 11 12,
 b1 14 .lss 13 (.int .i64 0)]
 (.cond (.t 14)
 (.reg [mv 15 5,
 b1 16 .sub 15 (.int .i64 1),
 mt 5 16])
 .skip))
 (.sr [mv 17 5,
 mt 4 17]
 .ret)))))⟩
theorem LO:aI Tryz.prog 129 NX=true:=by kernel_rfl
def XK:Fn:=⟨77,3,[.cell 10 2,.tmp 11],
 (.sr [ii 5 (.box 0 5) [.t 0],
 ii 7 (.box 1 4) [.t 2],
 ⟨some 10,none,.alloc 2 2 [Z0,.ow 4 true []],[]⟩,
 mc 11 (.bool false)]
 (.seq
 (.regd [mv 15 1,
 mv 16 3,
 ii 17 (.iad 1) [.t 15,.t 16],
 ii 18 (.loadp 1 false) [.t 17],
 fa 19 2 7,
 ii 20 (.at 1 (.load 1 false false)) [.t 19],
 fa 21 0 7,
 ii 22 (.at 1 (.load 1 false false)) [.t 21],
 b1 23 .sub 22 (.int .i64 1),
 ii 24 (.pl (.call 135)) [.t 18,.t 20,.t 23],
 mt 12 24])
 (.seq
 (.regd [fa 25 0 7,
 ii 26 (.at 1 (.load 1 false false)) [.t 25],
 mv 27 12,
 b2 28 .sub 26 27,
 fa 29 3 5,
 ii 30 (.at 0 (.load 1 false false)) [.t 29],
 b2 31 .add 28 30,
 fa 32 1 7,
 ii 33 (.at 1 (.load 1 false false)) [.t 32],
 mv 34 12,
 b2 35 .sub 33 34,
 fa 36 2 5,
 ii 37 (.at 0 (.load 1 false false)) [.t 36],
 b2 38 .sub 35 37,
 mt 13 31,
 mt 14 38])
 (.seq
 (.seq
 (.regd [mv 39 12,
 b1 40 .lss 39 (.int .i64 1),
 mv 41 40,
 gf 42 41 (.mov false) [.t 13],
 gf 43 41 (.mov false) [.t 14],
 gf 44 41 (.bin .gtr) [.t 42,.t 43],
 ii 45 .pick [.t 41,.c (.p (.bool true)),.t 44],
 mv 46 45,
 gf 47 46 (.mov false) [.t 1],
 gf 48 46 (.mov false) [.t 4],
 gf 49 46 (.iad 1) [.t 47,.t 48],
 gf 50 46 (.loadp 1 false) [.t 49],
 gf 51 46 (.pl (.call 137)) [.t 50],
 gf 52 46 (.mov false) [.t 13],
 gf 53 46 (.mov false) [.t 14],
 gf 54 46 (.fad 2) [.t 7],
 gf 55 46 (.at 1 (.load 1 false false)) [.t 54],
 ⟨some 56,(some (46,false)),.build [.int .i64 0,.int .i64 0,.int .i64 0] [(0,1),(1,1),(2,1)],[.t 52,.t 53,.t 55]⟩,
 gf 57 46 (.bsl 3 1) [.t 56],
 gf 58 46 (.pl (.app 3 24)) [.t 51,.t 57],
 gf 59 46 (.pl (.call 136)) [.t 58],
 gf 60 46 (.un .not) [.t 59],
 ii 61 .pick [.t 46,.c (.p (.bool true)),.t 60]])
 (.cond (.t 61)
 (.seq
 (.gp (.reg [⟨some 62,none,.build [.int .i64 0,.sl 4 true []] [],[]⟩,
 ⟨none,none,.store 2,[.t 10,.t 62]⟩,
 mc 11 (.bool false)]) (.lay 2 2))
 .ret)
 .skip))
 (.seq
 (.gp (.reg [mv 63 3,
 mv 64 12,
 mv 65 12,
 ⟨some 66,none,.build [.int .i64 0,.int .i64 0,.int .i64 0,.int .i64 0] [(0,1),(2,1),(3,1)],[.t 63,.t 64,.t 65]⟩,
 mv 67 4,
 mv 68 12,
 fa 69 2 5,
 ld 70 69,
 b2 71 .add 68 70,
 mv 72 14,
 mv 73 13,
 ⟨some 74,none,.build [.int .i64 0,.int .i64 0,.int .i64 0,.int .i64 0] [(0,1),(1,1),(2,1),(3,1)],[.t 67,.t 71,.t 72,.t 73]⟩,
 ii 75 (.bsl 4 2) [.t 66,.t 74],
 ⟨some 76,none,.build [.int .i64 0,.sl 4 true []] [(0,1),(1,1)],[cI 3,.t 75]⟩,
 ⟨none,none,.store 2,[.t 10,.t 76]⟩,
 mc 11 (.bool true)]) (.lay 2 2))
 .ret)))))⟩
theorem YF:aI Tryz.prog 85 XK=true:=by kernel_rfl
def KV:Fn:=⟨26,0,[.tmp 4],
 (.sr [mc 4 (.bool false)]
 (.seq
 (.sr [mv 6 0,
 ii 7 .len [.t 6],
 mv 8 1,
 ii 9 .len [.t 8],
 b2 10 .neq 7 9]
 (.cond (.t 10)
 (.sr [mc 4 (.bool false)]
 .ret)
 .skip))
 (.seq
 (.sr [mv 11 0,
 ii 12 .len [.t 11],
 ii 13 (.mov false) [cI 0]]
 (.block 0
 (.loop [4,5,6,7,8,9,10,11,14,15,16,17,18,19,20,21,22,23,24,25] []
 (.sr [b2 14 .lss 13 12]
 (.seq
 (.cond (.t 14)
 .skip
 (.exit 0))
 (.seq
 (.block 1
 (.sr [mv 15 13,
 mt 5 15]
 (.seq
 (.regd [mv 16 0,
 mv 17 5,
 ii 18 (.iad 4) [.t 16,.t 17],
 ii 19 (.loadp 4 true) [.t 18],
 mv 20 1,
 mv 21 5,
 ii 22 (.iad 4) [.t 20,.t 21],
 ii 23 (.loadp 4 true) [.t 22],
 ii 24 (.eqs 4 true) [.t 19,.t 23]])
 (.cond (.t 24)
 (.sr [mc 4 (.bool false)]
 .ret)
 .skip))))
 (.reg [b1 25 .add 13 (.int .i64 1),
 mv 13 25])))))))
 (.sr [mc 4 (.bool true)]
 .ret))))⟩
theorem RB:aI Tryz.prog 220 KV=true:=by kernel_rfl
open Go.RowKit
def O0:Fn:=⟨83,4,[.tmp 0],
 (.sr [mc 0 (.bool false)]
 (.seq
 (.gp (.reg [ii 6 (.bsl 1 1) [cI 0],
 ⟨some 7,none,.build [.int .i64 0,.int .i64 0,.int .i64 0,.int .i64 0,.sl 1 true []] [(0,1),(1,1),(2,1),(4,1)],[cI 2,cI 1,cI 1,.t 6]⟩,
 ⟨some 1,none,.alloc 0 5 [Z0,Z0,Z0,Z0,.ow 1 true []],[]⟩,
 ⟨none,none,.store 5,[.t 1,.t 7]⟩]) (.lay 0 5))
 (.seq
 (.gp (.reg [⟨some 8,none,.build [.int .i64 0,.int .i64 0,.int .i64 0] [(1,1),(2,1)],[cI 1,cI 2]⟩,
 ii 9 (.bsl 3 1) [.t 8],
 ⟨some 10,none,.build [.int .i64 0,.int .i64 0,.int .i64 0,.sl 3 true []] [(0,1),(1,1),(2,1),(3,1)],[cI 3,cI 20,cI 20,.t 9]⟩,
 ⟨some 2,none,.alloc 1 4 [Z0,Z0,Z0,.ow 3 true []],[]⟩,
 ⟨none,none,.store 4,[.t 2,.t 10]⟩]) (.lay 1 4))
 (.seq
 (.gp (.reg [⟨some 11,none,.build [.int .i64 0,.int .i64 0,.int .i64 0] [(1,1),(2,1)],[cI 1,cI 4]⟩,
 ii 12 (.bsl 3 1) [.t 11],
 ⟨some 13,none,.build [.int .i64 0,.int .i64 0,.int .i64 0,.sl 3 true []] [(0,1),(1,1),(2,1),(3,1)],[cI 3,cI 20,cI 30,.t 12]⟩,
 ⟨some 3,none,.alloc 2 4 [Z0,Z0,Z0,.ow 3 true []],[]⟩,
 ⟨none,none,.store 4,[.t 3,.t 13]⟩]) (.lay 2 4))
 (.seq
 (.gp (.reg [⟨some 14,none,.build [.int .i64 0,.int .i64 0,.int .i64 0,.int .i64 0] [(0,1),(2,1),(3,1)],[cI 1,cI 20,cI 3]⟩,
 ii 15 (.bsl 4 1) [.t 14],
 ⟨some 16,none,.build [.int .i64 0,.sl 4 true []] [(0,1),(1,1)],[cI 1,.t 15]⟩,
 ⟨some 4,none,.alloc 3 2 [Z0,.ow 4 true []],[]⟩,
 ⟨none,none,.store 2,[.t 4,.t 16]⟩]) (.lay 3 2))
 (.sr [ii 17 (.load 5 true false) [.t 1],
 ii 18 (.load 4 true false) [.t 2],
 ii 19 (.load 4 true false) [.t 3],
 ii 20 (.bsl 4 2) [.t 18,.t 19],
 ii 21 (.load 2 true false) [.t 4],
 ii 22 (.load 2 true false) [.t 4],
 ii 23 (.bsl 2 2) [.t 21,.t 22],
 ii 24 (.call 154) [.t 17,.t 20,.t 23],
 mt 5 24]
 (.sr [ii 25 (.call 240) [],
 mv 26 25,
 gt 27 26 (.load 5 true false) [.t 1],
 gt 28 26 (.load 4 true false) [.t 3],
 gt 29 26 (.call 188) [.t 27,.t 28,cI 0],
 gt 30 26 (.bin .eql) [.t 29,cI 4],
 ii 31 .pick [.t 26,.t 30,.c (.p (.bool false))],
 mv 32 31,
 gt 33 32 (.load 5 true false) [.t 1],
 gt 34 32 (.load 4 true false) [.t 2],
 gt 35 32 (.load 4 true false) [.t 3],
 gt 36 32 (.bsl 4 2) [.t 34,.t 35],
 gt 37 32 (.call 158) [.t 33,.t 36,cI 0,cI 0],
 gt 38 32 (.bin .eql) [.t 37,cI 8],
 ii 39 .pick [.t 32,.t 38,.c (.p (.bool false))],
 mv 40 39,
 gt 41 40 (.load 5 true false) [.t 1],
 gt 42 40 (.load 4 true false) [.t 2],
 gt 43 40 (.load 4 true false) [.t 3],
 gt 44 40 (.bsl 4 2) [.t 42,.t 43],
 gt 45 40 (.call 149) [.t 41,.t 44,cI 1],
 gt 46 40 (.bin .eql) [.t 45,cI 8],
 ii 47 .pick [.t 40,.t 46,.c (.p (.bool false))],
 mv 48 47,
 gt 49 48 (.mov false) [.t 5],
 gt 50 48 .len [.t 49],
 gt 51 48 (.bin .eql) [.t 50,cI 2],
 ii 52 .pick [.t 48,.t 51,.c (.p (.bool false))],
 mv 53 52,
 gt 54 53 (.mov false) [.t 5],
 gt 55 53 (.iad 1) [.t 54,cI 0],
 gt 56 53 (.load 1 false false) [.t 55],
 gt 57 53 .len [.t 56],
 gt 58 53 (.bin .eql) [.t 57,cI 0],
 ii 59 .pick [.t 53,.t 58,.c (.p (.bool false))],
 mv 60 59,
 gt 61 60 (.mov false) [.t 5],
 gt 62 60 (.iad 1) [.t 61,cI 1],
 gt 63 60 (.load 1 false false) [.t 62],
 gt 64 60 .len [.t 63],
 gt 65 60 (.bin .eql) [.t 64,cI 2],
 ii 66 .pick [.t 60,.t 65,.c (.p (.bool false))],
 mv 67 66,
 gt 68 67 (.mov false) [.t 5],
 gt 69 67 (.iad 1) [.t 68,cI 1],
 gt 70 67 (.load 1 false false) [.t 69],
 gt 71 67 (.iad 3) [.t 70,cI 0],
 gt 72 67 (.fad 0) [.t 71],
 gt 73 67 (.load 1 false false) [.t 72],
 gt 74 67 (.bin .eql) [.t 73,cI 11],
 ii 75 .pick [.t 67,.t 74,.c (.p (.bool false))],
 mv 76 75,
 gt 77 76 (.mov false) [.t 5],
 gt 78 76 (.iad 1) [.t 77,cI 1],
 gt 79 76 (.load 1 false false) [.t 78],
 gt 80 76 (.call 241) [.t 79],
 gt 81 76 (.bin .eql) [.t 80,cI 9167],
 ii 82 .pick [.t 76,.t 81,.c (.p (.bool false))],
 mt 0 82]
 .ret)))))))⟩
theorem UP:aI Tryz.prog 217 O0=true:=by kernel_rfl
def LM:Fn:=⟨22,0,[.tmp 2,.tmp 3],
 (.sr [mc 2 (.int .i64 0),
 mc 3 (.bool false)]
 (.seq
 (.sr [mv 6 0,
 ii 7 (.call 209) [.t 6],
 ii 8 (.un .not) [.t 7]]
 (.cond (.t 8)
 (.sr [mc 2 (.int .i64 0),
 mc 3 (.bool false)]
 .ret)
 .skip))
 (.seq
 (.sr [mv 9 0,
 ii 10 .len [.t 9],
 b1 11 .eql 10 (.int .i64 0)]
 (.cond (.t 11)
 (.sr [mc 2 (.int .i64 0),
 mc 3 (.bool true)]
 .ret)
 .skip))
 (.seq
 (.sr [mc 4 (.int .i64 1)]
 (.block 0
 (.loop [2,3,5,6,7,8,9,10,11,12,13,14,15,16,17,18,19,20,21] []
 (.seq
 (.sr [mv 12 4,
 b1 13 .leq 12 (.int .i64 20000)]
 (.cond (.t 13)
 .skip
 (.exit 0)))
 (.block 1
 (.sr [mv 14 0,
 mv 15 4,
 ii 16 (.call 210) [.t 14,.t 15],
 mt 5 16]
 (.seq
 (.sr [mv 17 5,
 mv 18 4,
 b2 19 .eql 17 18]
 (.cond (.t 19)
 (.sr [mv 20 4,
 mt 2 20,
 mc 3 (.bool true)]
 .ret)
 .skip))
 (.reg [mv 21 5,
 mt 4 21]))))))))
 (.sr [mc 2 (.int .i64 0),
 mc 3 (.bool false)]
 .ret)))))⟩
theorem E6:aI Tryz.prog 174 LM=true:=by kernel_rfl
def OL:Fn:=⟨45,1,[.tmp 2,.tmp 3],
 (.sr [mc 2 (.int .i64 0),
 mc 3 (.bool false)]
 (.sr [mv 11 0,
 ii 12 (.call 174) [.t 11],
 mv 10 12,
 ii 13 (.ext 0) [.t 10],
 ii 14 (.ext 1) [.t 10],
 mt 4 13,
 mt 5 14]
 (.seq
 (.sr [mv 15 5,
 ii 16 (.un .not) [.t 15]]
 (.cond (.t 16)
 (.sr [mc 2 (.int .i64 0),
 mc 3 (.bool false)]
 .ret)
 .skip))
 (.sr [mv 17 4,
 b1 18 .add 17 (.int .i64 1),
 mt 6 18]
 (.seq
 (.sr [mv 19 0,
 ii 20 .len [.t 19],
 ii 21 (.mov false) [cI 0]]
 (.block 0
 (.loop [2,3,5,8,9,10,11,12,13,14,15,16,17,18,22,23,24,25,26,27,28,29,30,31,32,33,34,35,36,37,38,39,40,41,42,43,44] [0]
 (.sr [b2 22 .lss 21 20]
 (.seq
 (.cond (.t 22)
 .skip
 (.exit 0))
 (.seq
 (.block 1
 (.seq
 (.gp (.reg [ii 23 (.iad 3) [.t 19,.t 21],
 ii 24 (.load 3 true false) [.t 23],
 ⟨some 8,none,.alloc 0 3 [Z0,Z0,Z0],[]⟩,
 ⟨none,none,.store 3,[.t 8,.t 24]⟩]) (.lay 0 3))
 (.sr [fa 25 1 8,
 ld 26 25,
 mt 9 26]
 (.block 2
 (.loop [2,3,5,10,11,12,13,14,15,16,17,18,22,23,24,25,26,27,28,29,30,31,32,33,34,35,36,37,38,39,40,41,42,43,44] []
 (.seq
 (.sr [mv 27 9,
 mv 28 6,
 b2 29 .lss 27 28]
 (.cond (.t 29)
 .skip
 (.exit 2)))
 (.seq
 (.block 3
 (.sr [mv 34 0,
 mv 35 9,
 ii 36 (.call 211) [.t 34,.t 35],
 mv 37 9,
 b2 38 .gtr 36 37]
 (.cond (.t 38)
 (.reg [mv 39 9,
 mt 6 39])
 .skip)))
 (.reg [mv 30 9,
 fa 31 2 8,
 ld 32 31,
 b2 33 .add 30 32,
 mt 9 33]))))))))
 (.reg [b1 40 .add 21 (.int .i64 1),
 mv 21 40])))))))
 (.seq
 (.sr [mv 41 6,
 mv 42 4,
 b2 43 .gtr 41 42]
 (.cond (.t 43)
 (.sr [mc 2 (.int .i64 0),
 mc 3 (.bool false)]
 .ret)
 .skip))
 (.sr [mv 44 6,
 mt 2 44,
 mc 3 (.bool true)]
 .ret)))))))⟩
theorem I8:aI Tryz.prog 175 OL=true:=by kernel_rfl
def KS:Fn:=⟨15,0,[.tmp 6],
 (.sr [mc 6 (.bool false)]
 (.sr [mv 7 0,
 mv 8 1,
 b2 9 .geq 7 8,
 mv 10 9,
 gt 11 10 (.mov false) [.t 0],
 gt 12 10 (.mov false) [.t 2],
 gt 13 10 (.bin .leq) [.t 11,.t 12],
 ii 14 .pick [.t 10,.t 13,.c (.p (.bool false))],
 mt 6 14]
 .ret))⟩
theorem PE:aI Tryz.prog 126 KS=true:=by kernel_rfl
def L3:Fn:=⟨12,0,[.tmp 3],
 (.sr [mc 3 (.bool false)]
 (.sr [mv 4 0,
 b1 5 .lss 4 (.int .i64 0),
 mv 6 5,
 gf 7 6 (.mov false) [.t 0],
 gf 8 6 (.fad 1) [.t 1],
 gf 9 6 (.load 1 false false) [.t 8],
 gf 10 6 (.bin .geq) [.t 7,.t 9],
 ii 11 .pick [.t 6,.c (.p (.bool true)),.t 10],
 mt 3 11]
 .ret))⟩
theorem SH:aI Tryz.prog 127 L3=true:=by kernel_rfl
def NF:Fn:=⟨9,0,[.tmp 4],
 (.sr [mc 4 (.bool false)]
 (.sr [mv 5 0,
 mv 6 1,
 ii 7 (.call 168) [.t 5,.t 6],
 b1 8 .geq 7 (.int .i64 0),
 mt 4 8]
 .ret))⟩
theorem QM:aI Tryz.prog 128 NF=true:=by kernel_rfl
def M1:Fn:=⟨47,2,[.tmp 4],
 (.sr [ii 2 (.box 0 5) [.t 0],
 ii 3 (.box 1 4) [.t 1],
 mc 4 (.bool false)]
 (.sr [fa 6 0 3,
 ld 7 6,
 b1 8 .geq 7 (.int .i64 0),
 mv 9 8,
 gt 10 9 (.fad 0) [.t 3],
 gt 11 9 (.load 1 false false) [.t 10],
 gt 12 9 (.fad 0) [.t 2],
 gt 13 9 (.load 1 false false) [.t 12],
 gt 14 9 (.bin .lss) [.t 11,.t 13],
 ii 15 .pick [.t 9,.t 14,.c (.p (.bool false))],
 mv 16 15,
 gt 17 16 (.fad 1) [.t 3],
 gt 18 16 (.load 1 false false) [.t 17],
 gt 19 16 (.call 126) [.t 18,cI 0,cI 200],
 ii 20 .pick [.t 16,.t 19,.c (.p (.bool false))],
 mt 5 20]
 (.sr [mv 21 5,
 mv 22 21,
 gt 23 22 (.fad 3) [.t 3],
 gt 24 22 (.load 1 false false) [.t 23],
 gt 25 22 (.bin .geq) [.t 24,cI 1],
 ii 26 .pick [.t 22,.t 25,.c (.p (.bool false))],
 mv 27 26,
 gt 28 27 (.fad 3) [.t 3],
 gt 29 27 (.load 1 false false) [.t 28],
 gt 30 27 (.fad 2) [.t 3],
 gt 31 27 (.load 1 false false) [.t 30],
 gt 32 27 (.bin .leq) [.t 29,.t 31],
 ii 33 .pick [.t 27,.t 32,.c (.p (.bool false))],
 mv 34 33,
 gt 35 34 (.fad 2) [.t 3],
 gt 36 34 (.load 1 false false) [.t 35],
 gt 37 34 (.bin .leq) [.t 36,cI 200],
 ii 38 .pick [.t 34,.t 37,.c (.p (.bool false))],
 mv 39 38,
 gt 40 39 (.fad 1) [.t 3],
 gt 41 39 (.load 1 false false) [.t 40],
 gt 42 39 (.fad 2) [.t 3],
 gt 43 39 (.load 1 false false) [.t 42],
 gt 44 39 (.bin .add) [.t 41,.t 43],
 gt 45 39 (.bin .leq) [.t 44,cI 200],
 ii 46 .pick [.t 39,.t 45,.c (.p (.bool false))],
 mt 4 46]
 .ret)))⟩
theorem SX:aI Tryz.prog 242 M1=true:=by kernel_rfl
def XM:Fn:=⟨40,0,[.tmp 8],
 (.sr [mc 8 (.int .i64 0)]
 (.seq
 (.sr [mv 12 0,
 mv 13 1,
 mv 14 2,
 ii 15 (.call 169) [.t 12,.t 13,.t 14],
 ii 16 (.un .not) [.t 15]]
 (.cond (.t 16)
 (.sr [mc 8 (.int .i64 0)]
 .ret)
 .skip))
 (.sr [mv 17 3,
 mv 18 1,
 ii 19 .mn [.t 17,.t 18],
 mc 9 (.int .i64 0),
 mt 10 19]
 (.seq
 (.block 0
 (.loop [3,8,11,12,13,14,15,16,17,18,19,20,21,22,23,24,25,26,27,28,29,30,31,32,33,34,35,36,37,38,39] []
 (.seq
 (.sr [mv 20 9,
 mv 21 10,
 b2 22 .lss 20 21]
 (.cond (.t 22)
 .skip
 (.exit 0)))
 (.block 1
 (.sr [mv 23 9,
 mv 24 10,
 mv 25 9,
 b2 26 .sub 24 25,
 b1 27 .add 26 (.int .i64 1),
 b1 28 .quo 27 (.int .i64 2),
 b2 29 .add 23 28,
 mt 11 29]
 (.sr [mv 30 0,
 mv 31 11,
 mv 32 1,
 mv 33 2,
 ⟨some 34,none,.build [.int .i64 0,.int .i64 0,.int .i64 0] [(0,1),(1,1),(2,1)],[.t 31,.t 32,.t 33]⟩,
 ii 35 (.call 170) [.t 30,.t 34]]
 (.cond (.t 35)
 (.reg [mv 36 11,
 mt 9 36])
 (.reg [mv 37 11,
 b1 38 .sub 37 (.int .i64 1),
 mt 10 38]))))))))
 (.sr [mv 39 9,
 mt 8 39]
 .ret)))))⟩
theorem QC:aI Tryz.prog 130 XM=true:=by kernel_rfl
def MS:Fn:=⟨9,0,[],
 (.reg [mv 4 0,
 mv 5 0,
 ii 6 .len [.t 5],
 mv 7 1,
 ii 8 (.callm 171 0) [.t 4,.t 6,.t 7]])⟩
theorem SK:aI Tryz.prog 131 MS=true:=by kernel_rfl
def PK:Fn:=⟨10,2,[.tmp 4],
 (.sr [ii 2 (.box 0 2) [.t 0],
 ii 3 (.box 1 2) [.t 1],
 mc 4 (.int .i64 0)]
 (.sr [fa 5 1 3,
 ld 6 5,
 fa 7 1 2,
 ld 8 7,
 ii 9 (.call 67) [.t 6,.t 8],
 mt 4 9]
 .ret))⟩
theorem QW:aI Tryz.prog 132 PK=true:=by kernel_rfl
def W9:Fn:=⟨20,0,[.tmp 4],
 (.sr [mc 4 (.int .i64 0)]
 (.sr [mv 7 0,
 ii 8 (.call 97) [.t 7],
 mt 5 8]
 (.sr [mv 9 1,
 ii 10 (.call 97) [.t 9],
 mt 6 10]
 (.seq
 (.sr [mv 11 5]
 (.cond (.t 11)
 (.seq
 (.sr [mv 12 6]
 (.cond (.t 12)
 (.sr [mc 4 (.int .i64 0)]
 .ret)
 .skip))
 (.sr [mc 4 (.int .i64 (-1))]
 .ret))
 .skip))
 (.seq
 (.sr [mv 13 6]
 (.cond (.t 13)
 (.sr [mc 4 (.int .i64 1)]
 .ret)
 .skip))
 (.seq
 (.sr [mv 14 0,
 mv 15 1,
 b2 16 .lss 14 15]
 (.cond (.t 16)
 (.sr [mc 4 (.int .i64 (-1))]
 .ret)
 .skip))
 (.seq
 (.sr [mv 17 0,
 mv 18 1,
 b2 19 .gtr 17 18]
 (.cond (.t 19)
 (.sr [mc 4 (.int .i64 1)]
 .ret)
 .skip))
 (.sr [mc 4 (.int .i64 0)]
 .ret))))))))⟩
theorem ZT:aI Tryz.prog 67 W9=true:=by kernel_rfl
def LD:Fn:=⟨14,0,[],
 (.sr [mv 5 0,
 ii 6 .len [.t 5],
 mt 4 6]
 (.reg [mv 7 0,
 mv 8 4,
 mv 9 4,
 ii 10 (.conv .u64) [.t 9],
 ii 11 (.call 173) [.t 10],
 mv 12 1,
 ii 13 (.callm 172 0) [.t 7,cI 0,.t 8,.t 11,.t 12]]))⟩
theorem T1:aI Tryz.prog 133 LD=true:=by kernel_rfl
def LI:Fn:=⟨10,2,[.tmp 4],
 (.sr [ii 2 (.box 0 2) [.t 0],
 ii 3 (.box 1 2) [.t 1],
 mc 4 (.int .i64 0)]
 (.sr [fa 5 0 2,
 ld 6 5,
 fa 7 0 3,
 ld 8 7,
 ii 9 (.call 68) [.t 6,.t 8],
 mt 4 9]
 .ret))⟩
theorem TJ:aI Tryz.prog 134 LI=true:=by kernel_rfl
def VA:Fn:=⟨20,0,[.tmp 4],
 (.sr [mc 4 (.int .i64 0)]
 (.sr [mv 7 0,
 ii 8 (.call 98) [.t 7],
 mt 5 8]
 (.sr [mv 9 1,
 ii 10 (.call 98) [.t 9],
 mt 6 10]
 (.seq
 (.sr [mv 11 5]
 (.cond (.t 11)
 (.seq
 (.sr [mv 12 6]
 (.cond (.t 12)
 (.sr [mc 4 (.int .i64 0)]
 .ret)
 .skip))
 (.sr [mc 4 (.int .i64 (-1))]
 .ret))
 .skip))
 (.seq
 (.sr [mv 13 6]
 (.cond (.t 13)
 (.sr [mc 4 (.int .i64 1)]
 .ret)
 .skip))
 (.seq
 (.sr [mv 14 0,
 mv 15 1,
 b2 16 .lss 14 15]
 (.cond (.t 16)
 (.sr [mc 4 (.int .i64 (-1))]
 .ret)
 .skip))
 (.seq
 (.sr [mv 17 0,
 mv 18 1,
 b2 19 .gtr 17 18]
 (.cond (.t 19)
 (.sr [mc 4 (.int .i64 1)]
 .ret)
 .skip))
 (.sr [mc 4 (.int .i64 0)]
 .ret))))))))⟩
theorem YQ:aI Tryz.prog 68 VA=true:=by kernel_rfl
def W3:Fn:=⟨31,0,[.tmp 6],
 (.sr [mc 6 (.int .i64 0)]
 (.seq
 (.sr [mv 8 0,
 mv 9 1,
 mv 10 1,
 ii 11 (.call 169) [.t 8,.t 9,.t 10],
 ii 12 (.un .not) [.t 11]]
 (.cond (.t 12)
 (.sr [mc 6 (.int .i64 0)]
 .ret)
 .skip))
 (.sr [mc 7 (.int .i64 0)]
 (.seq
 (.block 0
 (.loop [6,8,9,10,11,12,13,14,15,16,17,18,19,20,21,22,23,24,25,26,27,28,29,30] []
 (.seq
 (.sr [mv 13 7,
 mv 14 2,
 mv 15 1,
 ii 16 .mn [.t 14,.t 15],
 b2 17 .lss 13 16,
 mv 18 17,
 gt 19 18 (.mov false) [.t 0],
 gt 20 18 (.mov false) [.t 7],
 gt 21 18 (.bin .add) [.t 20,cI 1],
 gt 22 18 (.mov false) [.t 7],
 gt 23 18 (.bin .add) [.t 22,cI 1],
 gt 24 18 (.mov false) [.t 1],
 ⟨some 25,(some (18,true)),.build [.int .i64 0,.int .i64 0,.int .i64 0] [(0,1),(1,1),(2,1)],[.t 21,.t 23,.t 24]⟩,
 gt 26 18 (.call 170) [.t 19,.t 25],
 ii 27 .pick [.t 18,.t 26,.c (.p (.bool false))]]
 (.cond (.t 27)
 .skip
 (.exit 0)))
 (.block 1
 (.reg [mv 28 7,
 b1 29 .add 28 (.int .i64 1),
 mt 7 29])))))
 (.sr [mv 30 7,
 mt 6 30]
 .ret)))))⟩
theorem R8:aI Tryz.prog 135 W3=true:=by kernel_rfl
def NT:Fn:=⟨60,3,[.tmp 6],
 (.sr [ii 3 (.box 0 5) [.t 0],
 ii 6 (.mov true) [.c (.ow 1 true [])]]
 (.seq
 (.sr [ii 13 (.load 5 true false) [.t 3],
 mv 14 1,
 ii 15 (.call 183) [.t 13,.t 14],
 ii 16 (.un .not) [.t 15],
 mv 17 16,
 gf 18 17 (.mov false) [.t 2],
 gf 19 17 .len [.t 18],
 gf 20 17 (.mov false) [.t 1],
 gf 21 17 .len [.t 20],
 gf 22 17 (.bin .neq) [.t 19,.t 21],
 ii 23 .pick [.t 17,.c (.p (.bool true)),.t 22]]
 (.cond (.t 23)
 (.sr [ii 6 (.mov true) [.c (.ow 1 true [])]]
 .ret)
 .skip))
 (.sr [fa 24 0 3,
 ld 25 24,
 ⟨some 26,none,.mksl 1 1 24 false [.ow 3 true []],[.t 25,.t 25]⟩,
 mt 7 26]
 (.seq
 (.sr [mv 27 2,
 ii 28 .len [.t 27],
 ii 29 (.mov false) [cI 0]]
 (.block 0
 (.loop [0,2,6,8,9,10,11,12,13,14,15,16,17,18,19,20,21,22,23,24,25,26,30,31,32,33,34,35,36,37,38,39,40,41,42,43,44,45,46,47,48,49,50,51,52,53,54,55,56,57,58,59] [2]
 (.sr [b2 30 .lss 29 28]
 (.seq
 (.cond (.t 30)
 .skip
 (.exit 0))
 (.seq
 (.block 1
 (.seq
 (.gp (.reg [mv 31 29,
 ii 32 (.iad 2) [.t 27,.t 29],
 ii 33 (.load 2 true false) [.t 32],
 ⟨some 9,none,.alloc 2 2 [Z0,.ow 4 true []],[]⟩,
 mt 8 31,
 ⟨none,none,.store 2,[.t 9,.t 33]⟩]) (.lay 2 2))
 (.sr [ii 34 (.load 5 true false) [.t 3],
 mv 35 1,
 mv 36 8,
 ii 37 (.load 2 true false) [.t 9],
 ii 38 (.call 177) [.t 34,.t 35,.t 36,.t 37],
 mt 10 38]
 (.seq
 (.sr [mv 39 10,
 ii 40 (.eqnil false) [.t 39,.c (.ow 1 true [])]]
 (.cond (.t 40)
 (.sr [ii 6 (.mov true) [.c (.ow 1 true [])]]
 (.pre [] [1] [] .ret))
 .skip))
 (.sr [mv 41 10,
 ii 42 .len [.t 41],
 ii 43 (.mov false) [cI 0]]
 (.block 2
 (.loop [0,2,6,8,9,10,11,12,13,14,15,16,17,18,19,20,21,22,23,24,25,26,30,31,32,33,34,35,36,37,38,39,40,44,45,46,47,48,49,50,51,52,53,54,55,56,57,58,59] []
 (.sr [b2 44 .lss 43 42]
 (.seq
 (.cond (.t 44)
 .skip
 (.exit 2))
 (.seq
 (.block 3
 (.sr [mv 45 43,
 ii 46 (.iad 1) [.t 41,.t 43],
 ld 47 46,
 mt 11 45,
 mt 12 47]
 (.reg [mv 48 7,
 mv 49 11,
 mv 50 7,
 mv 51 11,
 ii 52 (.iad 1) [.t 50,.t 51],
 ii 53 (.load 1 false true) [.t 52],
 mv 54 12,
 ii 55 (.app 3 24) [.t 53,.t 54],
 ii 56 (.iad 1) [.t 48,.t 49],
 ⟨none,none,.store 1,[.t 56,.t 55]⟩])))
 (.reg [b1 57 .add 43 (.int .i64 1),
 mv 43 57])))))))))))
 (.reg [b1 58 .add 29 (.int .i64 1),
 mv 29 58])))))))
 (.sr [mv 59 7,
 mt 6 59]
 (.pre [] [1] [] .ret))))))⟩
theorem SI:aI Tryz.prog 154 NT=true:=by kernel_rfl
def KK:Fn:=⟨2,0,[.tmp 0],
 (.sr [mc 0 (.bool false)]
 (.sr [ii 1 (.call 249) [],
 mt 0 1]
 .ret))⟩
theorem U0:aI Tryz.prog 240 KK=true:=by kernel_rfl
def L8:Fn:=⟨40,3,[.tmp 6],
 (.sr [ii 3 (.box 0 5) [.t 0],
 ii 4 (.box 1 4) [.t 1],
 mc 6 (.int .i64 0)]
 (.seq
 (.sr [ii 10 (.load 5 true false) [.t 3],
 ii 11 (.call 80) [.t 10],
 ii 12 (.un .not) [.t 11],
 mv 13 12,
 gf 14 13 (.load 5 true false) [.t 3],
 gf 15 13 (.load 4 true false) [.t 4],
 gf 16 13 (.call 81) [.t 14,.t 15],
 gf 17 13 (.un .not) [.t 16],
 ii 18 .pick [.t 13,.c (.p (.bool true)),.t 17]]
 (.cond (.t 18)
 (.sr [mc 6 (.int .i64 0)]
 .ret)
 .skip))
 (.sr [mc 7 (.int .i64 0)]
 (.seq
 (.sr [fa 19 3 4,
 ld 20 19,
 ii 21 .len [.t 20],
 ii 22 (.mov false) [cI 0]]
 (.block 0
 (.loop [0,1,4,6,9,10,11,12,13,14,15,16,17,18,19,23,24,25,26,27,28,29,30,31,32,33,34,35,36,37,38,39] [2]
 (.sr [b2 23 .lss 22 21]
 (.seq
 (.cond (.t 23)
 .skip
 (.exit 0))
 (.seq
 (.block 1
 (.seq
 (.gp (.reg [ii 24 (.iad 3) [.t 20,.t 22],
 ii 25 (.load 3 true false) [.t 24],
 ⟨some 9,none,.alloc 2 3 [Z0,Z0,Z0],[]⟩,
 ⟨none,none,.store 3,[.t 9,.t 25]⟩]) (.lay 2 3))
 (.sr [fa 26 4 3,
 ld 27 26,
 fa 28 0 9,
 ld 29 28,
 ii 30 (.iad 1) [.t 27,.t 29],
 ld 31 30,
 mv 32 2,
 b2 33 .eql 31 32]
 (.cond (.t 33)
 (.reg [mv 34 7,
 fa 35 2 9,
 ld 36 35,
 ii 37 .mx [.t 34,.t 36],
 mt 7 37])
 .skip))))
 (.reg [b1 38 .add 22 (.int .i64 1),
 mv 22 38])))))))
 (.sr [mv 39 7,
 mt 6 39]
 .ret)))))⟩
theorem RK:aI Tryz.prog 188 L8=true:=by kernel_rfl
def OB:Fn:=⟨69,3,[.tmp 8],
 (.sr [ii 4 (.box 0 5) [.t 0],
 mc 8 (.int .i64 0)]
 (.seq
 (.sr [ii 13 (.load 5 true false) [.t 4],
 mv 14 1,
 mv 15 2,
 ii 16 (.call 180) [.t 13,.t 14,.t 15],
 ii 17 (.un .not) [.t 16],
 mv 18 17,
 gf 19 18 (.mov false) [.t 3],
 gf 20 18 (.bin .lss) [.t 19,cI 0],
 ii 21 .pick [.t 18,.c (.p (.bool true)),.t 20],
 mv 22 21,
 gf 23 22 (.mov false) [.t 3],
 gf 24 22 (.mov false) [.t 1],
 gf 25 22 (.mov false) [.t 2],
 gf 26 22 (.iad 4) [.t 24,.t 25],
 gf 27 22 (.fad 3) [.t 26],
 gf 28 22 (.load 1 false false) [.t 27],
 gf 29 22 .len [.t 28],
 gf 30 22 (.bin .geq) [.t 23,.t 29],
 ii 31 .pick [.t 22,.c (.p (.bool true)),.t 30]]
 (.cond (.t 31)
 (.sr [mc 8 (.int .i64 0)]
 .ret)
 .skip))
 (.seq
 (.gp (.reg [mv 32 1,
 mv 33 2,
 ii 34 (.iad 4) [.t 32,.t 33],
 fa 35 3 34,
 ld 36 35,
 mv 37 3,
 ii 38 (.iad 3) [.t 36,.t 37],
 ii 39 (.load 3 true false) [.t 38],
 ⟨some 9,none,.alloc 1 3 [Z0,Z0,Z0],[]⟩,
 ⟨none,none,.store 3,[.t 9,.t 39]⟩]) (.lay 1 3))
 (.sr [fa 40 2 4,
 ld 41 40,
 ii 42 (.bin .mul) [cI 2,.t 41],
 fa 43 2 9,
 ld 44 43,
 b2 45 .add 42 44,
 mt 10 45]
 (.seq
 (.sr [mv 46 1,
 ii 47 .len [.t 46],
 ii 48 (.mov false) [cI 0]]
 (.block 0
 (.loop [0,1,3,8,11,12,13,14,15,16,17,18,19,20,21,22,23,24,25,26,27,28,29,30,31,32,33,34,35,36,37,38,39,40,41,42,43,44,45,49,50,51,52,53,54,55,56,57,58,59,60,61,62,63,64,65,66,67,68] [2]
 (.sr [b2 49 .lss 48 47]
 (.seq
 (.cond (.t 49)
 .skip
 (.exit 0))
 (.seq
 (.block 1
 (.seq
 (.gp (.reg [mv 50 48,
 ii 51 (.iad 4) [.t 46,.t 48],
 ii 52 (.load 4 true false) [.t 51],
 ⟨some 12,none,.alloc 2 4 [Z0,Z0,Z0,.ow 3 true []],[]⟩,
 mt 11 50,
 ⟨none,none,.store 4,[.t 12,.t 52]⟩]) (.lay 2 4))
 (.sr [mv 53 11,
 mv 54 2,
 b2 55 .neq 53 54]
 (.cond (.t 55)
 (.regd [mv 56 10,
 ii 57 (.at 0 (.load 5 true false)) [.t 4],
 ii 58 (.at 2 (.load 4 true false)) [.t 12],
 fa 59 4 4,
 ii 60 (.at 0 (.load 1 false false)) [.t 59],
 fa 61 0 9,
 ii 62 (.at 1 (.load 1 false false)) [.t 61],
 ii 63 (.iad 1) [.t 60,.t 62],
 ii 64 (.loadp 1 false) [.t 63],
 ii 65 (.pl (.call 188)) [.t 57,.t 58,.t 64],
 b2 66 .add 56 65,
 mt 10 66])
 .skip))))
 (.reg [b1 67 .add 48 (.int .i64 1),
 mv 48 67])))))))
 (.sr [mv 68 10,
 mt 8 68]
 .ret))))))⟩
theorem QI:aI Tryz.prog 158 OB=true:=by kernel_rfl
def LY:Fn:=⟨32,1,[.tmp 6],
 (.sr [ii 3 (.box 0 5) [.t 0],
 mc 6 (.int .i64 0)]
 (.seq
 (.sr [ii 9 (.load 5 true false) [.t 3],
 mv 10 1,
 mv 11 2,
 ii 12 (.call 180) [.t 9,.t 10,.t 11],
 ii 13 (.un .not) [.t 12]]
 (.cond (.t 13)
 (.sr [mc 6 (.int .i64 0)]
 .ret)
 .skip))
 (.sr [mc 7 (.int .i64 0)]
 (.seq
 (.sr [mv 14 1,
 mv 15 2,
 ii 16 (.iad 4) [.t 14,.t 15],
 fa 17 3 16,
 ld 18 17,
 ii 19 .len [.t 18],
 ii 20 (.mov false) [cI 0]]
 (.block 0
 (.loop [0,6,8,9,10,11,12,13,14,15,16,17,18,21,22,23,24,25,26,27,28,29,30,31] []
 (.sr [b2 21 .lss 20 19]
 (.seq
 (.cond (.t 21)
 .skip
 (.exit 0))
 (.seq
 (.block 1
 (.sr [mv 22 20,
 mt 8 22]
 (.reg [mv 23 7,
 ii 24 (.load 5 true false) [.t 3],
 mv 25 1,
 mv 26 2,
 mv 27 8,
 ii 28 (.call 158) [.t 24,.t 25,.t 26,.t 27],
 b2 29 .add 23 28,
 mt 7 29])))
 (.reg [b1 30 .add 20 (.int .i64 1),
 mv 20 30])))))))
 (.sr [mv 31 7,
 mt 6 31]
 .ret)))))⟩
theorem Q5:aI Tryz.prog 149 LY=true:=by kernel_rfl
def L9:Fn:=⟨22,1,[.tmp 2],
 (.sr [mc 2 (.int .i64 0)]
 (.sr [mc 3 (.int .i64 0)]
 (.seq
 (.sr [mv 6 0,
 ii 7 .len [.t 6],
 ii 8 (.mov false) [cI 0]]
 (.block 0
 (.loop [0,2,5,9,10,11,12,13,14,15,16,17,18,19,20,21] [0]
 (.sr [b2 9 .lss 8 7]
 (.seq
 (.cond (.t 9)
 .skip
 (.exit 0))
 (.seq
 (.block 1
 (.seq
 (.gp (.reg [ii 10 (.iad 3) [.t 6,.t 8],
 ii 11 (.load 3 true false) [.t 10],
 ⟨some 5,none,.alloc 0 3 [Z0,Z0,Z0],[]⟩,
 ⟨none,none,.store 3,[.t 5,.t 11]⟩]) (.lay 0 3))
 (.reg [mv 12 3,
 fa 13 0 5,
 ld 14 13,
 b1 15 .mul 14 (.int .i64 10000),
 fa 16 2 5,
 ld 17 16,
 ii 18 (.call 196) [.t 15,.t 17],
 b2 19 .add 12 18,
 mt 3 19])))
 (.reg [b1 20 .add 8 (.int .i64 1),
 mv 8 20])))))))
 (.sr [mv 21 3,
 mt 2 21]
 .ret))))⟩
theorem TU:aI Tryz.prog 241 L9=true:=by kernel_rfl
def MF:Fn:=⟨11,0,[.tmp 2],
 (.sr [mc 2 (.bool false)]
 (.sr [mv 3 0,
 ii 4 .len [.t 3],
 b1 5 .leq 4 (.int .i64 24),
 mv 6 5,
 gt 7 6 (.mov false) [.t 0],
 gt 8 6 (.call 232) [.t 7,.c (.p (.fn 233 []))],
 gt 9 6 (.un .not) [.t 8],
 ii 10 .pick [.t 6,.t 9,.c (.p (.bool false))],
 mt 2 10]
 .ret))⟩
theorem M4:aI Tryz.prog 209 MF=true:=by kernel_rfl
def KU:Fn:=⟨36,1,[.tmp 4],
 (.sr [mc 4 (.int .i64 0)]
 (.seq
 (.sr [mv 8 0,
 ii 9 (.call 209) [.t 8],
 ii 10 (.un .not) [.t 9],
 mv 11 10,
 gf 12 11 (.mov false) [.t 1],
 gf 13 11 (.bin .lss) [.t 12,cI 0],
 ii 14 .pick [.t 11,.c (.p (.bool true)),.t 13],
 mv 15 14,
 gf 16 15 (.mov false) [.t 1],
 gf 17 15 (.bin .gtr) [.t 16,cI 20000],
 ii 18 .pick [.t 15,.c (.p (.bool true)),.t 17]]
 (.cond (.t 18)
 (.sr [mc 4 (.int .i64 0)]
 .ret)
 .skip))
 (.sr [mc 5 (.int .i64 0)]
 (.seq
 (.sr [mv 19 0,
 ii 20 .len [.t 19],
 ii 21 (.mov false) [cI 0]]
 (.block 0
 (.loop [0,4,7,8,9,10,11,12,13,14,15,16,17,18,22,23,24,25,26,27,28,29,30,31,32,33,34,35] [0]
 (.sr [b2 22 .lss 21 20]
 (.seq
 (.cond (.t 22)
 .skip
 (.exit 0))
 (.seq
 (.block 1
 (.seq
 (.gp (.reg [ii 23 (.iad 3) [.t 19,.t 21],
 ii 24 (.load 3 true false) [.t 23],
 ⟨some 7,none,.alloc 0 3 [Z0,Z0,Z0],[]⟩,
 ⟨none,none,.store 3,[.t 7,.t 24]⟩]) (.lay 0 3))
 (.regd [mv 25 5,
 fa 26 0 7,
 ii 27 (.at 0 (.load 1 false false)) [.t 26],
 mv 28 1,
 fa 29 2 7,
 ii 30 (.at 0 (.load 1 false false)) [.t 29],
 ii 31 (.pl (.call 196)) [.t 28,.t 30],
 b2 32 .mul 27 31,
 b2 33 .add 25 32,
 mt 5 33])))
 (.reg [b1 34 .add 21 (.int .i64 1),
 mv 21 34])))))))
 (.sr [mv 35 5,
 mt 4 35]
 .ret)))))⟩
theorem MK:aI Tryz.prog 210 KU=true:=by kernel_rfl
def NI:Fn:=⟨38,1,[.tmp 4],
 (.sr [mc 4 (.int .i64 0)]
 (.sr [mv 9 0,
 ii 10 (.call 232) [.t 9,.c (.p (.fn 235 []))],
 mt 5 10]
 (.seq
 (.sr [mv 11 5,
 mv 12 11,
 gf 13 12 (.mov false) [.t 0],
 gf 14 12 .len [.t 13],
 gf 15 12 (.bin .gtr) [.t 14,cI 24],
 ii 16 .pick [.t 12,.c (.p (.bool true)),.t 15],
 mv 17 16,
 gf 18 17 (.mov false) [.t 1],
 gf 19 17 (.bin .lss) [.t 18,cI 0],
 ii 20 .pick [.t 17,.c (.p (.bool true)),.t 19],
 mv 21 20,
 gf 22 21 (.mov false) [.t 1],
 gf 23 21 (.bin .gtr) [.t 22,cI 20000],
 ii 24 .pick [.t 21,.c (.p (.bool true)),.t 23]]
 (.cond (.t 24)
 (.sr [mc 4 (.int .i64 0)]
 .ret)
 .skip))
 (.sr [mc 6 (.int .i64 0)]
 (.seq
 (.sr [mv 25 0,
 ii 26 .len [.t 25],
 ii 27 (.mov false) [cI 0]]
 (.block 0
 (.loop [0,4,5,8,9,10,11,12,13,14,15,16,17,18,19,20,21,22,23,24,28,29,30,31,32,33,34,35,36,37] [0]
 (.sr [b2 28 .lss 27 26]
 (.seq
 (.cond (.t 28)
 .skip
 (.exit 0))
 (.seq
 (.block 1
 (.seq
 (.gp (.reg [ii 29 (.iad 3) [.t 25,.t 27],
 ii 30 (.load 3 true false) [.t 29],
 ⟨some 8,none,.alloc 0 3 [Z0,Z0,Z0],[]⟩,
 ⟨none,none,.store 3,[.t 8,.t 30]⟩]) (.lay 0 3))
 (.reg [mv 31 6,
 ii 32 (.load 3 true false) [.t 8],
 mv 33 1,
 ii 34 (.call 236) [.t 32,.t 33],
 b2 35 .add 31 34,
 mt 6 35])))
 (.reg [b1 36 .add 27 (.int .i64 1),
 mv 27 36])))))))
 (.sr [mv 37 6,
 mt 4 37]
 .ret))))))⟩
theorem NG:aI Tryz.prog 211 NI=true:=by kernel_rfl
def PJ:Fn:=⟨19,0,[.tmp 4],
 (.sr [mc 4 (.int .i64 0)]
 (.seq
 (.sr [mv 6 0,
 ii 7 .len [.t 6],
 ii 8 (.mov false) [cI 0]]
 (.block 0
 (.loop [4,5,6,9,10,11,12,13,14,15,16,17,18] []
 (.sr [b2 9 .lss 8 7]
 (.seq
 (.cond (.t 9)
 .skip
 (.exit 0))
 (.seq
 (.block 1
 (.sr [mv 10 8,
 mt 5 10]
 (.sr [mv 11 1,
 mv 12 0,
 mv 13 5,
 ii 14 (.iad 1) [.t 12,.t 13],
 ld 15 14,
 ii 16 .callv [.t 11,.t 15]]
 (.cond (.t 16)
 (.sr [mv 17 5,
 mt 4 17]
 .ret)
 .skip))))
 (.reg [b1 18 .add 8 (.int .i64 1),
 mv 8 18])))))))
 (.sr [mc 4 (.int .i64 (-1))]
 .ret)))⟩
theorem QF:aI Tryz.prog 168 PJ=true:=by kernel_rfl
def MH:Fn:=⟨27,0,[.tmp 6],
 (.sr [mc 6 (.bool false)]
 (.sr [mv 7 0,
 ii 8 .len [.t 7],
 b1 9 .leq 8 (.int .i64 23),
 mv 10 9,
 gt 11 10 (.mov false) [.t 1],
 gt 12 10 (.bin .geq) [.t 11,cI 1],
 ii 13 .pick [.t 10,.t 12,.c (.p (.bool false))],
 mv 14 13,
 gt 15 14 (.mov false) [.t 1],
 gt 16 14 (.mov false) [.t 2],
 gt 17 14 (.bin .leq) [.t 15,.t 16],
 ii 18 .pick [.t 14,.t 17,.c (.p (.bool false))],
 mv 19 18,
 gt 20 19 (.mov false) [.t 2],
 gt 21 19 (.bin .leq) [.t 20,cI 200],
 ii 22 .pick [.t 19,.t 21,.c (.p (.bool false))],
 mv 23 22,
 gt 24 23 (.mov false) [.t 0],
 gt 25 23 (.call 136) [.t 24],
 ii 26 .pick [.t 23,.t 25,.c (.p (.bool false))],
 mt 6 26]
 .ret))⟩
theorem KY:aI Tryz.prog 169 MH=true:=by kernel_rfl
def MV:Fn:=⟨11,1,[.tmp 4],
 (.sr [ii 3 (.box 0 3) [.t 1],
 mc 4 (.bool false)]
 (.seq
 (.regd [mv 5 0,
 ii 6 (.pl (.call 137)) [.t 5],
 ii 7 (.at 0 (.load 3 true false)) [.t 3],
 ii 8 (.bsl 3 1) [.t 7],
 ii 9 (.pl (.app 3 24)) [.t 6,.t 8],
 ii 10 (.pl (.call 136)) [.t 9],
 mt 4 10])
 .ret))⟩
theorem I7:aI Tryz.prog 170 MV=true:=by kernel_rfl
def MM:Fn:=⟨63,0,[],
 (.sr [mc 6 (.int .i64 20)]
 (.sr [mv 10 6,
 mc 7 (.int .i64 0),
 mt 8 10]
 (.seq
 (.block 0
 (.loop [9,10,11,12,13,14,15,16,17,18,19,20,21,22,23,24,25,26,27,28,29,30,31,32,33,34,35,36,37,38,39,40,41,42,43,44,45,46,47,48,49,50,51,52,53,54,55,56,57,58,59,60,61,62] []
 (.seq
 (.sr [mv 11 8,
 mv 12 1,
 b2 13 .leq 11 12]
 (.cond (.t 13)
 .skip
 (.exit 0)))
 (.block 1
 (.sr [mv 14 0,
 mv 15 7,
 mv 16 8,
 mv 17 2,
 ii 18 (.callm 198 0) [.t 14,.t 15,.t 16,.t 17]]
 (.sr [mv 19 8,
 mt 7 19]
 (.reg [mv 20 8,
 mv 21 6,
 b2 22 .add 20 21,
 mt 8 22])))))))
 (.sr [mv 23 0,
 mv 24 7,
 mv 25 1,
 mv 26 2,
 ii 27 (.callm 198 0) [.t 23,.t 24,.t 25,.t 26]]
 (.block 2
 (.loop [7,8,9,10,11,12,13,14,15,16,17,18,19,20,21,22,23,24,25,26,27,28,29,30,31,32,33,34,35,36,37,38,39,40,41,42,43,44,45,46,47,48,49,50,51,52,53,54,55,56,57,58,59,60,61,62] []
 (.seq
 (.sr [mv 28 6,
 mv 29 1,
 b2 30 .lss 28 29]
 (.cond (.t 30)
 .skip
 (.exit 2)))
 (.block 3
 (.sr [mv 31 6,
 ii 32 (.bin .mul) [cI 2,.t 31],
 mc 7 (.int .i64 0),
 mt 8 32]
 (.seq
 (.block 4
 (.loop [9,10,11,12,13,14,15,16,17,18,19,20,21,22,23,24,25,26,27,28,29,30,31,32,33,34,35,36,37,38,39,40,41,42,43,44,45,46,47,48,49,50,51,52,53,54,55,56,57,58,59,60,61,62] []
 (.seq
 (.sr [mv 33 8,
 mv 34 1,
 b2 35 .leq 33 34]
 (.cond (.t 35)
 .skip
 (.exit 4)))
 (.block 5
 (.sr [mv 36 0,
 mv 37 7,
 mv 38 7,
 mv 39 6,
 b2 40 .add 38 39,
 mv 41 8,
 mv 42 2,
 ii 43 (.call 199) [.t 36,.t 37,.t 40,.t 41,.t 42]]
 (.sr [mv 44 8,
 mt 7 44]
 (.reg [mv 45 8,
 mv 46 6,
 ii 47 (.bin .mul) [cI 2,.t 46],
 b2 48 .add 45 47,
 mt 8 48])))))))
 (.seq
 (.sr [mv 49 7,
 mv 50 6,
 b2 51 .add 49 50,
 mt 9 51]
 (.sr [mv 52 9,
 mv 53 1,
 b2 54 .lss 52 53]
 (.cond (.t 54)
 (.reg [mv 55 0,
 mv 56 7,
 mv 57 9,
 mv 58 1,
 mv 59 2,
 ii 60 (.call 199) [.t 55,.t 56,.t 57,.t 58,.t 59]])
 .skip)))
 (.reg [mv 61 6,
 b1 62 .mul 61 (.int .i64 2),
 mt 6 62]))))))))))))⟩
theorem T6:aI Tryz.prog 171 MM=true:=by kernel_rfl
def X4:Fn:=⟨6,0,[.tmp 2],
 (.sr [mc 2 (.bool false)]
 (.sr [mv 3 0,
 mv 4 0,
 b2 5 .neq 3 4,
 mt 2 5]
 .ret))⟩
theorem ZF:aI Tryz.prog 97 X4=true:=by kernel_rfl
def LC:Fn:=⟨148,0,[],
 (.sr [mc 10 (.bool true)]
 (.sr [mc 11 (.bool true)]
 (.block 0
 (.loop [12,13,14,15,16,17,18,19,20,21,22,23,24,25,26,27,28,29,30,31,32,33,34,35,36,37,38,39,40,41,42,43,44,45,46,47,48,49,50,51,52,53,54,55,56,57,58,59,60,61,62,63,64,65,66,67,68,69,70,71,72,73,74,75,76,77,78,79,80,81,82,83,84,85,86,87,88,89,90,91,92,93,94,95,96,97,98,99,100,101,102,103,104,105,106,107,108,109,110,111,112,113,114,115,116,117,118,119,120,121,122,123,124,125,126,127,128,129,130,131,132,133,134,135,136,137,138,139,140,141,142,143,144,145,146,147] []
 (.block 1
 (.sr [mv 21 2,
 mv 22 1,
 b2 23 .sub 21 22,
 mt 12 23]
 (.seq
 (.sr [mv 24 12,
 b1 25 .leq 24 (.int .i64 12)]
 (.cond (.t 25)
 (.sr [mv 26 0,
 mv 27 1,
 mv 28 2,
 mv 29 4,
 ii 30 (.callm 198 0) [.t 26,.t 27,.t 28,.t 29]]
 .ret)
 .skip))
 (.seq
 (.sr [mv 31 3,
 b1 32 .eql 31 (.int .i64 0)]
 (.cond (.t 32)
 (.sr [mv 33 0,
 mv 34 1,
 mv 35 2,
 mv 36 4,
 ii 37 (.call 200) [.t 33,.t 34,.t 35,.t 36]]
 .ret)
 .skip))
 (.seq
 (.sr [mv 38 10,
 ii 39 (.un .not) [.t 38]]
 (.cond (.t 39)
 (.sr [mv 40 0,
 mv 41 1,
 mv 42 2,
 mv 43 4,
 ii 44 (.call 201) [.t 40,.t 41,.t 42,.t 43]]
 (.reg [mv 45 3,
 b1 46 .sub 45 (.int .i64 1),
 mt 3 46]))
 .skip))
 (.sr [mv 48 0,
 mv 49 1,
 mv 50 2,
 mv 51 4,
 ii 52 (.call 202) [.t 48,.t 49,.t 50,.t 51],
 mv 47 52,
 ii 53 (.ext 0) [.t 47],
 ii 54 (.ext 1) [.t 47],
 mt 13 53,
 mt 14 54]
 (.seq
 (.sr [mv 55 14,
 b1 56 .eql 55 (.int .i64 2)]
 (.cond (.t 56)
 (.sr [mv 57 0,
 mv 58 1,
 mv 59 2,
 mv 60 4,
 ii 61 (.call 203) [.t 57,.t 58,.t 59,.t 60]]
 (.sr [mv 62 2,
 b1 63 .sub 62 (.int .i64 1),
 mv 64 13,
 mv 65 1,
 b2 66 .sub 64 65,
 b2 67 .sub 63 66,
 mt 13 67]
 (.reg [mc 14 (.int .i64 1)])))
 .skip))
 (.seq
 (.sr [mv 68 10,
 mv 69 68,
 gt 70 69 (.mov false) [.t 11],
 ii 71 .pick [.t 69,.t 70,.c (.p (.bool false))],
 mv 72 71,
 gt 73 72 (.mov false) [.t 14],
 gt 74 72 (.bin .eql) [.t 73,cI 1],
 ii 75 .pick [.t 72,.t 74,.c (.p (.bool false))]]
 (.cond (.t 75)
 (.sr [mv 76 0,
 mv 77 1,
 mv 78 2,
 mv 79 4,
 ii 80 (.call 204) [.t 76,.t 77,.t 78,.t 79]]
 (.cond (.t 80)
 .ret
 .skip))
 .skip))
 (.seq
 (.seq
 (.regd [mv 81 1,
 b1 82 .gtr 81 (.int .i64 0),
 mv 83 82,
 gt 84 83 (.mov false) [.t 4],
 gt 85 83 (.mov false) [.t 0],
 gt 86 83 (.mov false) [.t 1],
 gt 87 83 (.bin .sub) [.t 86,cI 1],
 gt 88 83 (.iad 2) [.t 85,.t 87],
 gt 89 83 (.at 0 (.load 2 true false)) [.t 88],
 gt 90 83 (.mov false) [.t 0],
 gt 91 83 (.mov false) [.t 13],
 gt 92 83 (.iad 2) [.t 90,.t 91],
 gt 93 83 (.at 0 (.load 2 true false)) [.t 92],
 gt 94 83 (.pl .callv) [.t 84,.t 89,.t 93],
 gt 95 83 (.bin .lss) [.t 94,cI 0],
 gt 96 83 (.un .not) [.t 95],
 ii 97 .pick [.t 83,.t 96,.c (.p (.bool false))]])
 (.cond (.t 97)
 (.sr [mv 98 0,
 mv 99 1,
 mv 100 2,
 mv 101 13,
 mv 102 4,
 ii 103 (.call 205) [.t 98,.t 99,.t 100,.t 101,.t 102],
 mt 15 103]
 (.sr [mv 104 15,
 mt 1 104]
 (.exit 1)))
 .skip))
 (.sr [mv 106 0,
 mv 107 1,
 mv 108 2,
 mv 109 13,
 mv 110 4,
 ii 111 (.call 206) [.t 106,.t 107,.t 108,.t 109,.t 110],
 mv 105 111,
 ii 112 (.ext 0) [.t 105],
 ii 113 (.ext 1) [.t 105],
 mt 16 112,
 mt 17 113]
 (.sr [mv 114 17,
 mt 11 114]
 (.sr [mv 115 16,
 mv 116 1,
 b2 117 .sub 115 116,
 mv 118 2,
 mv 119 16,
 b2 120 .sub 118 119,
 mt 18 117,
 mt 19 120]
 (.sr [mv 121 12,
 b1 122 .quo 121 (.int .i64 8),
 mt 20 122]
 (.sr [mv 123 18,
 mv 124 19,
 b2 125 .lss 123 124]
 (.cond (.t 125)
 (.sr [mv 126 18,
 mv 127 20,
 b2 128 .geq 126 127,
 mt 10 128]
 (.sr [mv 129 0,
 mv 130 1,
 mv 131 16,
 mv 132 3,
 mv 133 4,
 ii 134 (.callm 172 0) [.t 129,.t 130,.t 131,.t 132,.t 133]]
 (.reg [mv 135 16,
 b1 136 .add 135 (.int .i64 1),
 mt 1 136])))
 (.sr [mv 137 19,
 mv 138 20,
 b2 139 .geq 137 138,
 mt 10 139]
 (.sr [mv 140 0,
 mv 141 16,
 b1 142 .add 141 (.int .i64 1),
 mv 143 2,
 mv 144 3,
 mv 145 4,
 ii 146 (.callm 172 0) [.t 140,.t 142,.t 143,.t 144,.t 145]]
 (.reg [mv 147 16,
 mt 2 147]))))))))))))))))))))))⟩
theorem U1:aI Tryz.prog 172 LC=true:=by kernel_rfl
def ML:Fn:=⟨8,0,[.tmp 2],
 (.sr [mc 2 (.int .i64 0)]
 (.seq
 (.cond (.c (.p (.bool false)))
 (.sr [mv 3 0,
 ii 4 (.conv .u32) [.t 3],
 ii 5 (.call 207) [.t 4],
 mt 2 5]
 .ret)
 .skip)
 (.sr [mv 6 0,
 ii 7 (.call 208) [.t 6],
 mt 2 7]
 .ret)))⟩
theorem PS:aI Tryz.prog 173 ML=true:=by kernel_rfl
def VR:Fn:=⟨6,0,[.tmp 2],
 (.sr [mc 2 (.bool false)]
 (.sr [mv 3 0,
 mv 4 0,
 b2 5 .neq 3 4,
 mt 2 5]
 .ret))⟩
theorem Y7:aI Tryz.prog 98 VR=true:=by kernel_rfl
def PH:Fn:=⟨20,1,[.tmp 4],
 (.sr [ii 2 (.box 0 5) [.t 0],
 mc 4 (.bool false)]
 (.seq
 (.pre [] [0] [] (.reg [ii 6 (.mkfn 216) [.t 2],
 mt 5 6]))
 (.sr [ii 7 (.load 5 true false) [.t 2],
 ii 8 (.call 80) [.t 7],
 mv 9 8,
 gt 10 9 (.mov false) [.t 1],
 gt 11 9 .len [.t 10],
 gt 12 9 (.bin .leq) [.t 11,cI 12],
 ii 13 .pick [.t 9,.t 12,.c (.p (.bool false))],
 mv 14 13,
 gt 15 14 (.mov false) [.t 1],
 gt 16 14 (.mov false) [.t 5],
 gt 17 14 (.call 215) [.t 15,.t 16],
 gt 18 14 (.un .not) [.t 17],
 ii 19 .pick [.t 14,.t 18,.c (.p (.bool false))],
 mt 4 19]
 .ret)))⟩
theorem U2:aI Tryz.prog 183 PH=true:=by kernel_rfl
def MC:Fn:=⟨84,6,[.tmp 8],
 (.sr [ii 4 (.box 0 5) [.t 0],
 ii 7 (.box 1 2) [.t 3],
 ii 8 (.mov true) [.c (.ow 1 true [])]]
 (.seq
 (.sr [ii 14 (.load 5 true false) [.t 4],
 mv 15 1,
 ii 16 (.call 183) [.t 14,.t 15],
 ii 17 (.un .not) [.t 16],
 mv 18 17,
 gf 19 18 (.mov false) [.t 2],
 gf 20 18 (.bin .lss) [.t 19,cI 0],
 ii 21 .pick [.t 18,.c (.p (.bool true)),.t 20],
 mv 22 21,
 gf 23 22 (.mov false) [.t 2],
 gf 24 22 (.mov false) [.t 1],
 gf 25 22 .len [.t 24],
 gf 26 22 (.bin .geq) [.t 23,.t 25],
 ii 27 .pick [.t 22,.c (.p (.bool true)),.t 26],
 mv 28 27,
 gf 29 28 (.load 5 true false) [.t 4],
 gf 30 28 (.load 2 true false) [.t 7],
 gf 31 28 (.call 213) [.t 29,.t 30],
 gf 32 28 (.un .not) [.t 31],
 ii 33 .pick [.t 28,.c (.p (.bool true)),.t 32]]
 (.cond (.t 33)
 (.sr [ii 8 (.mov true) [.c (.ow 1 true [])]]
 .ret)
 .skip))
 (.sr [fa 34 0 4,
 ld 35 34,
 ⟨some 36,none,.mksl 2 1 24 false [.ow 3 true []],[.t 35,.t 35]⟩,
 mt 9 36]
 (.seq
 (.gp (.reg [mv 37 1,
 mv 38 2,
 ii 39 (.iad 4) [.t 37,.t 38],
 ii 40 (.load 4 true false) [.t 39],
 ⟨some 10,none,.alloc 3 4 [Z0,Z0,Z0,.ow 3 true []],[]⟩,
 ⟨none,none,.store 4,[.t 10,.t 40]⟩]) (.lay 3 4))
 (.seq
 (.sr [fa 41 1 7,
 ld 42 41,
 ii 43 .len [.t 42],
 ii 44 (.mov false) [cI 0]]
 (.block 0
 (.loop [0,3,8,12,13,14,15,16,17,18,19,20,21,22,23,24,25,26,27,28,29,30,31,32,33,34,35,36,37,38,39,40,41,45,46,47,48,49,50,51,52,53,54,55,56,57,58,59,60,61,62,63,64,65,66,67,68,69,70,71,72,73,74,75,76,77,78,79,80,81,82,83] [4,5]
 (.sr [b2 45 .lss 44 43]
 (.seq
 (.cond (.t 45)
 .skip
 (.exit 0))
 (.seq
 (.block 1
 (.seq
 (.gp (.reg [ii 46 (.iad 4) [.t 42,.t 44],
 ii 47 (.load 4 true false) [.t 46],
 ⟨some 12,none,.alloc 4 4 [Z0,Z0,Z0,Z0],[]⟩,
 ⟨none,none,.store 4,[.t 12,.t 47]⟩]) (.lay 4 4))
 (.seq
 (.gp (.reg [fa 48 3 12,
 ld 49 48,
 fa 50 2 12,
 ld 51 50,
 fa 52 2 10,
 ld 53 52,
 ⟨some 54,none,.build [.int .i64 0,.int .i64 0,.int .i64 0] [(0,1),(1,1),(2,1)],[.t 49,.t 51,.t 53]⟩,
 ⟨some 13,none,.alloc 5 3 [Z0,Z0,Z0],[]⟩,
 ⟨none,none,.store 3,[.t 13,.t 54]⟩]) (.lay 5 3))
 (.seq
 (.sr [fa 55 0 7,
 ld 56 55,
 b1 57 .eql 56 (.int .i64 1)]
 (.cond (.t 57)
 (.gp (.regd [fa 58 0 10,
 ii 59 (.at 3 (.load 1 false false)) [.t 58],
 ii 60 (.at 0 (.load 5 true false)) [.t 4],
 mv 61 1,
 mv 62 2,
 ii 63 (.pl (.call 149)) [.t 60,.t 61,.t 62],
 b2 64 .add 59 63,
 fa 65 1 10,
 ii 66 (.at 3 (.load 1 false false)) [.t 65],
 fa 67 2 10,
 ii 68 (.at 3 (.load 1 false false)) [.t 67],
 ⟨some 69,none,.build [.int .i64 0,.int .i64 0,.int .i64 0] [(0,1),(1,1),(2,1)],[.t 64,.t 66,.t 68]⟩,
 ⟨none,none,.at 5 (.store 3),[.t 13,.t 69]⟩]) (.lay 5 3))
 .skip))
 (.regd [mv 70 9,
 fa 71 0 12,
 ii 72 (.at 4 (.load 1 false false)) [.t 71],
 mv 73 9,
 fa 74 0 12,
 ii 75 (.at 4 (.load 1 false false)) [.t 74],
 ii 76 (.iad 1) [.t 73,.t 75],
 ii 77 (.at 2 (.load 1 false true)) [.t 76],
 ii 78 (.at 5 (.load 3 true false)) [.t 13],
 ii 79 (.bsl 3 1) [.t 78],
 ii 80 (.pl (.app 3 24)) [.t 77,.t 79],
 ii 81 (.iad 1) [.t 70,.t 72],
 ⟨none,none,.at 2 (.store 1),[.t 81,.t 80]⟩])))))
 (.reg [b1 82 .add 44 (.int .i64 1),
 mv 44 82])))))))
 (.sr [mv 83 9,
 mt 8 83]
 (.pre [] [2] [] .ret)))))))⟩
theorem UD:aI Tryz.prog 177 MC=true:=by kernel_rfl
def KJ:Fn:=⟨68,0,[.tmp 0],
 (.sr [mc 0 (.bool false)]
 (.sr [⟨some 8,none,.build [.int .i64 0,.int .i64 0,.int .i64 0] [(0,1),(1,1),(2,1)],[cI 2,cI 4,cI 6]⟩,
 ⟨some 9,none,.build [.int .i64 0,.int .i64 0,.int .i64 0] [(0,1),(1,1),(2,1)],[cI 3,cI 8,cI 9]⟩,
 ii 10 (.bsl 3 2) [.t 8,.t 9],
 mt 1 10]
 (.sr [mv 12 1,
 ii 13 (.call 174) [.t 12],
 mv 11 13,
 ii 14 (.ext 0) [.t 11],
 ii 15 (.ext 1) [.t 11],
 mt 2 14,
 mt 3 15]
 (.sr [ii 17 (.call 174) [.c (.ow 3 true [])],
 mv 16 17,
 ii 18 (.ext 0) [.t 16],
 ii 19 (.ext 1) [.t 16],
 mt 4 18,
 mt 5 19]
 (.sr [⟨some 21,none,.build [.int .i64 0,.int .i64 0,.int .i64 0] [(0,1),(1,1),(2,1)],[cI 5,cI 5,cI 4]⟩,
 ii 22 (.bsl 3 1) [.t 21],
 ii 23 (.call 174) [.t 22],
 mv 20 23,
 ii 24 (.ext 0) [.t 20],
 ii 25 (.ext 1) [.t 20],
 mt 6 24,
 mt 7 25]
 (.sr [ii 26 (.call 250) [],
 mv 27 26,
 gt 28 27 (.mov false) [.t 1],
 gt 29 27 (.call 210) [.t 28,cI 7],
 gt 30 27 (.bin .eql) [.t 29,cI 7],
 ii 31 .pick [.t 27,.t 30,.c (.p (.bool false))],
 mv 32 31,
 gt 33 32 (.mov false) [.t 3],
 ii 34 .pick [.t 32,.t 33,.c (.p (.bool false))],
 mv 35 34,
 gt 36 35 (.mov false) [.t 2],
 gt 37 35 (.bin .eql) [.t 36,cI 5],
 ii 38 .pick [.t 35,.t 37,.c (.p (.bool false))],
 mv 39 38,
 gt 40 39 (.mov false) [.t 4],
 gt 41 39 (.bin .eql) [.t 40,cI 0],
 ii 42 .pick [.t 39,.t 41,.c (.p (.bool false))],
 mv 43 42,
 gt 44 43 (.mov false) [.t 5],
 ii 45 .pick [.t 43,.t 44,.c (.p (.bool false))],
 mv 46 45,
 gt 47 46 (.mov false) [.t 7],
 gt 48 46 (.un .not) [.t 47],
 ii 49 .pick [.t 46,.t 48,.c (.p (.bool false))],
 mv 50 49,
 gt 51 50 (.mov false) [.t 1],
 gt 52 50 (.call 211) [.t 51,cI 8],
 gt 53 50 (.bin .eql) [.t 52,cI 5],
 ii 54 .pick [.t 50,.t 53,.c (.p (.bool false))],
 mv 55 54,
 gt 56 55 (.mov false) [.t 1],
 gt 57 55 (.call 136) [.t 56],
 ii 58 .pick [.t 55,.t 57,.c (.p (.bool false))],
 mv 59 58,
 gt 60 59 (.mov false) [.t 1],
 gt 61 59 (.call 130) [.t 60,cI 5,cI 10,cI 9],
 gt 62 59 (.bin .eql) [.t 61,cI 2],
 ii 63 .pick [.t 59,.t 62,.c (.p (.bool false))],
 mv 64 63,
 gt 65 64 (.call 135) [.c (.ow 3 true []),cI 10,cI 4],
 gt 66 64 (.bin .eql) [.t 65,cI 4],
 ii 67 .pick [.t 64,.t 66,.c (.p (.bool false))],
 mt 0 67]
 .ret))))))⟩
theorem TN:aI Tryz.prog 249 KJ=true:=by kernel_rfl
def MD:Fn:=⟨32,1,[.tmp 6],
 (.sr [ii 3 (.box 0 5) [.t 0],
 mc 6 (.bool false)]
 (.seq
 (.pre [] [0] [] (.reg [ii 8 (.mkfn 214) [.t 3],
 mt 7 8]))
 (.sr [ii 9 (.load 5 true false) [.t 3],
 ii 10 (.call 80) [.t 9],
 mv 11 10,
 gt 12 11 (.mov false) [.t 1],
 gt 13 11 .len [.t 12],
 gt 14 11 (.bin .leq) [.t 13,cI 12],
 ii 15 .pick [.t 11,.t 14,.c (.p (.bool false))],
 mv 16 15,
 gt 17 16 (.mov false) [.t 1],
 gt 18 16 (.mov false) [.t 7],
 gt 19 16 (.call 215) [.t 17,.t 18],
 gt 20 16 (.un .not) [.t 19],
 ii 21 .pick [.t 16,.t 20,.c (.p (.bool false))],
 mv 22 21,
 gt 23 22 (.mov false) [.t 2],
 gt 24 22 (.bin .geq) [.t 23,cI 0],
 ii 25 .pick [.t 22,.t 24,.c (.p (.bool false))],
 mv 26 25,
 gt 27 26 (.mov false) [.t 2],
 gt 28 26 (.mov false) [.t 1],
 gt 29 26 .len [.t 28],
 gt 30 26 (.bin .lss) [.t 27,.t 29],
 ii 31 .pick [.t 26,.t 30,.c (.p (.bool false))],
 mt 6 31]
 .ret)))⟩
theorem QP:aI Tryz.prog 180 MD=true:=by kernel_rfl
def O1:Fn:=⟨18,0,[.tmp 4],
 (.sr [mc 4 (.int .i64 0)]
 (.seq
 (.sr [mv 6 1,
 b1 7 .leq 6 (.int .i64 0)]
 (.cond (.t 7)
 (.sr [mc 4 (.int .i64 0)]
 .ret)
 .skip))
 (.sr [mv 8 0,
 mv 9 1,
 b2 10 .quo 8 9,
 mt 5 10]
 (.seq
 (.sr [mv 11 0,
 mv 12 1,
 b2 13 .rem 11 12,
 b1 14 .gtr 13 (.int .i64 0)]
 (.cond (.t 14)
 (.reg [mv 15 5,
 b1 16 .add 15 (.int .i64 1),
 mt 5 16])
 .skip))
 (.sr [mv 17 5,
 mt 4 17]
 .ret)))))⟩
theorem O3:aI Tryz.prog 196 O1=true:=by kernel_rfl
def P2:Fn:=⟨9,0,[.tmp 4],
 (.sr [mc 4 (.bool false)]
 (.sr [mv 5 0,
 mv 6 1,
 ii 7 (.call 247) [.t 5,.t 6],
 b1 8 .geq 7 (.int .i64 0),
 mt 4 8]
 .ret))⟩
theorem LS:aI Tryz.prog 232 P2=true:=by kernel_rfl
def OP:Fn:=⟨6,1,[.tmp 2],
 (.sr [ii 1 (.box 0 3) [.t 0],
 mc 2 (.bool false)]
 (.sr [ii 3 (.load 3 true false) [.t 1],
 ii 4 (.call 234) [.t 3],
 ii 5 (.un .not) [.t 4],
 mt 2 5]
 .ret))⟩
theorem NM:aI Tryz.prog 233 OP=true:=by kernel_rfl
def MO:Fn:=⟨23,1,[.tmp 2],
 (.sr [ii 1 (.box 0 3) [.t 0],
 mc 2 (.bool false)]
 (.sr [fa 3 0 1,
 ld 4 3,
 ii 5 (.call 126) [.t 4,cI 1,cI 20000],
 mv 6 5,
 gt 7 6 (.fad 1) [.t 1],
 gt 8 6 (.load 1 false false) [.t 7],
 gt 9 6 (.bin .geq) [.t 8,cI 1],
 ii 10 .pick [.t 6,.t 9,.c (.p (.bool false))],
 mv 11 10,
 gt 12 11 (.fad 1) [.t 1],
 gt 13 11 (.load 1 false false) [.t 12],
 gt 14 11 (.fad 2) [.t 1],
 gt 15 11 (.load 1 false false) [.t 14],
 gt 16 11 (.bin .leq) [.t 13,.t 15],
 ii 17 .pick [.t 11,.t 16,.c (.p (.bool false))],
 mv 18 17,
 gt 19 18 (.fad 2) [.t 1],
 gt 20 18 (.load 1 false false) [.t 19],
 gt 21 18 (.bin .leq) [.t 20,cI 200],
 ii 22 .pick [.t 18,.t 21,.c (.p (.bool false))],
 mt 2 22]
 .ret))⟩
theorem M7:aI Tryz.prog 234 MO=true:=by kernel_rfl
def N0:Fn:=⟨6,1,[.tmp 2],
 (.sr [ii 1 (.box 0 3) [.t 0],
 mc 2 (.bool false)]
 (.sr [ii 3 (.load 3 true false) [.t 1],
 ii 4 (.call 234) [.t 3],
 ii 5 (.un .not) [.t 4],
 mt 2 5]
 .ret))⟩
theorem KM:aI Tryz.prog 235 N0=true:=by kernel_rfl
def NQ:Fn:=⟨20,1,[.tmp 4],
 (.sr [ii 2 (.box 0 3) [.t 0],
 mc 4 (.int .i64 0)]
 (.seq
 (.sr [fa 5 1 2,
 ld 6 5,
 mv 7 1,
 b2 8 .gtr 6 7]
 (.cond (.t 8)
 (.sr [mc 4 (.int .i64 0)]
 .ret)
 .skip))
 (.seq
 (.regd [fa 9 0 2,
 ii 10 (.at 0 (.load 1 false false)) [.t 9],
 mv 11 1,
 fa 12 1 2,
 ii 13 (.at 0 (.load 1 false false)) [.t 12],
 b2 14 .sub 11 13,
 fa 15 2 2,
 ii 16 (.at 0 (.load 1 false false)) [.t 15],
 ii 17 (.pl (.call 129)) [.t 14,.t 16],
 b1 18 .add 17 (.int .i64 1),
 b2 19 .mul 10 18,
 mt 4 19])
 .ret)))⟩
theorem JN:aI Tryz.prog 236 NQ=true:=by kernel_rfl
def MX:Fn:=⟨53,0,[],
 (.sr [mv 10 1,
 b1 11 .add 10 (.int .i64 1),
 mt 8 11]
 (.block 0
 (.loop [9,10,11,12,13,14,15,16,17,18,19,20,21,22,23,24,25,26,27,28,29,30,31,32,33,34,35,36,37,38,39,40,41,42,43,44,45,46,47,48,49,50,51,52] []
 (.seq
 (.sr [mv 12 8,
 mv 13 2,
 b2 14 .lss 12 13]
 (.cond (.t 14)
 .skip
 (.exit 0)))
 (.seq
 (.block 1
 (.sr [mv 17 8,
 mt 9 17]
 (.block 2
 (.loop [10,11,12,13,14,15,16,17,18,19,20,21,22,23,24,25,26,27,28,29,30,31,32,33,34,35,36,37,38,39,40,41,42,43,44,45,46,47,48,49,50,51,52] []
 (.seq
 (.seq
 (.regd [mv 18 9,
 mv 19 1,
 b2 20 .gtr 18 19,
 mv 21 20,
 gt 22 21 (.mov false) [.t 3],
 gt 23 21 (.mov false) [.t 0],
 gt 24 21 (.mov false) [.t 9],
 gt 25 21 (.iad 2) [.t 23,.t 24],
 gt 26 21 (.at 0 (.load 2 true false)) [.t 25],
 gt 27 21 (.mov false) [.t 0],
 gt 28 21 (.mov false) [.t 9],
 gt 29 21 (.bin .sub) [.t 28,cI 1],
 gt 30 21 (.iad 2) [.t 27,.t 29],
 gt 31 21 (.at 0 (.load 2 true false)) [.t 30],
 gt 32 21 (.pl .callv) [.t 22,.t 26,.t 31],
 gt 33 21 (.bin .lss) [.t 32,cI 0],
 ii 34 .pick [.t 21,.t 33,.c (.p (.bool false))]])
 (.cond (.t 34)
 .skip
 (.exit 2)))
 (.seq
 (.block 3
 (.regd [mv 37 0,
 mv 38 9,
 mv 39 0,
 mv 40 9,
 b1 41 .sub 40 (.int .i64 1),
 mv 42 0,
 mv 43 9,
 b1 44 .sub 43 (.int .i64 1),
 ii 45 (.iad 2) [.t 42,.t 44],
 ii 46 (.at 0 (.load 2 true false)) [.t 45],
 mv 47 0,
 mv 48 9,
 ii 49 (.iad 2) [.t 47,.t 48],
 ii 50 (.at 0 (.load 2 true false)) [.t 49],
 ii 51 (.iad 2) [.t 37,.t 38],
 ⟨none,none,.at 0 (.store 2),[.t 51,.t 46]⟩,
 ii 52 (.iad 2) [.t 39,.t 41],
 ⟨none,none,.at 0 (.store 2),[.t 52,.t 50]⟩]))
 (.reg [mv 35 9,
 b1 36 .sub 35 (.int .i64 1),
 mt 9 36])))))))
 (.reg [mv 15 8,
 b1 16 .add 15 (.int .i64 1),
 mt 8 16]))))))⟩
theorem S2:aI Tryz.prog 198 MX=true:=by kernel_rfl
def KP:Fn:=⟨8,1,[.tmp 3],
 (.sr [ii 2 (.box 0 4) [.t 0],
 mc 3 (.bool false)]
 (.sr [ii 4 (.load 5 true false) [.t 1],
 ii 5 (.load 4 true false) [.t 2],
 ii 6 (.call 81) [.t 4,.t 5],
 ii 7 (.un .not) [.t 6],
 mt 3 7]
 .ret))⟩
theorem Q1:aI Tryz.prog 216 KP=true:=by kernel_rfl
def MU:Fn:=⟨9,0,[.tmp 4],
 (.sr [mc 4 (.bool false)]
 (.sr [mv 5 0,
 mv 6 1,
 ii 7 (.call 239) [.t 5,.t 6],
 b1 8 .geq 7 (.int .i64 0),
 mt 4 8]
 .ret))⟩
theorem TK:aI Tryz.prog 215 MU=true:=by kernel_rfl
def OA:Fn:=⟨10,2,[.tmp 4],
 (.sr [ii 2 (.box 0 5) [.t 0],
 ii 3 (.box 1 2) [.t 1],
 mc 4 (.bool false)]
 (.seq
 (.pre [] [0] [] (.reg [fa 5 1 3,
 ld 6 5,
 ii 7 (.mkfn 238) [.t 2],
 ii 8 (.call 237) [.t 6,.t 7],
 ii 9 (.un .not) [.t 8],
 mt 4 9]))
 .ret))⟩
theorem SL:aI Tryz.prog 213 OA=true:=by kernel_rfl
def O4:Fn:=⟨2,0,[.tmp 0],
 (.sr [mc 0 (.bool false)]
 (.sr [ii 1 (.call 251) [],
 mt 0 1]
 .ret))⟩
theorem RL:aI Tryz.prog 250 O4=true:=by kernel_rfl
def O6:Fn:=⟨8,1,[.tmp 3],
 (.sr [ii 2 (.box 0 4) [.t 0],
 mc 3 (.bool false)]
 (.sr [ii 4 (.load 5 true false) [.t 1],
 ii 5 (.load 4 true false) [.t 2],
 ii 6 (.call 81) [.t 4,.t 5],
 ii 7 (.un .not) [.t 6],
 mt 3 7]
 .ret))⟩
theorem Q6:aI Tryz.prog 214 O6=true:=by kernel_rfl
def P6:Fn:=⟨19,0,[.tmp 4],
 (.sr [mc 4 (.int .i64 0)]
 (.seq
 (.sr [mv 6 0,
 ii 7 .len [.t 6],
 ii 8 (.mov false) [cI 0]]
 (.block 0
 (.loop [4,5,6,9,10,11,12,13,14,15,16,17,18] []
 (.sr [b2 9 .lss 8 7]
 (.seq
 (.cond (.t 9)
 .skip
 (.exit 0))
 (.seq
 (.block 1
 (.sr [mv 10 8,
 mt 5 10]
 (.sr [mv 11 1,
 mv 12 0,
 mv 13 5,
 ii 14 (.iad 3) [.t 12,.t 13],
 ii 15 (.load 3 true false) [.t 14],
 ii 16 .callv [.t 11,.t 15]]
 (.cond (.t 16)
 (.sr [mv 17 5,
 mt 4 17]
 .ret)
 .skip))))
 (.reg [b1 18 .add 8 (.int .i64 1),
 mv 8 18])))))))
 (.sr [mc 4 (.int .i64 (-1))]
 .ret)))⟩
theorem OO:aI Tryz.prog 247 P6=true:=by kernel_rfl
def OR:Fn:=⟨19,0,[.tmp 4],
 (.sr [mc 4 (.int .i64 0)]
 (.seq
 (.sr [mv 6 0,
 ii 7 .len [.t 6],
 ii 8 (.mov false) [cI 0]]
 (.block 0
 (.loop [4,5,6,9,10,11,12,13,14,15,16,17,18] []
 (.sr [b2 9 .lss 8 7]
 (.seq
 (.cond (.t 9)
 .skip
 (.exit 0))
 (.seq
 (.block 1
 (.sr [mv 10 8,
 mt 5 10]
 (.sr [mv 11 1,
 mv 12 0,
 mv 13 5,
 ii 14 (.iad 4) [.t 12,.t 13],
 ii 15 (.load 4 true false) [.t 14],
 ii 16 .callv [.t 11,.t 15]]
 (.cond (.t 16)
 (.sr [mv 17 5,
 mt 4 17]
 .ret)
 .skip))))
 (.reg [b1 18 .add 8 (.int .i64 1),
 mv 8 18])))))))
 (.sr [mc 4 (.int .i64 (-1))]
 .ret)))⟩
theorem T7:aI Tryz.prog 239 OR=true:=by kernel_rfl
def NO:Fn:=⟨9,0,[.tmp 4],
 (.sr [mc 4 (.bool false)]
 (.sr [mv 5 0,
 mv 6 1,
 ii 7 (.call 248) [.t 5,.t 6],
 b1 8 .geq 7 (.int .i64 0),
 mt 4 8]
 .ret))⟩
theorem TQ:aI Tryz.prog 237 NO=true:=by kernel_rfl
def ND:Fn:=⟨14,1,[.tmp 3],
 (.sr [ii 2 (.box 0 4) [.t 0],
 mc 3 (.bool false)]
 (.sr [fa 4 0 2,
 ld 5 4,
 b1 6 .lss 5 (.int .i64 0),
 mv 7 6,
 gf 8 7 (.fad 0) [.t 2],
 gf 9 7 (.load 1 false false) [.t 8],
 gf 10 7 (.fad 0) [.t 1],
 gf 11 7 (.load 1 false false) [.t 10],
 gf 12 7 (.bin .geq) [.t 9,.t 11],
 ii 13 .pick [.t 7,.c (.p (.bool true)),.t 12],
 mt 3 13]
 .ret))⟩
theorem TS:aI Tryz.prog 238 ND=true:=by kernel_rfl
def NV:Fn:=⟨104,5,[.tmp 0],
 (.sr [mc 0 (.bool false)]
 (.seq
 (.gp (.reg [ii 11 (.bsl 1 1) [cI 0],
 ⟨some 12,none,.build [.int .i64 0,.int .i64 0,.int .i64 0,.int .i64 0,.sl 1 true []] [(0,1),(1,1),(2,1),(4,1)],[cI 2,cI 1,cI 1,.t 11]⟩,
 ⟨some 1,none,.alloc 0 5 [Z0,Z0,Z0,Z0,.ow 1 true []],[]⟩,
 ⟨none,none,.store 5,[.t 1,.t 12]⟩]) (.lay 0 5))
 (.seq
 (.gp (.reg [⟨some 13,none,.build [.int .i64 0,.int .i64 0,.int .i64 0] [(1,1),(2,1)],[cI 1,cI 2]⟩,
 ii 14 (.bsl 3 1) [.t 13],
 ⟨some 15,none,.build [.int .i64 0,.int .i64 0,.int .i64 0,.sl 3 true []] [(0,1),(1,1),(2,1),(3,1)],[cI 3,cI 8,cI 10,.t 14]⟩,
 ⟨some 2,none,.alloc 1 4 [Z0,Z0,Z0,.ow 3 true []],[]⟩,
 ⟨none,none,.store 4,[.t 2,.t 15]⟩]) (.lay 1 4))
 (.seq
 (.regd [ii 16 (.at 0 (.load 5 true false)) [.t 1],
 ii 17 (.pl (.call 252)) [.t 16],
 ii 18 (.at 1 (.load 4 true false)) [.t 2],
 ii 19 (.pl (.call 253)) [.t 18],
 mt 3 17,
 mt 4 19])
 (.seq
 (.gp (.reg [mv 21 3,
 ii 22 (.call 254) [.t 21],
 mv 20 22,
 ii 23 (.ext 0) [.t 20],
 ii 24 (.ext 1) [.t 20],
 ⟨some 5,none,.alloc 2 5 [Z0,Z0,Z0,Z0,.ow 1 true []],[]⟩,
 ⟨none,none,.store 5,[.t 5,.t 23]⟩,
 mt 6 24]) (.lay 2 5))
 (.seq
 (.gp (.reg [ii 26 (.load 5 true false) [.t 1],
 mv 27 4,
 ii 28 (.call 255) [.t 26,.t 27],
 mv 25 28,
 ii 29 (.ext 0) [.t 25],
 ii 30 (.ext 1) [.t 25],
 ⟨some 7,none,.alloc 3 4 [Z0,Z0,Z0,.ow 3 true []],[]⟩,
 ⟨none,none,.store 4,[.t 7,.t 29]⟩,
 mt 8 30]) (.lay 3 4))
 (.seq
 (.gp (.reg [⟨some 32,none,.build [.int .i64 0,.int .i64 0,.int .i64 0,.int .i64 0,.sl 1 true []] [(0,1)],[cI 1]⟩,
 mv 33 4,
 ii 34 (.call 255) [.t 32,.t 33],
 mv 31 34,
 ii 35 (.ext 0) [.t 31],
 ii 36 (.ext 1) [.t 31],
 ⟨some 9,none,.alloc 4 4 [Z0,Z0,Z0,.ow 3 true []],[]⟩,
 ⟨none,none,.store 4,[.t 9,.t 35]⟩,
 mt 10 36]) (.lay 4 4))
 (.sr [ii 37 (.call 121) [],
 mv 38 37,
 gt 39 38 (.load 5 true false) [.t 1],
 gt 40 38 (.call 80) [.t 39],
 ii 41 .pick [.t 38,.t 40,.c (.p (.bool false))],
 mv 42 41,
 gt 43 42 (.load 5 true false) [.t 1],
 gt 44 42 (.load 4 true false) [.t 2],
 gt 45 42 (.call 81) [.t 43,.t 44],
 ii 46 .pick [.t 42,.t 45,.c (.p (.bool false))],
 mv 47 46,
 ⟨some 48,(some (47,true)),.build [.int .i64 0,.int .i64 0,.int .i64 0,.int .i64 0,.sl 1 true []] [],[]⟩,
 gt 49 47 (.call 80) [.t 48],
 gt 50 47 (.un .not) [.t 49],
 ii 51 .pick [.t 47,.t 50,.c (.p (.bool false))],
 mv 52 51,
 gt 53 52 (.mov false) [.t 3],
 ⟨some 54,(some (52,true)),.bin .eql,[.t 53,.c (.p (.str ⟨#[99,111,114,101,115,32,50,32,115,121,110,99,115,32,49,32,108,97,103,32,49,32,109,111,118,101,32,48,32,114,101,115,32,48]⟩))]⟩,
 ii 55 .pick [.t 52,.t 54,.c (.p (.bool false))],
 mv 56 55,
 gt 57 56 (.mov false) [.t 4],
 ⟨some 58,(some (56,true)),.bin .eql,[.t 57,.c (.p (.str ⟨#[51,47,56,47,49,48,32,48,64,49,43,50]⟩))]⟩,
 ii 59 .pick [.t 56,.t 58,.c (.p (.bool false))],
 mv 60 59,
 gt 61 60 (.mov false) [.t 6],
 gt 62 60 (.bin .eql) [.t 61,cI 0],
 ii 63 .pick [.t 60,.t 62,.c (.p (.bool false))],
 mv 64 63,
 gt 65 64 (.fad 0) [.t 5],
 gt 66 64 (.load 1 false false) [.t 65],
 gt 67 64 (.bin .eql) [.t 66,cI 2],
 ii 68 .pick [.t 64,.t 67,.c (.p (.bool false))],
 mv 69 68,
 gt 70 69 (.fad 4) [.t 5],
 gt 71 69 (.load 1 false false) [.t 70],
 gt 72 69 .len [.t 71],
 gt 73 69 (.bin .eql) [.t 72,cI 1],
 ii 74 .pick [.t 69,.t 73,.c (.p (.bool false))],
 mv 75 74,
 gt 76 75 (.mov false) [.t 8],
 gt 77 75 (.bin .eql) [.t 76,cI 0],
 ii 78 .pick [.t 75,.t 77,.c (.p (.bool false))],
 mv 79 78,
 gt 80 79 (.load 4 true false) [.t 7],
 gt 81 79 (.load 4 true false) [.t 2],
 gt 82 79 (.call 256) [.t 80,.t 81],
 ii 83 .pick [.t 79,.t 82,.c (.p (.bool false))],
 mv 84 83,
 gt 85 84 (.mov false) [.t 10],
 gt 86 84 (.bin .eql) [.t 85,cI 1],
 ii 87 .pick [.t 84,.t 86,.c (.p (.bool false))],
 mv 88 87,
 ⟨some 89,(some (88,true)),.build [.int .i64 0,.int .i64 0,.int .i64 0] [(0,1),(1,1),(2,1)],[cI 1,cI 1,cI 1]⟩,
 gt 90 88 (.call 234) [.t 89],
 ii 91 .pick [.t 88,.t 90,.c (.p (.bool false))],
 mv 92 91,
 gt 93 92 (.load 5 true false) [.t 1],
 ⟨some 94,(some (92,true)),.build [.int .i64 0,.int .i64 0,.int .i64 0,.int .i64 0] [(0,1),(2,1),(3,1)],[cI 1,cI 3,cI 3]⟩,
 gt 95 92 (.call 242) [.t 93,.t 94],
 ii 96 .pick [.t 92,.t 95,.c (.p (.bool false))],
 mv 97 96,
 gt 98 97 (.load 5 true false) [.t 1],
 gt 99 97 (.load 4 true false) [.t 2],
 gt 100 97 (.call 257) [.t 98,.t 99],
 gt 101 97 .len [.t 100],
 gt 102 97 (.bin .eql) [.t 101,cI 1],
 ii 103 .pick [.t 97,.t 102,.c (.p (.bool false))],
 mt 0 103]
 .ret))))))))⟩
theorem Q3:aI Tryz.prog 251 NV=true:=by kernel_rfl
def LJ:Fn:=⟨19,0,[.tmp 4],
 (.sr [mc 4 (.int .i64 0)]
 (.seq
 (.sr [mv 6 0,
 ii 7 .len [.t 6],
 ii 8 (.mov false) [cI 0]]
 (.block 0
 (.loop [4,5,6,9,10,11,12,13,14,15,16,17,18] []
 (.sr [b2 9 .lss 8 7]
 (.seq
 (.cond (.t 9)
 .skip
 (.exit 0))
 (.seq
 (.block 1
 (.sr [mv 10 8,
 mt 5 10]
 (.sr [mv 11 1,
 mv 12 0,
 mv 13 5,
 ii 14 (.iad 4) [.t 12,.t 13],
 ii 15 (.load 4 true false) [.t 14],
 ii 16 .callv [.t 11,.t 15]]
 (.cond (.t 16)
 (.sr [mv 17 5,
 mt 4 17]
 .ret)
 .skip))))
 (.reg [b1 18 .add 8 (.int .i64 1),
 mv 8 18])))))))
 (.sr [mc 4 (.int .i64 (-1))]
 .ret)))⟩
theorem R6:aI Tryz.prog 248 LJ=true:=by kernel_rfl
def PB:Fn:=⟨44,1,[.tmp 2],
 (.sr [ii 1 (.box 0 5) [.t 0],
 ⟨some 2,none,.mov true,[.c (.p (.str ⟨#[]⟩))]⟩]
 (.seq
 (.sr [ii 6 (.load 5 true false) [.t 1],
 ii 7 (.call 80) [.t 6],
 ii 8 (.un .not) [.t 7]]
 (.cond (.t 8)
 (.sr [⟨some 2,none,.mov true,[.c (.p (.str ⟨#[]⟩))]⟩]
 .ret)
 .skip))
 (.seq
 (.regd [fa 9 0 1,
 ii 10 (.at 0 (.load 1 false false)) [.t 9],
 ii 11 (.pl (.call 258)) [.t 10],
 fa 12 1 1,
 ii 13 (.at 0 (.load 1 false false)) [.t 12],
 ii 14 (.pl (.call 258)) [.t 13],
 fa 15 2 1,
 ii 16 (.at 0 (.load 1 false false)) [.t 15],
 ii 17 (.pl (.call 258)) [.t 16],
 fa 18 3 1,
 ii 19 (.at 0 (.load 1 false false)) [.t 18],
 ii 20 (.pl (.call 258)) [.t 19],
 ⟨some 21,none,.bsl 1 8,[.c (.p (.str ⟨#[99,111,114,101,115]⟩)),.t 11,.c (.p (.str ⟨#[115,121,110,99,115]⟩)),.t 14,.c (.p (.str ⟨#[108,97,103]⟩)),.t 17,.c (.p (.str ⟨#[109,111,118,101]⟩)),.t 20]⟩,
 mt 3 21])
 (.seq
 (.sr [fa 22 4 1,
 ld 23 22,
 ii 24 .len [.t 23],
 b1 25 .gtr 24 (.int .i64 0)]
 (.cond (.t 25)
 (.reg [mt 26 3,
 ⟨some 27,none,.bsl 1 1,[.c (.p (.str ⟨#[114,101,115]⟩))]⟩,
 ii 28 (.app 1 16) [.t 26,.t 27],
 mt 3 28])
 .skip))
 (.seq
 (.sr [fa 29 4 1,
 ld 30 29,
 ii 31 .len [.t 30],
 ii 32 (.mov false) [cI 0]]
 (.block 0
 (.loop [0,1,2,5,6,7,8,9,10,11,12,13,14,15,16,17,18,19,20,21,22,23,24,25,26,27,28,29,33,34,35,36,37,38,39,40,41,42,43] []
 (.sr [b2 33 .lss 32 31]
 (.seq
 (.cond (.t 33)
 .skip
 (.exit 0))
 (.seq
 (.block 1
 (.sr [ii 34 (.iad 1) [.t 30,.t 32],
 ld 35 34,
 mt 5 35]
 (.reg [mt 36 3,
 mv 37 5,
 ii 38 (.call 258) [.t 37],
 ii 39 (.bsl 1 1) [.t 38],
 ii 40 (.app 1 16) [.t 36,.t 39],
 mt 3 40])))
 (.reg [b1 41 .add 32 (.int .i64 1),
 mv 32 41])))))))
 (.sr [mv 42 3,
 ⟨some 43,none,.call 259,[.t 42,.c (.p (.str ⟨#[32]⟩))]⟩,
 mt 2 43]
 .ret))))))⟩
theorem RH:aI Tryz.prog 252 PB=true:=by kernel_rfl
def O5:Fn:=⟨48,2,[.tmp 2],
 (.sr [ii 1 (.box 0 4) [.t 0],
 ⟨some 2,none,.mov true,[.c (.p (.str ⟨#[]⟩))]⟩]
 (.seq
 (.seq
 (.regd [ii 6 (.pl (.call 260)) [],
 ii 7 (.at 0 (.load 4 true false)) [.t 1],
 ii 8 (.pl (.call 81)) [.t 6,.t 7],
 ii 9 (.un .not) [.t 8]])
 (.cond (.t 9)
 (.sr [⟨some 2,none,.mov true,[.c (.p (.str ⟨#[]⟩))]⟩]
 .ret)
 .skip))
 (.seq
 (.regd [fa 10 0 1,
 ii 11 (.at 0 (.load 1 false false)) [.t 10],
 ii 12 (.pl (.call 258)) [.t 11],
 ⟨some 13,none,.bin .add,[.t 12,.c (.p (.str ⟨#[47]⟩))]⟩,
 fa 14 1 1,
 ii 15 (.at 0 (.load 1 false false)) [.t 14],
 ii 16 (.pl (.call 258)) [.t 15],
 b2 17 .add 13 16,
 ⟨some 18,none,.bin .add,[.t 17,.c (.p (.str ⟨#[47]⟩))]⟩,
 fa 19 2 1,
 ii 20 (.at 0 (.load 1 false false)) [.t 19],
 ii 21 (.pl (.call 258)) [.t 20],
 b2 22 .add 18 21,
 mt 3 22])
 (.seq
 (.sr [fa 23 3 1,
 ld 24 23,
 ii 25 .len [.t 24],
 ii 26 (.mov false) [cI 0]]
 (.block 0
 (.loop [0,1,2,5,6,7,8,9,10,11,12,13,14,15,16,17,18,19,20,21,22,23,27,28,29,30,31,32,33,34,35,36,37,38,39,40,41,42,43,44,45,46,47] [1]
 (.sr [b2 27 .lss 26 25]
 (.seq
 (.cond (.t 27)
 .skip
 (.exit 0))
 (.seq
 (.block 1
 (.seq
 (.gp (.reg [ii 28 (.iad 3) [.t 24,.t 26],
 ii 29 (.load 3 true false) [.t 28],
 ⟨some 5,none,.alloc 1 3 [Z0,Z0,Z0],[]⟩,
 ⟨none,none,.store 3,[.t 5,.t 29]⟩]) (.lay 1 3))
 (.regd [mv 30 3,
 fa 31 0 5,
 ii 32 (.at 1 (.load 1 false false)) [.t 31],
 ii 33 (.pl (.call 258)) [.t 32],
 ⟨some 34,none,.bin .add,[.c (.p (.str ⟨#[32]⟩)),.t 33]⟩,
 ⟨some 35,none,.bin .add,[.t 34,.c (.p (.str ⟨#[64]⟩))]⟩,
 fa 36 1 5,
 ii 37 (.at 1 (.load 1 false false)) [.t 36],
 ii 38 (.pl (.call 258)) [.t 37],
 b2 39 .add 35 38,
 ⟨some 40,none,.bin .add,[.t 39,.c (.p (.str ⟨#[43]⟩))]⟩,
 fa 41 2 5,
 ii 42 (.at 1 (.load 1 false false)) [.t 41],
 ii 43 (.pl (.call 258)) [.t 42],
 b2 44 .add 40 43,
 b2 45 .add 30 44,
 mt 3 45])))
 (.reg [b1 46 .add 26 (.int .i64 1),
 mv 26 46])))))))
 (.sr [mv 47 3,
 mt 2 47]
 .ret)))))⟩
theorem QE:aI Tryz.prog 253 O5=true:=by kernel_rfl
def O7:Fn:=⟨55,2,[.cell 2 5,.tmp 3],
 (.sr [⟨some 2,none,.alloc 0 5 [Z0,Z0,Z0,Z0,.ow 1 true []],[]⟩,
 mc 3 (.int .i64 0)]
 (.sr [mv 8 0,
 ⟨some 9,none,.call 261,[.t 8,.c (.p (.str ⟨#[32]⟩))]⟩,
 mt 4 9]
 (.seq
 (.sr [mv 10 4,
 ii 11 .len [.t 10],
 b1 12 .lss 11 (.int .i64 8)]
 (.cond (.t 12)
 (.seq
 (.gp (.reg [⟨some 13,none,.build [.int .i64 0,.int .i64 0,.int .i64 0,.int .i64 0,.sl 1 true []] [],[]⟩,
 ⟨none,none,.store 5,[.t 2,.t 13]⟩,
 mc 3 (.int .i64 1)]) (.lay 0 5))
 .ret)
 .skip))
 (.seq
 (.gp (.pre [5,41,47] [] [1] (.rega [mv 14 4,
 ii 15 (.iad 1) [.t 14,cI 1],
 ii 16 (.loadp 1 false) [.t 15],
 ii 17 (.pl (.call 262)) [.t 16],
 mv 18 4,
 ii 19 (.iad 1) [.t 18,cI 3],
 ii 20 (.loadp 1 false) [.t 19],
 ii 21 (.pl (.call 262)) [.t 20],
 mv 22 4,
 ii 23 (.iad 1) [.t 22,cI 5],
 ii 24 (.loadp 1 false) [.t 23],
 ii 25 (.pl (.call 262)) [.t 24],
 mv 26 4,
 ii 27 (.iad 1) [.t 26,cI 7],
 ii 28 (.loadp 1 false) [.t 27],
 ii 29 (.pl (.call 262)) [.t 28],
 ⟨some 30,none,.build [.int .i64 0,.int .i64 0,.int .i64 0,.int .i64 0,.sl 1 true []] [(0,1),(1,1),(2,1),(3,1)],[.t 17,.t 21,.t 25,.t 29]⟩,
 ⟨some 5,none,.alloc 1 5 [Z0,Z0,Z0,Z0,.ow 1 true []],[]⟩,
 ⟨none,none,.at 1 (.store 5),[.t 5,.t 30]⟩])) (.lay 1 5))
 (.seq
 (.sr [mv 31 4,
 mv 32 4,
 ii 33 .len [.t 32],
 ii 34 .mn [cI 9,.t 33],
 ii 35 (.slc 1 true false) [.t 31,.t 34],
 ii 36 .len [.t 35],
 ii 37 (.mov false) [cI 0]]
 (.block 0
 (.loop [3,4,7,8,9,10,11,12,13,14,15,16,17,18,19,20,21,22,23,24,25,26,27,28,29,30,31,32,33,34,38,39,40,41,42,43,44,45,46,47,48,49,50,51,52,53,54] []
 (.sr [b2 38 .lss 37 36]
 (.seq
 (.cond (.t 38)
 .skip
 (.exit 0))
 (.seq
 (.block 1
 (.sr [ii 39 (.iad 1) [.t 35,.t 37],
 ld 40 39,
 mt 7 40]
 (.gp (.regd [fa 41 4 5,
 ii 42 (.at 1 (.load 1 false true)) [.t 41],
 mv 43 7,
 ii 44 (.pl (.call 262)) [.t 43],
 ii 45 (.bsl 1 1) [.t 44],
 ii 46 (.pl (.app 1 8)) [.t 42,.t 45],
 fa 47 4 5,
 ⟨none,none,.at 1 (.store 1),[.t 47,.t 46]⟩]) (.lay 1 5))))
 (.reg [b1 48 .add 37 (.int .i64 1),
 mv 37 48])))))))
 (.seq
 (.sr [ii 49 (.load 5 true false) [.t 5],
 ii 50 (.call 252) [.t 49],
 mv 51 0,
 b2 52 .neq 50 51]
 (.cond (.t 52)
 (.seq
 (.gp (.reg [⟨some 53,none,.build [.int .i64 0,.int .i64 0,.int .i64 0,.int .i64 0,.sl 1 true []] [],[]⟩,
 ⟨none,none,.store 5,[.t 2,.t 53]⟩,
 mc 3 (.int .i64 1)]) (.lay 0 5))
 .ret)
 .skip))
 (.seq
 (.gp (.reg [ii 54 (.load 5 true false) [.t 5],
 ⟨none,none,.store 5,[.t 2,.t 54]⟩,
 mc 3 (.int .i64 0)]) (.lay 0 5))
 .ret)))))))⟩
theorem TP:aI Tryz.prog 254 O7=true:=by kernel_rfl
end Go.Proofs.YtnjphclbpgajpaaGreatDoor.Vc
namespace Go.Proofs.YtnjphclbpgajpaaGreatDoor.Ma
structure Ld where
 c:Int
 d:Int
 t:Int
deriving DecidableEq
def Ld.ok(x:Ld):Bool:=decide (1<=x.c)&&decide (x.c<=20000)&&(decide (1<=x.d)&&decide (x.d<=x.t)&&decide (x.t<=200))
theorem Ld.ok_iff{x:Ld}:x.ok=true↔(1<=x.c/\x.c<=20000)/\(1<=x.d/\x.d<=x.t)/\x.t<=200:=by simp[Ld.ok,and_assoc]
def dT(l:List Ld):Bool:=decide (l.length<=24)&&l.all Ld.ok
theorem cH{l:List Ld}:dT l=true↔l.length<=24/\∀x,x∈l->x.ok=true:=by simp[dT]
def cN(f:Ld->Int):List Ld->Int
 |[]=>0
 |x ::xs=>f x+cN f xs
theorem nY(f:Ld->Int)(a b:List Ld):cN f (a++b)=cN f a+cN f b:=by
 induction a with
 |nil=>simp[cN]
 |cons x xs ih=>simp[cN,ih];omega
theorem tH{f:Ld->Int}{a b:List Ld}(h:a.Perm b):cN f a=cN f b:=by
 induction h with
 |nil=>rfl
 |cons x _ ih=>simp[cN,ih]
 |swap x y l=>simp[cN];omega
 |trans _ _ iha ihb=>exact iha.trans ihb
theorem IU{f g:Ld->Int}{l:List Ld}(h:∀x,x∈l->f x<=g x):cN f l<=cN g l:=by
 induction l with
 |nil=>exact Int.le_refl _
 |cons x xs ih=>
  have:=h x (List.mem_cons_self ..);have:=ih fun y hy=>h y (List.mem_cons_of_mem _ hy)
  simp only[cN];omega
theorem y1{f:Ld->Int}{l:List Ld}{B:Int}(h:∀x,x∈l->0<=f x/\f x<=B):0<=cN f l/\cN f l<=l.length*B:=by
 induction l with
 |nil=>simp[cN]
 |cons x xs ih=>
  have h1:=h x (List.mem_cons_self ..);have h2:=ih fun y hy=>h y (List.mem_cons_of_mem _ hy)
  simp only[cN,List.length_cons,Int.natCast_succ,Int.add_mul,Int.one_mul];omega
theorem pY{f g:Ld->Int}{l:List Ld}(h:∀x,x∈l->f x=g x):cN f l=cN g l:=by
 induction l with
 |nil=>rfl
 |cons x xs ih=>simp only[cN];rw[h x (List.mem_cons_self ..),ih fun y hy=>h y (List.mem_cons_of_mem _ hy)]
def lK(t:Int)(x:Ld):Int:=x.c*((t-1)/x.t+1)
def cF(l:List Ld)(t:Int):Int:=cN (lK t) l
def lW(t:Int)(x:Ld):Int:=if x.d>t then 0 else x.c*((t-x.d)/x.t+1)
def f7(l:List Ld)(t:Int):Int:=cN (lW t) l
theorem kR{x:Ld}(hx:x.ok=true){t:Int}(h1:1<=t)(h2:t<=20000):1<=lK t x/\lK t x<=400000000:=by
 rw[Ld.ok_iff] at hx;have h3:0<=(t-1)/x.t:=Int.ediv_nonneg (by omega) (by omega)
 have h4:(t-1)/x.t<=t-1:=Int.ediv_le_self _ (by omega)
 unfold lK;refine⟨?_,?_⟩
 ·calc (1:Int)=1*1:=by omega
   _<=x.c*((t-1)/x.t+1):=Int.mul_le_mul (by omega) (by omega) (by omega) (by omega)
 ·calc x.c*((t-1)/x.t+1)<=20000*20000:=Int.mul_le_mul (by omega) (by omega) (by omega) (by omega)
   _=400000000:=by omega
theorem pS{x:Ld}(hx:x.ok=true){t:Int}(h2:t<=20000):0<=lW t x/\lW t x<=400000000:=by
 rw[Ld.ok_iff] at hx;unfold lW
 split
 ·omega
 ·have h3:0<=(t-x.d)/x.t:=Int.ediv_nonneg (by omega) (by omega)
  have h4:(t-x.d)/x.t<=t-x.d:=Int.ediv_le_self _ (by omega)
  refine⟨Int.mul_nonneg (by omega) (by omega),?_⟩
  calc x.c*((t-x.d)/x.t+1)<=20000*20000:=Int.mul_le_mul (by omega) (by omega) (by omega) (by omega)
   _=400000000:=by omega
theorem BJ{x:Ld}(hx:x.ok=true){s t:Int}(h:s<=t):lK s x<=lK t x:=by
 rw[Ld.ok_iff] at hx;have h3:(s-1)/x.t<=(t-1)/x.t:=Int.ediv_le_ediv (by omega) (by omega)
 exact Int.mul_le_mul_of_nonneg_left (by omega) (by omega)
theorem l6{l:List Ld}(hl:dT l=true){s t:Int}(h:s<=t):cF l s<=cF l t:=by
 rw[cH] at hl;exact IU fun x hx=>BJ (hl.2 x hx) h
theorem t8{l:List Ld}(hl:dT l=true)(hn:l≠[]){t:Int}(h:1<=t)(h2:t<=20000):1<=cF l t:=by
 rw[cH] at hl
 cases l with
 |nil=>exact absurd rfl hn
 |cons x xs=>
  have h1:=kR (hl.2 x (List.mem_cons_self ..)) h h2;have h3:0<=cN (lK t) xs/\cN (lK t) xs<=xs.length*400000000:=y1 fun y hy=>by have:=kR (hl.2 y (List.mem_cons_of_mem _ hy)) h h2;omega
  simp only[cF,cN];omega
structure Busy (l:List Ld) (e:Int):Prop where
 lo:1<=e
 hi:e<=20000
 eq:cF l e=e
 least:∀s,1<=s->s<e->cF l s≠s
theorem Busy.uniq{l:List Ld}{e e':Int}(h:Busy l e)(h':Busy l e'):e=e':=by
 rcases Int.lt_trichotomy e e' with hlt|heq|hgt
 ·exact absurd h.eq (h'.least e h.lo hlt)
 ·exact heq
 ·exact absurd h'.eq (h.least e' h'.lo hgt)
theorem rF{l:List Ld}(hl:dT l=true)(hn:l≠[]){e:Int}(h1:1<=e)(h2:e<=20000)(h:cF l e<=e):∃e',Busy l e'/\e'<=e:=by
 obtain⟨n,rfl⟩:=Int.eq_ofNat_of_zero_le (show 0<=e by omega)
 induction n using Nat.strongRecOn with
 |ind n ih=>
  by_cases hs:∃m:Nat,1<=m/\m<n/\cF l m<=m
  ·obtain⟨m,m1,m2,m3⟩:=hs
   obtain⟨e',he,hle⟩:=ih m m2 (by omega) (by omega) m3
   exact⟨e',he,by omega⟩
  ·have hno:∀s:Int,1<=s->s<n->¬cF l s<=s:=fun s s1 s2 hle=>by
    obtain⟨m,rfl⟩:=Int.eq_ofNat_of_zero_le (show 0<=s by omega)
    exact hs ⟨m,by omega,by omega,hle⟩
   refine⟨n,⟨h1,h2,?_,fun s s1 s2 e=>hno s s1 s2 (by omega)⟩,Int.le_refl _⟩
   by_cases hb:(n:Int)=1
   ·have:=t8 hl hn h1 h2;omega
   ·have:=hno (n-1) (by omega) (by omega)
    have:=l6 hl (s:=(n:Int)-1) (t:=n) (by omega)
    omega
def FitsP(l:List Ld):Prop:=dT l=true/\(l=[]\/∃e,Busy l e/\∀t,1<=t->t<=e->f7 l t<=t)
open Classical in
noncomputable def kN (l:List Ld):Bool:=decide (FitsP l)
theorem jL{l:List Ld}:kN l=true↔FitsP l:=by simp[kN]
theorem o4{l:List Ld}:kN l=false↔¬FitsP l:=by simp[kN]
theorem pO{a b:List Ld}(h:a.Perm b)(t:Int):cF a t=cF b t:=tH h
theorem GD{a b:List Ld}(h:a.Perm b)(t:Int):f7 a t=f7 b t:=tH h
theorem BZ{a b:List Ld}(h:a.Perm b):dT a=dT b:=by
 rw[Bool.eq_iff_iff,cH,cH,h.length_eq];exact⟨fun ⟨h1,h2⟩=>⟨h1,fun x hx=>h2 x (h.mem_iff.2 hx)⟩,fun ⟨h1,h2⟩=>⟨h1,fun x hx=>h2 x (h.mem_iff.1 hx)⟩⟩
theorem Busy.perm{a b:List Ld}(h:a.Perm b){e:Int}(hb:Busy a e):Busy b e :=
 ⟨hb.lo,hb.hi,(pO h e).symm.trans hb.eq,fun s h1 h2 hs=>hb.least s h1 h2 ((pO h s).trans hs)⟩
theorem FitsP.perm{a b:List Ld}(h:a.Perm b)(hf:FitsP a):FitsP b:=by
 obtain⟨h1,h2⟩:=hf;refine⟨(BZ h).symm.trans h1,?_⟩;rcases h2 with rfl|⟨e,he,hd⟩
 ·exact .inl h.nil_eq.symm
 ·exact .inr ⟨e,he.perm h,fun t t1 t2=>(GD h t)▸hd t t1 t2⟩
theorem FitsP.less{l:List Ld}{c c' d t:Int}(hf:FitsP (l++[⟨c,d,t⟩]))(h1:1<=c')(h2:c'<=c):FitsP (l++[⟨c',d,t⟩]):=by
 obtain⟨hm,hf⟩:=hf;have hm0:=cH.1 hm;have hc:=Ld.ok_iff.1 (hm0.2 ⟨c,d,t⟩ (by simp))
 have hm':dT (l++[⟨c',d,t⟩])=true:=by
  rw[cH];refine⟨by simpa using hm0.1,fun x hx=>?_⟩
  rcases List.mem_append.1 hx with hx|hx
  ·exact hm0.2 x (by simp[hx])
  ·simp only[List.mem_singleton] at hx
   subst hx;rw[Ld.ok_iff];simp only at hc ⊢;omega
 have ha:∀s:Int,1<=s->cF (l++[⟨c',d,t⟩]) s<=cF (l++[⟨c,d,t⟩]) s:=by
  intro s hs;simp only[cF,nY,cN,lK];have h3:0<=(s-1)/t:=Int.ediv_nonneg (by omega) (by simp only at hc;omega)
  have:=Int.mul_le_mul_of_nonneg_right h2 (show 0<=(s-1)/t+1 by omega)
  omega
 have hd:∀s:Int,f7 (l++[⟨c',d,t⟩]) s<=f7 (l++[⟨c,d,t⟩]) s:=by
  intro s;simp only[f7,nY,cN,lW]
  split
  ·omega
  ·have h3:0<=(s-d)/t:=Int.ediv_nonneg (by omega) (by simp only at hc;omega)
   have:=Int.mul_le_mul_of_nonneg_right h2 (show 0<=(s-d)/t+1 by omega)
   omega
 refine⟨hm',.inr ?_⟩;rcases hf with hf|⟨e,he,hdue⟩
 ·simp at hf
 ·obtain⟨e',he',hle⟩:=rF hm' (by simp) he.lo he.hi (by have:=ha e he.lo;have:=he.eq;omega)
  exact⟨e',he',fun s s1 s2=>by have:=hdue s s1 (by omega);have:=hd s;omega⟩
theorem BW{x:Ld}(hx:x.ok=true)(t:Int):lW t x=lW (t-1) x+if t≥x.d/\(t-x.d)%x.t=0 then x.c else 0:=by
 rw[Ld.ok_iff] at hx;unfold lW
 by_cases h1:x.d>t
 ·rw[if_pos h1,if_pos (by omega),if_neg (by omega)];omega
 ·rw[if_neg h1]
  by_cases h2:x.d>t-1
  ·have:t=x.d:=by omega
   subst this;rw[if_pos h2,if_pos ⟨by omega,by simp⟩]
   simp
  ·rw[if_neg h2]
   have e1:=Int.mul_ediv_add_emod (t-x.d) x.t
   by_cases h3:(t-x.d)%x.t=0
   ·rw[if_pos ⟨by omega,h3⟩]
    have e2:(t-1-x.d)/x.t=(t-x.d)/x.t-1:=by
     have:t-1-x.d=(x.t-1)+x.t*((t-x.d)/x.t-1):=by
      rw[Int.mul_sub];omega
     rw[this,Int.add_mul_ediv_left _ _ (by omega),Int.ediv_eq_zero_of_lt (by omega) (by omega)];omega
    rw[e2];have:(t-x.d)/x.t-1+1=(t-x.d)/x.t:=by omega
    rw[this,Int.mul_add];omega
   ·rw[if_neg fun h=>h3 h.2]
    have hlt:=Int.emod_lt_of_pos (t-x.d) (show 0<x.t by omega)
    have hge:=Int.emod_nonneg (t-x.d) (show x.t≠0 by omega)
    have e2:(t-1-x.d)/x.t=(t-x.d)/x.t:=by
     have:t-1-x.d=((t-x.d)%x.t-1)+x.t*((t-x.d)/x.t):=by omega
     rw[this,Int.add_mul_ediv_left _ _ (by omega),Int.ediv_eq_zero_of_lt (by omega) (by omega)];omega
    rw[e2];omega
theorem DK{l:List Ld}(hl:dT l=true):f7 l 0=0:=by
 rw[cH] at hl
 have:f7 l 0=cN (fun _=>0) l:=pY fun x hx=>by
  have:=Ld.ok_iff.1 (hl.2 x hx);unfold lW;rw[if_pos (by omega)]
 rw[this];clear this hl
 induction l with
 |nil=>rfl
 |cons x xs ih=>simp[cN,ih]
theorem C6{l:List Ld}(hl:dT l=true){F:Int}(h:∀x,x∈l->∀k:Int,0<=k->x.d+k*x.t<F->f7 l (x.d+k*x.t)<=x.d+k*x.t):∀t,0<=t->t<F->f7 l t<=t:=by
 intro t ht;obtain⟨n,rfl⟩:=Int.eq_ofNat_of_zero_le ht;clear ht
 induction n with
 |zero=>intro _;have:=DK hl;simp only[Int.natCast_zero] at *;omega
 |succ n ih=>
  intro hF;simp only[Int.natCast_succ] at *
  by_cases hx:∃x,x∈l/\((n:Int)+1≥x.d/\((n:Int)+1-x.d)%x.t=0)
  ·obtain⟨x,hx,h1,h2⟩:=hx
   have hok:=Ld.ok_iff.1 ((cH.1 hl).2 x hx);have e1:=Int.mul_ediv_add_emod ((n:Int)+1-x.d) x.t;have e2:(n:Int)+1=x.d+((n:Int)+1-x.d)/x.t*x.t:=by rw[Int.mul_comm];omega
   have:=h x hx (((n:Int)+1-x.d)/x.t) (Int.ediv_nonneg (by omega) (by omega)) (by omega)
   rw[<-e2] at this;exact this
  ·have:f7 l ((n:Int)+1)=f7 l n:=pY fun x hm=>by
    rw[BW ((cH.1 hl).2 x hm),if_neg fun hh=>hx ⟨x,hm,hh⟩]
    have:(n:Int)+1-1=n:=by omega
    rw[this];omega
   have:=ih (by omega)
   omega
open Classical in
noncomputable def c6 (l:List Ld):Int×Bool :=
 if dT l=false then (0,false) else if l=[] then (0,true) else if h:∃e,Busy l e then (h.choose,true) else (0,false)
theorem sR{l:List Ld}(h:dT l=false):c6 l=(0,false):=by unfold c6;rw[if_pos h]
theorem nF:c6 []=(0,true):=by
 have:dT []=true:=by decide
 unfold c6;rw[if_neg (by rw[this];decide),if_pos rfl]
theorem i9{l:List Ld}(h:dT l=true)(hn:l≠[]){e:Int}(hb:Busy l e):c6 l=(e,true):=by
 have hx:∃e,Busy l e:=⟨e,hb⟩;unfold c6;rw[if_neg (by rw[h];decide),if_neg hn,dif_pos hx,hx.choose_spec.uniq hb]
theorem qY{l:List Ld}(h:dT l=true)(hn:l≠[])(hb:¬ ∃e,Busy l e):c6 l=(0,false):=by
 unfold c6;rw[if_neg (by rw[h];decide),if_neg hn,dif_neg hb]
theorem mU{l:List Ld}(h:(c6 l).2=true):dT l=true/\((l=[]/\(c6 l).1=0)\/(l≠[]/\Busy l (c6 l).1)):=by
 cases hm:dT l with
 |false=>rw[sR hm] at h;cases h
 |true=>
  refine⟨rfl,?_⟩
  by_cases hn:l=[]
  ·subst hn;exact .inl ⟨rfl,by rw[nF]⟩
  ·by_cases hb:∃e,Busy l e
   ·obtain⟨e,he⟩:=hb
    rw[i9 hm hn he];exact .inr ⟨hn,he⟩
   ·rw[qY hm hn hb] at h;cases h
theorem wD(l:List Ld):0<=(c6 l).1/\(c6 l).1<=20000:=by
 cases h:(c6 l).2 with
 |true=>
  rcases(mU h).2 with ⟨_,e⟩|⟨_,hb⟩
  ·omega
  ·have:=hb.lo;have:=hb.hi;omega
 |false=>
  unfold c6 at *
  split at h<;>rename_i h1
  ·rw[if_pos h1];simp
  ·rw[if_neg h1]
   split at h<;>rename_i h2
   ·cases h
   ·rw[if_neg h2]
    split at h<;>rename_i h3
    ·cases h
    ·rw[dif_neg h3];simp
structure Seek (l:List Ld) (t:Int):Prop where
 may:dT l=true
 one:l≠[]
 lo:1<=t
 up:t<=20000->t<=cF l t
 low:∀e,Busy l e->t<=e
theorem Seek.start{l:List Ld}(h:dT l=true)(hn:l≠[]):Seek l 1:=⟨h,hn,Int.le_refl _,fun _=>t8 h hn (Int.le_refl _) (by omega),fun _ he=>he.lo⟩
theorem Seek.found{l:List Ld}{t:Int}(h:Seek l t)(ht:t<=20000)(he:cF l t=t):c6 l=(t,true):=by
 refine i9 h.may h.one ⟨h.lo,ht,he,fun s h1 h2 hs=>?_⟩
 obtain⟨e,he,hle⟩:=rF h.may h.one h1 (by omega) (by omega)
 have:=h.low e he;omega
theorem Seek.next{l:List Ld}{t:Int}(h:Seek l t)(ht:t<=20000)(hne:cF l t≠t):Seek l (cF l t)/\t<cF l t:=by
 have h1:=h.up ht;have h2:=h.lo;exact⟨⟨h.may,h.one,by omega,fun _=>l6 h.may h1,fun e he=>by have:=l6 h.may (h.low e he);have:=he.eq;omega⟩,by omega⟩
theorem Seek.never{l:List Ld}{t:Int}(h:Seek l t)(ht:¬t<=20000):c6 l=(0,false) :=
 qY h.may h.one fun ⟨e,he⟩=>by have:=h.low e he;have:=he.hi;omega
structure OverAt (l:List Ld) (e t:Int):Prop where
 lo:1<=t
 hi:t<=e
 over:t<f7 l t
 first:∀s,1<=s->s<t->f7 l s<=s
theorem OverAt.uniq{l:List Ld}{e t t':Int}(h:OverAt l e t)(h':OverAt l e t'):t=t':=by
 rcases Int.lt_trichotomy t t' with hlt|heq|hgt
 ·have:=h'.first t h.lo hlt;have:=h.over;omega
 ·exact heq
 ·have:=h.first t' h'.lo hgt;have:=h'.over;omega
open Classical in
noncomputable def dD (l:List Ld) (e:Int):Int:=if h:∃t,OverAt l e t then h.choose else 0
theorem sB{l:List Ld}{e t:Int}(h:OverAt l e t):dD l e=t:=by
 have hx:∃t,OverAt l e t:=⟨t,h⟩;unfold dD;rw[dif_pos hx];exact hx.choose_spec.uniq h
theorem jD{l:List Ld}{e:Int}(h:∀t,1<=t->t<=e->f7 l t<=t):dD l e=0:=by
 unfold dD;rw[dif_neg fun ⟨t,ht⟩=>by have:=h t ht.lo ht.hi;have:=ht.over;omega]
theorem vG(l:List Ld)(e:Int):OverAt l e (dD l e)\/(dD l e=0/\∀t,1<=t->t<=e->f7 l t<=t):=by
 by_cases hx:∃t,OverAt l e t
 ·obtain⟨t,ht⟩:=hx;rw[sB ht];exact .inl ht
 ·refine .inr ⟨by unfold dD;rw[dif_neg hx],fun t h1 h2=>?_⟩
  obtain⟨n,rfl⟩:=Int.eq_ofNat_of_zero_le (show 0<=t by omega)
  induction n using Nat.strongRecOn with
  |ind n ih=>
   refine Int.not_lt.1 fun hlt=>hx ⟨n,h1,h2,hlt,fun s s1 s2=>?_⟩
   obtain⟨m,rfl⟩:=Int.eq_ofNat_of_zero_le (show 0<=s by omega)
   exact ih m (by omega) s1 (by omega)
theorem DW(l:List Ld):kN l=((c6 l).2&&decide (dD l (c6 l).1=0)):=by
 rw[Bool.eq_iff_iff,jL,b6,decide_eq_true_eq]
 constructor
 ·rintro⟨h1,rfl|⟨e,he,hd⟩⟩
  ·rw[nF];exact⟨rfl,jD fun t h1 h2=>by simp only at h2;omega⟩
  ·have hn:l≠[]:=fun e0=>by
    subst e0;have h2:=he.eq;have:=he.lo;simp only[cF,cN] at h2;omega
   rw[i9 h1 hn he];exact⟨rfl,jD hd⟩
 ·rintro⟨h1,h2⟩
  obtain⟨h3,h4⟩:=mU h1;refine⟨h3,?_⟩;rcases h4 with ⟨rfl,_⟩|⟨_,hb⟩
  ·exact .inl rfl
  ·refine .inr ⟨_,hb,?_⟩
   rcases vG l (c6 l).1 with h|h
   ·have:=h.lo;omega
   ·exact h.2
structure Look (l:List Ld) (e first:Int) (seen:Ld->Int->Prop):Prop where
 may:dT l=true
 fst:first=e+1\/(1<=first/\first<=e/\first<f7 l first)
 ok:∀x,x∈l->∀k:Int,0<=k->seen x k->x.d+k*x.t<first->f7 l (x.d+k*x.t)<=x.d+k*x.t
theorem Look.end{l:List Ld}{e first:Int}{seen:Ld->Int->Prop}(h:Look l e first seen)(hs:∀x,x∈l->∀k,0<=k->x.d+k*x.t<first->seen x k):dD l e=if first>e then 0 else first:=by
 have hd:∀t,0<=t->t<first->f7 l t<=t:=C6 h.may fun x hx k hk hlt=>h.ok x hx k hk (hs x hx k hk hlt) hlt
 rcases h.fst with h1|⟨h1,h2,h3⟩
 ·rw[if_pos (by omega)]
  exact jD fun t t1 t2=>hd t (by omega) (by omega)
 ·rw[if_neg (by omega)]
  exact sB ⟨h1,h2,h3,fun s s1 s2=>hd s (by omega) s2⟩
noncomputable def kD (l:List Ld) (c d t:Int):Bool:=kN (l++[⟨c,d,t⟩])
theorem CD{l:List Ld}{c c' d t:Int}(h:kD l c d t=true)(h1:1<=c')(h2:c'<=c):kD l c' d t=true:=by
 unfold kD at *;rw[jL] at *;exact h.less h1 h2
noncomputable def s9 (l:List Ld) (d t:Int):Bool:=decide (l.length<=23)&&(decide (1<=d)&&(decide (d<=t)&&(decide (t<=200)&&kN l)))
noncomputable def cG (l:List Ld) (d t:Int):Nat->Int
 |0=>0
 |n+1=>if kD l (n+1:Int) d t then (n+1:Int) else cG l d t n
theorem rV(l:List Ld)(d t:Int)(n:Nat):0<=cG l d t n/\cG l d t n<=n/\(cG l d t n≠0->kD l (cG l d t n) d t=true)/\∀c,cG l d t n<c->c<=n->kD l c d t=false:=by
 induction n with
 |zero=>simp only[cG];exact⟨by omega,by omega,fun h=>absurd rfl h,fun c h1 h2=>by omega⟩
 |succ n ih=>
  simp only[cG]
  split
  ·rename_i h
   exact⟨by omega,by omega,fun _=>h,fun c h1 h2=>by omega⟩
  ·rename_i h
   refine⟨ih.1,by omega,ih.2.2.1,fun c h1 h2=>?_⟩
   by_cases hc:c=(n+1:Int)
   ·subst hc;simpa using h
   ·exact ih.2.2.2 c h1 (by omega)
noncomputable def AR (l:List Ld) (d t m:Int):Int:=if s9 l d t then cG l d t (min m d).toNat else 0
noncomputable def iG (l:List Ld) (t:Int):Nat->Int->Int
 |0,c=>c
 |n+1,c=>if kD l (c+1) (c+1) t then iG l t n (c+1) else c
noncomputable def uE (l:List Ld) (t m:Int):Int:=if s9 l t t then iG l t (min m t).toNat 0 else 0
end Go.Proofs.YtnjphclbpgajpaaGreatDoor.Ma
namespace Go.Proofs.YtnjphclbpgajpaaGreatDoor.Vc
open Go.RowKit Ma
def eL(x:Ld):PV:=.agg [.int .i64 x.c,.int .i64 x.d,.int .i64 x.t]
def sL(nl:Bool)(l:List Ld):PV:=.sl 3 nl (l.map eL)
theorem cX{a b:Bool}(h:a=b):c9 [TV.p (.bool a)]=DV.p (.bool b):=by subst h;rfl
theorem cD{a b:Int}(h:a=b):c9 [TV.p (.int .i64 a)]=DV.p (.int .i64 b):=by subst h;rfl
theorem JK{i n:Nat}(h:i<n):decide ((i:Int)<(n:Int))=true:=by simp[h]
theorem HM{i n:Nat}(h:¬i<n):decide ((i:Int)<(n:Int))=false:=by simp;omega
theorem BF{i:Nat}{n:Nat}(h:i<n)(hn:n<=maxLen):IntKind.wrap .i64 ((i:Int)+1)=((i+1:Nat):Int):=by
 have:maxLen=9223372036854775807:=by decide
 rw[bJ (by omega) (by omega)];omega
theorem EK(n a b:Int):aO Tryz.prog 126 [.int .i64 n,.int .i64 a,.int .i64 b] (.p (.bool (decide (a<=n)&&decide (n<=b)))):=by
 refine Fn.run PE rfl ?_;generalize Tryz.prog=P
 (repeat'((conv=>whnf);first|exact trivial|(with_reducible first|refine zX ?_|refine zP ?_|refine zL ?_)|refine⟨rfl,?_⟩|refine⟨_,rfl,?_⟩|refine⟨fun _=>?_,fun _=>?_⟩|refine zn ?_|refine zb rfl ?_|refine zX ?_|refine zo rfl ?_|refine zs ?_|intro _));all_goals(try(conv=>whnf))
 all_goals (refine cX (Bool.eq_iff_iff.2 ?_);simp only[b6,Bool.or_eq_true,Bool.and_eq_false_iff,Bool.or_eq_false_iff,decide_eq_true_eq,decide_eq_false_iff_not,Bool.not_eq_true',Bool.not_eq_false',Bool.false_eq_true,Bool.true_eq_false,Bool.not_true,Bool.not_false,ge_iff_le,gt_iff_lt] at *;first|done|omega|(simp only[false_iff];omega)|(simp only[true_iff];omega)|grind)
theorem AB(x:Ld):aO Tryz.prog 234 [eL x] (.p (.bool x.ok)):=by
 have h:=EK x.c 1 20000;refine Fn.run M7 rfl ?_;generalize Tryz.prog=P at *
 (repeat'((conv=>whnf);first|exact trivial|(with_reducible first|refine zX ?_|refine zP ?_|refine zL ?_)|refine⟨rfl,?_⟩|refine⟨_,rfl,?_⟩|refine⟨fun _=>?_,fun _=>?_⟩|refine zn ?_|refine zb rfl ?_|refine zX ?_|refine zo rfl ?_|refine zs ?_|intro _));all_goals(try(conv=>whnf))
 all_goals (refine cX (Bool.eq_iff_iff.2 ?_);simp only[Ld.ok_iff,b6,Bool.or_eq_true,Bool.and_eq_false_iff,Bool.or_eq_false_iff,decide_eq_true_eq,decide_eq_false_iff_not,Bool.not_eq_true',Bool.not_eq_false',Bool.false_eq_true,Bool.true_eq_false,Bool.not_true,Bool.not_false,ge_iff_le,gt_iff_lt] at *;first|done|omega|(simp only[false_iff];omega)|(simp only[true_iff];omega)|grind)
theorem N9(x:Ld):aO Tryz.prog 233 [eL x] (.p (.bool !x.ok)):=by
 have h:=AB x;refine Fn.run NM rfl ?_;generalize Tryz.prog=P at *
 (repeat'((conv=>whnf);first|exact trivial|(with_reducible first|refine zX ?_|refine zP ?_|refine zL ?_)|refine⟨rfl,?_⟩|refine⟨_,rfl,?_⟩|refine⟨fun _=>?_,fun _=>?_⟩|refine zn ?_|refine zb rfl ?_|refine zX ?_|refine zo rfl ?_|refine zs ?_|intro _));all_goals(try(conv=>whnf))
 all_goals exact cX rfl
theorem NY(x:Ld):aO Tryz.prog 235 [eL x] (.p (.bool !x.ok)):=by
 have h:=AB x;refine Fn.run KM rfl ?_;generalize Tryz.prog=P at *
 (repeat'((conv=>whnf);first|exact trivial|(with_reducible first|refine zX ?_|refine zP ?_|refine zL ?_)|refine⟨rfl,?_⟩|refine⟨_,rfl,?_⟩|refine⟨fun _=>?_,fun _=>?_⟩|refine zn ?_|refine zb rfl ?_|refine zX ?_|refine zo rfl ?_|refine zs ?_|intro _));all_goals(try(conv=>whnf))
 all_goals exact cX rfl
def gD{α:Type}(p : α->Bool):List α->Int->Int
 |[],_ => -1
 |x ::xs,k=>if p x then k else gD p xs (k+1)
theorem wC{α:Type}{p : α->Bool}{l:List α}:∀{k:Int},0<=k->(decide (0<=gD p l k)=l.any p):=by
 induction l with
 |nil=>intro k _;simp[gD]
 |cons x xs ih=>
  intro k hk;simp only[gD,List.any_cons]
  split
  ·rename_i h;simp[h,hk]
  ·rename_i h;simp[h,ih (show 0<=k+1 by omega)]
theorem G8(nl:Bool)(l:List Ld)(f:FuncId)(caps:List PV)(p:Ld->Bool)(hp:∀x,x∈l->aO Tryz.prog f ([eL x]++caps) (.p (.bool (p x)))) :
  aO Tryz.prog 247 [sL nl l,.fn f caps] (.p (.int .i64 (gD p l 0))):=by
 refine Fn.run OO rfl ?_;generalize Tryz.prog=P at *
 (repeat'((conv=>whnf);first|exact trivial|(with_reducible first|refine zX ?_|refine zP ?_|refine zL ?_)|refine⟨rfl,?_⟩|refine⟨_,rfl,?_⟩|refine⟨fun _=>?_,fun _=>?_⟩|refine zn ?_|refine zb rfl ?_|refine zX ?_|refine zo rfl ?_|refine zs ?_|intro _));all_goals(try(conv=>whnf))
 rename_i hlen;refine cE (fun n s=>∃i:Nat,n+i=l.length/\gD p (l.drop i) i=gD p l 0/\s=⟨uB 19 [(0,.p (sL nl l)),(1,.p (.fn f caps)),(7,.p (.int .i64 (l.map eL).length)),(8,.p (.int .i64 i))],[]⟩) l.length ?_ ?_
 ·conv=>whnf
  exact⟨0,rfl,rfl,rfl⟩
 ·rintro n t b N ⟨i,hi,hI,e⟩ hN
  cases e
  by_cases hlt:i<l.length
  ·have hrow:(l.map eL)[i]?=some (eL l[i]):=by simp[hlt]
   have hb:=JK (n:=(l.map eL).length) (by simpa using hlt)
   have hc:=hp l[i] (List.getElem_mem _);rw[List.drop_eq_getElem_cons hlt] at hI;simp only[gD] at hI
   (repeat'((conv=>whnf);first|exact trivial|(with_reducible first|refine zX ?_|refine zP ?_|refine zL ?_)|refine⟨rfl,?_⟩|refine⟨_,rfl,?_⟩|refine⟨fun _=>?_,fun _=>?_⟩|refine zn ?_|refine zb rfl ?_|refine zX ?_|refine zo rfl ?_|refine zs ?_|intro _));all_goals(try(conv=>whnf))
   ·rename_i e;rw[if_pos e] at hI;exact cD hI
   ·rename_i e
    rw[BF (by simpa using hlt) hlen]
    rw[if_neg (by rw[e];decide)] at hI
    exact hN (n-1) _ (by omega) ⟨i+1,by omega,hI,rfl⟩
  ·have hb:=HM (n:=(l.map eL).length) (by simpa using hlt)
   (repeat'((conv=>whnf);first|exact trivial|(with_reducible first|refine zX ?_|refine zP ?_|refine zL ?_)|refine⟨rfl,?_⟩|refine⟨_,rfl,?_⟩|refine⟨fun _=>?_,fun _=>?_⟩|refine zn ?_|refine zb rfl ?_|refine zX ?_|refine zo rfl ?_|refine zs ?_|intro _));all_goals(try(conv=>whnf))
   rw[List.drop_of_length_le (by omega)] at hI
   exact cD hI
theorem G6(nl:Bool)(l:List Ld)(f:FuncId)(caps:List PV)(p:Ld->Bool)(hp:∀x,x∈l->aO Tryz.prog f ([eL x]++caps) (.p (.bool (p x)))) :
  aO Tryz.prog 232 [sL nl l,.fn f caps] (.p (.bool (l.any p))):=by
 have h:=G8 nl l f caps p hp;refine Fn.run LS rfl ?_;generalize Tryz.prog=P at *
 (repeat'((conv=>whnf);first|exact trivial|(with_reducible first|refine zX ?_|refine zP ?_|refine zL ?_)|refine⟨rfl,?_⟩|refine⟨_,rfl,?_⟩|refine⟨fun _=>?_,fun _=>?_⟩|refine zn ?_|refine zb rfl ?_|refine zX ?_|refine zo rfl ?_|refine zs ?_|intro _));all_goals(try(conv=>whnf))
 all_goals exact cX (wC (Int.le_refl 0))
theorem JX(nl:Bool)(l:List Ld):aO Tryz.prog 209 [sL nl l] (.p (.bool (dT l))):=by
 have h:=G6 nl l 233 [] (fun x => !x.ok) fun x _=>N9 x
 refine Fn.run M4 rfl ?_;generalize Tryz.prog=P at *
 (repeat'((conv=>whnf);first|exact trivial|(with_reducible first|refine zX ?_|refine zP ?_|refine zL ?_)|refine⟨rfl,?_⟩|refine⟨_,rfl,?_⟩|refine⟨fun _=>?_,fun _=>?_⟩|refine zn ?_|refine zb rfl ?_|refine zX ?_|refine zo rfl ?_|refine zs ?_|intro _));all_goals(try(conv=>whnf))
 ·rename_i e
  refine cX ?_;unfold dT;simp only[List.length_map,decide_eq_true_eq] at e;have e':l.length<=24:=by omega
  simp[e',List.all_eq_not_any_not]
 ·rename_i e
  refine cX ?_;unfold dT;simp only[List.length_map,Bool.not_true,decide_eq_false_iff_not] at e;have e':¬l.length<=24:=by omega
  simp[e']
theorem L7{a b:Int}(ha:1<=a)(hb:1<=b):(if 0<a.tmod b then a.tdiv b+1 else a.tdiv b)=(a-1)/b+1:=by
 rw[Int.tdiv_eq_ediv_of_nonneg (by omega),Int.tmod_eq_emod_of_nonneg (by omega)]
 have e1:=Int.mul_ediv_add_emod a b;have h1:=Int.emod_nonneg a (show b≠0 by omega)
 have h2:=Int.emod_lt_of_pos a (show 0<b by omega)
 split
 ·have:a-1=(a%b-1)+b*(a/b):=by omega
  rw[this,Int.add_mul_ediv_left _ _ (by omega),Int.ediv_eq_zero_of_lt (a:=a%b-1) (b:=b) (by omega) (by omega)];omega
 ·have:a-1=(b-1)+b*(a/b-1):=by rw[Int.mul_sub];omega
  rw[this,Int.add_mul_ediv_left _ _ (by omega),Int.ediv_eq_zero_of_lt (a:=b-1) (b:=b) (by omega) (by omega)];omega
theorem T8(a b:Int)(ha:1<=a)(ha2:a<=20000)(hb:1<=b):aO Tryz.prog 196 [.int .i64 a,.int .i64 b] (.p (.int .i64 ((a-1)/b+1))):=by
 have hl:=L7 ha hb
 have hq:0<=a.tdiv b/\a.tdiv b<=a:=by
  rw[Int.tdiv_eq_ediv_of_nonneg (by omega)]
  exact⟨Int.ediv_nonneg (by omega) (by omega),Int.ediv_le_self _ (by omega)⟩
 have hb0:decide (b<=0)=false:=decide_eq_false (by omega)
 have hbn:b≠0:=by omega
 refine Fn.run O3 rfl ?_;generalize Tryz.prog=P at *
 (repeat'((conv=>whnf);first|exact trivial|(with_reducible first|refine zX ?_|refine zP ?_|refine zL ?_)|refine⟨rfl,?_⟩|refine⟨_,rfl,?_⟩|refine⟨fun _=>?_,fun _=>?_⟩|refine zn ?_|refine zb rfl ?_|refine zX ?_|refine zo rfl ?_|refine zs ?_|intro _));all_goals(try(conv=>whnf))
 ·rename_i e
  refine cD ?_;rw[bJ (n:=a.tdiv b) (by omega) (by omega),bJ (by omega) (by omega), <-hl,if_pos (of_decide_eq_true e)]
 ·rename_i e
  refine cD ?_;rw[bJ (n:=a.tdiv b) (by omega) (by omega), <-hl,if_neg (of_decide_eq_false e)]
theorem H3(nl:Bool)(l:List Ld)(t:Int)(hl:dT l=true)(h1:1<=t)(h2:t<=20000):aO Tryz.prog 210 [sL nl l,.int .i64 t] (.p (.int .i64 (cF l t))):=by
 have hm:=JX nl l;rw[hl] at hm;have hup:=fun b hb=>T8 t b h1 h2 hb
 have ht0:decide (t<0)=false:=decide_eq_false (by omega)
 have ht1:decide (t>20000)=false:=decide_eq_false (by omega)
 have hl':=cH.1 hl;refine Fn.run MK rfl ?_;generalize Tryz.prog=P at *
 (repeat'((conv=>whnf);first|exact trivial|(with_reducible first|refine zX ?_|refine zP ?_|refine zL ?_)|refine⟨rfl,?_⟩|refine⟨_,rfl,?_⟩|refine⟨fun _=>?_,fun _=>?_⟩|refine zn ?_|refine zb rfl ?_|refine zX ?_|refine zo rfl ?_|refine zs ?_|intro _));all_goals(try(conv=>whnf))
 rename_i hlen
 refine cE (fun n s=>∃(i:Nat) (acc:Int),n+i=l.length/\acc+cN (lK t) (l.drop i)=cF l t/\0<=acc/\acc<=i*400000000 /\
  s=⟨uB 36 [(1,.p (.int .i64 t)),(5,.p (.int .i64 acc)),(19,.p (sL nl l)),(20,.p (.int .i64 (l.map eL).length)),(21,.p (.int .i64 i))],[none]⟩) l.length ?_ ?_
 ·conv=>whnf
  exact⟨0,0,rfl,by simp[cF],Int.le_refl _,by omega,rfl⟩
 ·rintro n st b N ⟨i,acc,hi,hI,ha1,ha2,e⟩ hN
  cases e
  by_cases hlt:i<l.length
  ·have hrow:(l.map eL)[i]?=some (eL l[i]):=by simp[hlt]
   have hb:=JK (n:=(l.map eL).length) (by simpa using hlt)
   have hok:=hl'.2 l[i] (List.getElem_mem _);have hc:=hup l[i].t (by have:=Ld.ok_iff.1 hok;omega)
   have hbd:=kR hok h1 h2;rw[List.drop_eq_getElem_cons hlt] at hI;simp only[cN] at hI
   (repeat'((conv=>whnf);first|exact trivial|(with_reducible first|refine zX ?_|refine zP ?_|refine zL ?_)|refine⟨rfl,?_⟩|refine⟨_,rfl,?_⟩|refine⟨fun _=>?_,fun _=>?_⟩|refine zn ?_|refine zb rfl ?_|refine zX ?_|refine zo rfl ?_|refine zs ?_|intro _));all_goals(try(conv=>whnf))
   rw[BF (by simpa using hlt) hlen]
   have e1:IntKind.wrap .i64 (l[i].c*((t-1)/l[i].t+1))=lK t l[i]:=bJ (by unfold lK at hbd;omega) (by unfold lK at hbd;omega)
   rw[e1,bJ (by omega) (by omega)]
   exact hN (n-1) _ (by omega) ⟨i+1,acc+lK t l[i],by omega,by omega,by omega,by omega,rfl⟩
  ·have hb:=HM (n:=(l.map eL).length) (by simpa using hlt)
   (repeat'((conv=>whnf);first|exact trivial|(with_reducible first|refine zX ?_|refine zP ?_|refine zL ?_)|refine⟨rfl,?_⟩|refine⟨_,rfl,?_⟩|refine⟨fun _=>?_,fun _=>?_⟩|refine zn ?_|refine zb rfl ?_|refine zX ?_|refine zo rfl ?_|refine zs ?_|intro _));all_goals(try(conv=>whnf))
   rw[List.drop_of_length_le (by omega)] at hI
   simp only[cN] at hI;exact cD (by omega)
theorem FX(nl:Bool)(l:List Ld):aO Tryz.prog 174 [sL nl l] (.tup [.p (.int .i64 (c6 l).1),.p (.bool (c6 l).2)]):=by
 have hm:=JX nl l
 cases hl:dT l with
 |false=>
  rw[hl] at hm;rw[sR hl];refine Fn.run E6 rfl ?_;generalize Tryz.prog=P at *
  (repeat'((conv=>whnf);first|exact trivial|(with_reducible first|refine zX ?_|refine zP ?_|refine zL ?_)|refine⟨rfl,?_⟩|refine⟨_,rfl,?_⟩|refine⟨fun _=>?_,fun _=>?_⟩|refine zn ?_|refine zb rfl ?_|refine zX ?_|refine zo rfl ?_|refine zs ?_|intro _));all_goals(try(conv=>whnf))
  rfl
 |true=>
  rw[hl] at hm
  by_cases hn:l=[]
  ·subst hn
   rw[nF];have hz:((([]:List Ld).map eL).length:Int) ==0:=rfl;refine Fn.run E6 rfl ?_;generalize Tryz.prog=P at *
   (repeat'((conv=>whnf);first|exact trivial|(with_reducible first|refine zX ?_|refine zP ?_|refine zL ?_)|refine⟨rfl,?_⟩|refine⟨_,rfl,?_⟩|refine⟨fun _=>?_,fun _=>?_⟩|refine zn ?_|refine zb rfl ?_|refine zX ?_|refine zo rfl ?_|refine zs ?_|intro _));all_goals(try(conv=>whnf))
   rfl
  ·have hask:=fun t h1 h2=>H3 nl l t hl h1 h2
   have hz:(((l.map eL).length:Int) ==0)=false:=by
    cases l with
    |nil=>exact absurd rfl hn
    |cons x xs=>simp;omega
   refine Fn.run E6 rfl ?_;generalize Tryz.prog=P at *
   (repeat'((conv=>whnf);first|exact trivial|(with_reducible first|refine zX ?_|refine zP ?_|refine zL ?_)|refine⟨rfl,?_⟩|refine⟨_,rfl,?_⟩|refine⟨fun _=>?_,fun _=>?_⟩|refine zn ?_|refine zb rfl ?_|refine zX ?_|refine zo rfl ?_|refine zs ?_|intro _));all_goals(try(conv=>whnf))
   refine cE (fun n s=>∃t:Int,n=(20001-t).toNat/\Seek l t/\s=⟨uB 22 [(0,.p (sL nl l)),(4,.p (.int .i64 t))],[]⟩) 20000 ?_ ?_
   ·conv=>whnf
    exact⟨1,rfl,Seek.start hl hn,rfl⟩
   ·rintro n st b N ⟨t,hnn,hs,e⟩ hN
    cases e
    by_cases ht:t<=20000
    ·have hc:=hask t hs.lo ht
     have hb:decide (t<=20000)=true:=decide_eq_true ht
     (repeat'((conv=>whnf);first|exact trivial|(with_reducible first|refine zX ?_|refine zP ?_|refine zL ?_)|refine⟨rfl,?_⟩|refine⟨_,rfl,?_⟩|refine⟨fun _=>?_,fun _=>?_⟩|refine zn ?_|refine zb rfl ?_|refine zX ?_|refine zo rfl ?_|refine zs ?_|intro _));all_goals(try(conv=>whnf))
     ·rename_i e
      rw[hs.found ht (by simpa using e)];rfl
     ·rename_i e
      have hx:=hs.next ht (by simpa using e)
      exact hN _ _ (by omega) ⟨cF l t,rfl,hx.1,rfl⟩
    ·have hb:decide (t<=20000)=false:=decide_eq_false ht
     (repeat'((conv=>whnf);first|exact trivial|(with_reducible first|refine zX ?_|refine zP ?_|refine zL ?_)|refine⟨rfl,?_⟩|refine⟨_,rfl,?_⟩|refine⟨fun _=>?_,fun _=>?_⟩|refine zn ?_|refine zb rfl ?_|refine zX ?_|refine zo rfl ?_|refine zs ?_|intro _));all_goals(try(conv=>whnf))
     rw[hs.never ht];rfl
theorem DY{a b:Int}(hb:1<=b):(if a.tmod b<0 then a.tdiv b-1 else a.tdiv b)=a/b:=by
 have e1:=Int.mul_tdiv_add_tmod a b;have h2:=Int.tmod_lt_of_pos a (show 0<b by omega)
 have h3 : -b<a.tmod b:=by
  have:=Int.lt_tmod_of_pos a (show 0<b by omega)
  omega
 split
 ·have:a=(a.tmod b+b)+b*(a.tdiv b-1):=by rw[Int.mul_sub];omega
  conv=>rhs;rw[this]
  rw[Int.add_mul_ediv_left _ _ (by omega),Int.ediv_eq_zero_of_lt (a:=a.tmod b+b) (b:=b) (by omega) (by omega)];omega
 ·have:a=a.tmod b+b*a.tdiv b:=by omega
  conv=>rhs;rw[this]
  rw[Int.add_mul_ediv_left _ _ (by omega),Int.ediv_eq_zero_of_lt (a:=a.tmod b) (b:=b) (by omega) (by omega)];omega
theorem y4{a b:Int}(hb:1<=b)(h1 : -1000000<=a)(h2:a<=1000000) : -1000000<=a.tdiv b/\a.tdiv b<=1000000:=by
 have:=Int.natAbs_tdiv_le_natAbs a b;omega
theorem N3(a b:Int)(h1 : -1000000<=a)(h2:a<=1000000)(hb:1<=b):aO Tryz.prog 129 [.int .i64 a,.int .i64 b] (.p (.int .i64 (a/b))):=by
 have hl:=DY (a:=a) hb;have hq:=y4 hb h1 h2;have hb0:decide (b<=0)=false:=decide_eq_false (by omega)
 have hbn:b≠0:=by omega
 refine Fn.run LO rfl ?_;generalize Tryz.prog=P at *
 (repeat'((conv=>whnf);first|exact trivial|(with_reducible first|refine zX ?_|refine zP ?_|refine zL ?_)|refine⟨rfl,?_⟩|refine⟨_,rfl,?_⟩|refine⟨fun _=>?_,fun _=>?_⟩|refine zn ?_|refine zb rfl ?_|refine zX ?_|refine zo rfl ?_|refine zs ?_|intro _));all_goals(try(conv=>whnf))
 ·rename_i e
  refine cD ?_;rw[bJ (n:=a.tdiv b) (by omega) (by omega),bJ (by omega) (by omega), <-hl,if_pos (of_decide_eq_true e)]
 ·rename_i e
  refine cD ?_;rw[bJ (n:=a.tdiv b) (by omega) (by omega), <-hl,if_neg (of_decide_eq_false e)]
theorem P3(x:Ld)(hx:x.ok=true)(t:Int)(h1:0<=t)(h2:t<=20000):aO Tryz.prog 236 [eL x,.int .i64 t] (.p (.int .i64 (lW t x))):=by
 have hok:=Ld.ok_iff.1 hx;have hbd:=pS hx h2
 by_cases hd:x.d>t
 ·have hb:decide (x.d>t)=true:=decide_eq_true hd
  refine Fn.run JN rfl ?_;generalize Tryz.prog=P at *
  (repeat'((conv=>whnf);first|exact trivial|(with_reducible first|refine zX ?_|refine zP ?_|refine zL ?_)|refine⟨rfl,?_⟩|refine⟨_,rfl,?_⟩|refine⟨fun _=>?_,fun _=>?_⟩|refine zn ?_|refine zb rfl ?_|refine zX ?_|refine zo rfl ?_|refine zs ?_|intro _));all_goals(try(conv=>whnf))
  exact cD (by unfold lW;rw[if_pos hd])
 ·have hb:decide (x.d>t)=false:=decide_eq_false hd
  have ht:IntKind.wrap .i64 (t-x.d)=t-x.d:=bJ (by omega) (by omega)
  have hdn:=N3 (t-x.d) x.t (by omega) (by omega) (by omega)
  rw[<-ht] at hdn;have hq:0<=(t-x.d)/x.t/\(t-x.d)/x.t<=t-x.d:=⟨Int.ediv_nonneg (by omega) (by omega),Int.ediv_le_self _ (by omega)⟩
  unfold lW at hbd ⊢;rw[if_neg hd] at hbd ⊢;refine Fn.run JN rfl ?_;generalize Tryz.prog=P at *
  (repeat'((conv=>whnf);first|exact trivial|(with_reducible first|refine zX ?_|refine zP ?_|refine zL ?_)|refine⟨rfl,?_⟩|refine⟨_,rfl,?_⟩|refine⟨fun _=>?_,fun _=>?_⟩|refine zn ?_|refine zb rfl ?_|refine zX ?_|refine zo rfl ?_|refine zs ?_|intro _));all_goals(try(conv=>whnf))
  refine cD ?_;rw[ht,bJ (n:=(t-x.d)/x.t+1) (by omega) (by omega),bJ (by omega) (by omega)]
theorem IL(nl:Bool)(l:List Ld)(t:Int)(hl:dT l=true)(h1:0<=t)(h2:t<=20000):aO Tryz.prog 211 [sL nl l,.int .i64 t] (.p (.int .i64 (f7 l t))):=by
 have hm:=G6 nl l 235 [] (fun x => !x.ok) fun x _=>NY x
 have hl':=cH.1 hl;have ha:(l.any fun x => !x.ok)=false:=by simpa using hl'.2
 rw[ha] at hm;have hb24:decide (((l.map eL).length:Int)>24)=false:=decide_eq_false (by simp;omega)
 have ht0:decide (t<0)=false:=decide_eq_false (by omega)
 have ht1:decide (t>20000)=false:=decide_eq_false (by omega)
 have hdue:=fun x (hx:x.ok=true)=>P3 x hx t h1 h2
 refine Fn.run NG rfl ?_;generalize Tryz.prog=P at *
 (repeat'((conv=>whnf);first|exact trivial|(with_reducible first|refine zX ?_|refine zP ?_|refine zL ?_)|refine⟨rfl,?_⟩|refine⟨_,rfl,?_⟩|refine⟨fun _=>?_,fun _=>?_⟩|refine zn ?_|refine zb rfl ?_|refine zX ?_|refine zo rfl ?_|refine zs ?_|intro _));all_goals(try(conv=>whnf))
 rename_i hlen
 refine cE (fun n s=>∃(i:Nat) (acc:Int),n+i=l.length/\acc+cN (lW t) (l.drop i)=f7 l t/\0<=acc/\acc<=i*400000000 /\
  s=⟨uB 38 [(1,.p (.int .i64 t)),(6,.p (.int .i64 acc)),(25,.p (sL nl l)),(26,.p (.int .i64 (l.map eL).length)),(27,.p (.int .i64 i))],[none]⟩) l.length ?_ ?_
 ·conv=>whnf
  exact⟨0,0,rfl,by simp[f7],Int.le_refl _,by omega,rfl⟩
 ·rintro n st b N ⟨i,acc,hi,hI,ha1,ha2,e⟩ hN
  cases e
  by_cases hlt:i<l.length
  ·have hrow:(l.map eL)[i]?=some (eL l[i]):=by simp[hlt]
   have hb:=JK (n:=(l.map eL).length) (by simpa using hlt)
   have hok:=hl'.2 l[i] (List.getElem_mem _);have hc:=hdue l[i] hok;have hbd:=pS hok h2;rw[List.drop_eq_getElem_cons hlt] at hI;simp only[cN] at hI
   (repeat'((conv=>whnf);first|exact trivial|(with_reducible first|refine zX ?_|refine zP ?_|refine zL ?_)|refine⟨rfl,?_⟩|refine⟨_,rfl,?_⟩|refine⟨fun _=>?_,fun _=>?_⟩|refine zn ?_|refine zb rfl ?_|refine zX ?_|refine zo rfl ?_|refine zs ?_|intro _));all_goals(try(conv=>whnf))
   rw[BF (by simpa using hlt) hlen,bJ (by omega) (by omega)]
   exact hN (n-1) _ (by omega) ⟨i+1,acc+lW t l[i],by omega,by omega,by omega,by omega,rfl⟩
  ·have hb:=HM (n:=(l.map eL).length) (by simpa using hlt)
   (repeat'((conv=>whnf);first|exact trivial|(with_reducible first|refine zX ?_|refine zP ?_|refine zL ?_)|refine⟨rfl,?_⟩|refine⟨_,rfl,?_⟩|refine⟨fun _=>?_,fun _=>?_⟩|refine zn ?_|refine zb rfl ?_|refine zX ?_|refine zo rfl ?_|refine zs ?_|intro _));all_goals(try(conv=>whnf))
   rw[List.drop_of_length_le (by omega)] at hI
   simp only[cN] at hI;exact cD (by omega)
theorem GY(nl:Bool)(l:List Ld):aO Tryz.prog 175 [sL nl l] (.tup [.p (.int .i64 (if (c6 l).2 then dD l (c6 l).1 else 0)),.p (.bool ((c6 l).2&&decide (dD l (c6 l).1≠0)))]):=by
 have htm:=FX nl l;have hrange:=wD l;generalize hT:c6 l=T at *;obtain⟨e0,ok⟩:=T
 cases ok with
 |false=>
  refine Fn.run I8 rfl ?_;generalize Tryz.prog=P at *
  (repeat'((conv=>whnf);first|exact trivial|(with_reducible first|refine zX ?_|refine zP ?_|refine zL ?_)|refine⟨rfl,?_⟩|refine⟨_,rfl,?_⟩|refine⟨fun _=>?_,fun _=>?_⟩|refine zn ?_|refine zb rfl ?_|refine zX ?_|refine zo rfl ?_|refine zs ?_|intro _));all_goals(try(conv=>whnf))
  rfl
 |true=>
  have hl:=(mU (by rw[hT])).1
  have hl':=cH.1 hl;have hbnd:=fun t h1 h2=>IL nl l t hl h1 h2
  simp only at hrange;refine Fn.run I8 rfl ?_;generalize Tryz.prog=P at *
  (repeat'((conv=>whnf);first|exact trivial|(with_reducible first|refine zX ?_|refine zP ?_|refine zL ?_)|refine⟨rfl,?_⟩|refine⟨_,rfl,?_⟩|refine⟨fun _=>?_,fun _=>?_⟩|refine zn ?_|refine zb rfl ?_|refine zX ?_|refine zo rfl ?_|refine zs ?_|intro _));all_goals(try(conv=>whnf))
  rename_i hlen
  refine cE (fun n s=>∃(i:Nat) (f:Int),n+i=l.length/\Look l e0 f (fun x _=>x∈l.take i)/\f<=e0+1 /\
   s=⟨uB 45 [(0,.p (sL nl l)),(4,.p (.int .i64 e0)),(6,.p (.int .i64 f)),(19,.p (sL nl l)),(20,.p (.int .i64 (l.map eL).length)),(21,.p (.int .i64 i))],[none]⟩) l.length ?_ ?_
  ·conv=>whnf
   refine⟨0,e0+1,rfl,⟨hl,.inl rfl,fun x _ k _ hx=>by simp at hx⟩,Int.le_refl _,?_⟩
   have hw:IntKind.wrap .i64 (e0+1)=e0+1:=bJ (by omega) (by omega)
   rw[hw];rfl
  ·rintro n st b N ⟨i,f,hi,hI,hf,e⟩ hN
   cases e
   by_cases hlt:i<l.length
   ·have hrow:(l.map eL)[i]?=some (eL l[i]):=by simp[hlt]
    have hb:=JK (n:=(l.map eL).length) (by simpa using hlt)
    have hok:=Ld.ok_iff.1 (hl'.2 l[i] (List.getElem_mem _))
    (repeat'((conv=>whnf);first|exact trivial|(with_reducible first|refine zX ?_|refine zP ?_|refine zL ?_)|refine⟨rfl,?_⟩|refine⟨_,rfl,?_⟩|refine⟨fun _=>?_,fun _=>?_⟩|refine zn ?_|refine zb rfl ?_|refine zX ?_|refine zo rfl ?_|refine zs ?_|intro _));all_goals(try(conv=>whnf))
    refine cE (fun n s=>∃(k f t:Int),n=(e0+1-t).toNat/\0<=k/\t=l[i].d+k*l[i].t/\Look l e0 f (fun x j=>x∈l.take i\/(x=l[i]/\j<k))/\f<=e0+1 /\
     s=⟨uB 45 [(0,.p (sL nl l)),(4,.p (.int .i64 e0)),(6,.p (.int .i64 f)),(8,.addr 0 3 0 0),(9,.p (.int .i64 t)),(19,.p (sL nl l)),(20,.p (.int .i64 (l.map eL).length)),(21,.p (.int .i64 i))],
      [some ⟨true,3,[[.p (.int .i64 l[i].c),.p (.int .i64 l[i].d),.p (.int .i64 l[i].t)]],false⟩]⟩) (e0+1-l[i].d).toNat ?_ ?_
    ·conv=>whnf
     exact⟨0,f,l[i].d,rfl,Int.le_refl _,by omega,⟨hI.may,hI.fst,fun x hx k hk hs=>hI.ok x hx k hk (hs.resolve_right fun h=>by omega)⟩,hf,rfl⟩
    ·rintro m st2 b2 N2 ⟨k,f2,t,hm,hk,htk,hI2,hf2,e2⟩ hN2
     cases e2
     by_cases hlt2:t<f2
     ·have hb2:decide (t<f2)=true:=decide_eq_true hlt2
      have hkt:0<=k*l[i].t:=Int.mul_nonneg hk (by omega)
      have hc:=hbnd t (by omega) (by omega)
      have hkn:(k+1)*l[i].t=k*l[i].t+l[i].t:=by rw[Int.add_mul,Int.one_mul]
      (repeat'((conv=>whnf);first|exact trivial|(with_reducible first|refine zX ?_|refine zP ?_|refine zL ?_)|refine⟨rfl,?_⟩|refine⟨_,rfl,?_⟩|refine⟨fun _=>?_,fun _=>?_⟩|refine zn ?_|refine zb rfl ?_|refine zX ?_|refine zo rfl ?_|refine zs ?_|intro _));all_goals(try(conv=>whnf))
      ·rename_i ov
       have ov:=of_decide_eq_true ov;rw[bJ (by omega) (by omega)]
       refine hN2 _ _ (by omega) ⟨k+1,t,t+l[i].t,rfl,by omega,by omega,⟨hI2.may,.inr ⟨by omega,by omega,ov⟩,fun x hx j hj hs hlt3=>?_⟩,by omega,rfl⟩
       refine hI2.ok x hx j hj ?_ (by omega)
       rcases hs with hs|⟨rfl,hs⟩
       ·exact .inl hs
       ·refine .inr ⟨rfl,?_⟩
        by_cases e:j=k
        ·subst e;omega
        ·omega
      ·rename_i ov
       have ov:=of_decide_eq_false ov;rw[bJ (by omega) (by omega)]
       refine hN2 _ _ (by omega) ⟨k+1,f2,t+l[i].t,rfl,by omega,by omega,⟨hI2.may,hI2.fst,fun x hx j hj hs hlt3=>?_⟩,hf2,rfl⟩
       rcases hs with hs|⟨rfl,hs⟩
       ·exact hI2.ok x hx j hj (.inl hs) hlt3
       ·by_cases e:j=k
        ·subst e;rw[<-htk];omega
        ·exact hI2.ok _ hx j hj (.inr ⟨rfl,by omega⟩) hlt3
     ·have hb2:decide (t<f2)=false:=decide_eq_false hlt2
      (repeat'((conv=>whnf);first|exact trivial|(with_reducible first|refine zX ?_|refine zP ?_|refine zL ?_)|refine⟨rfl,?_⟩|refine⟨_,rfl,?_⟩|refine⟨fun _=>?_,fun _=>?_⟩|refine zn ?_|refine zb rfl ?_|refine zX ?_|refine zo rfl ?_|refine zs ?_|intro _));all_goals(try(conv=>whnf))
      rw[BF (by simpa using hlt) hlen]
      refine hN (n-1) _ (by omega) ⟨i+1,f2,by omega,⟨hI2.may,hI2.fst,fun x hx j hj hs hlt3=>?_⟩,hf2,rfl⟩
      refine hI2.ok x hx j hj ?_ hlt3;rw[List.take_add_one,List.getElem?_eq_getElem hlt] at hs;rcases List.mem_append.1 hs with hs|hs
      ·exact .inl hs
      ·simp only[Option.toList_some,List.mem_singleton] at hs
       subst hs;refine .inr ⟨rfl,Int.not_le.1 fun hle=>?_⟩
       have:=Int.mul_le_mul_of_nonneg_right hle (show 0<=l[i].t by omega)
       omega
   ·have hb:=HM (n:=(l.map eL).length) (by simpa using hlt)
    have hend:=hI.end fun x hx k _ _=>by rw[List.take_of_length_le (by omega)];exact hx
    by_cases hfe:f>e0
    ·have hb3:decide (f>e0)=true:=decide_eq_true hfe
     rw[if_pos hfe] at hend
     (repeat'((conv=>whnf);first|exact trivial|(with_reducible first|refine zX ?_|refine zP ?_|refine zL ?_)|refine⟨rfl,?_⟩|refine⟨_,rfl,?_⟩|refine⟨fun _=>?_,fun _=>?_⟩|refine zn ?_|refine zb rfl ?_|refine zX ?_|refine zo rfl ?_|refine zs ?_|intro _));all_goals(try(conv=>whnf))
     show c9 _=DV.tup [TV.p (.int .i64 (dD l e0)),TV.p (.bool (true&&decide (dD l e0≠0)))]
     rw[hend]
     rfl
    ·have hb3:decide (f>e0)=false:=decide_eq_false hfe
     rw[if_neg hfe] at hend;have hf1:f≠0:=by rcases hI.fst with h|h<;>omega
     (repeat'((conv=>whnf);first|exact trivial|(with_reducible first|refine zX ?_|refine zP ?_|refine zL ?_)|refine⟨rfl,?_⟩|refine⟨_,rfl,?_⟩|refine⟨fun _=>?_,fun _=>?_⟩|refine zn ?_|refine zb rfl ?_|refine zX ?_|refine zo rfl ?_|refine zs ?_|intro _));all_goals(try(conv=>whnf))
     show c9 _=DV.tup [TV.p (.int .i64 (dD l e0)),TV.p (.bool (true&&decide (dD l e0≠0)))]
     rw[hend,decide_eq_true hf1]
     rfl
theorem z8(nl:Bool)(l:List Ld):aO Tryz.prog 136 [sL nl l] (.p (.bool (kN l))):=by
 have h1:=FX nl l;have h2:=GY nl l
 rw[DW];generalize c6 l=T at *;obtain⟨e0,ok⟩:=T;refine Fn.run XO rfl ?_;generalize Tryz.prog=P at *
 (repeat'((conv=>whnf);first|exact trivial|(with_reducible first|refine zX ?_|refine zP ?_|refine zL ?_)|refine⟨rfl,?_⟩|refine⟨_,rfl,?_⟩|refine⟨fun _=>?_,fun _=>?_⟩|refine zn ?_|refine zb rfl ?_|refine zX ?_|refine zo rfl ?_|refine zs ?_|intro _));all_goals(try(conv=>whnf))
 ·rename_i e
  exact cX (by simp only at e;subst e;simp)
 ·rename_i e
  exact cX (by simp only[Bool.not_true] at e;subst e;simp)
open Go.RowKit Ma
open Go.RowKit
def KD:Fn:=⟨107,6,[.tmp 0],
 (.sr [mc 0 (.bool false)]
 (.seq
 (.gp (.reg [⟨some 12,none,.build [.int .i64 0,.int .i64 0,.int .i64 0,.int .i64 0,.sl 1 true []] [(0,1),(2,1),(3,1)],[cI 2,cI 1,cI 1]⟩,
 ⟨some 1,none,.alloc 0 5 [Z0,Z0,Z0,Z0,.ow 1 true []],[]⟩,
 ⟨none,none,.store 5,[.t 1,.t 12]⟩]) (.lay 0 5))
 (.sr [⟨some 13,none,.build [.int .i64 0,.int .i64 0,.int .i64 0] [(0,1),(1,1),(2,1)],[cI 6,cI 10,cI 10]⟩,
 ii 14 (.bsl 3 1) [.t 13],
 ⟨some 15,none,.build [.int .i64 0,.int .i64 0,.int .i64 0] [(0,1),(1,1),(2,1)],[cI 6,cI 10,cI 10]⟩,
 ii 16 (.bsl 3 1) [.t 15],
 ii 17 (.bsl 1 2) [.t 14,.t 16],
 mt 2 17]
 (.seq
 (.gp (.reg [⟨some 18,none,.build [.int .i64 0,.int .i64 0,.int .i64 0,.sl 3 true []] [(0,1),(1,1),(2,1)],[cI 5,cI 10,cI 10]⟩,
 ⟨some 3,none,.alloc 1 4 [Z0,Z0,Z0,.ow 3 true []],[]⟩,
 ⟨none,none,.store 4,[.t 3,.t 18]⟩]) (.lay 1 4))
 (.seq
 (.gp (.reg [mv 20 2,
 ii 21 (.load 4 true false) [.t 3],
 ii 22 (.call 52) [.t 20,.t 21,cI 0],
 mv 19 22,
 ii 23 (.ext 0) [.t 19],
 ii 24 (.ext 1) [.t 19],
 ⟨some 4,none,.alloc 2 2 [Z0,.ow 4 true []],[]⟩,
 ⟨none,none,.store 2,[.t 4,.t 23]⟩,
 mt 5 24]) (.lay 2 2))
 (.seq
 (.gp (.reg [ii 26 (.bsl 1 2) [.c (.ow 3 true []),.c (.ow 3 true [])],
 ii 27 (.load 4 true false) [.t 3],
 ii 28 (.call 52) [.t 26,.t 27,cI 1],
 mv 25 28,
 ii 29 (.ext 0) [.t 25],
 ii 30 (.ext 1) [.t 25],
 ⟨some 6,none,.alloc 3 2 [Z0,.ow 4 true []],[]⟩,
 ⟨none,none,.store 2,[.t 6,.t 29]⟩,
 mt 7 30]) (.lay 3 2))
 (.seq
 (.gp (.reg [ii 32 (.load 5 true false) [.t 1],
 mv 33 2,
 ii 34 (.load 4 true false) [.t 3],
 ii 35 (.call 50) [.t 32,.t 33,.t 34],
 mv 31 35,
 ii 36 (.ext 0) [.t 31],
 ii 37 (.ext 1) [.t 31],
 ⟨some 8,none,.alloc 4 2 [Z0,.ow 4 true []],[]⟩,
 ⟨none,none,.store 2,[.t 8,.t 36]⟩,
 mt 9 37]) (.lay 4 2))
 (.seq
 (.gp (.reg [ii 39 (.load 5 true false) [.t 1],
 mv 40 2,
 ⟨some 41,none,.build [.int .i64 0,.int .i64 0,.int .i64 0,.sl 3 true []] [(0,1),(1,1),(2,1)],[cI 5,cI 20,cI 20]⟩,
 ii 42 (.call 51) [.t 39,.t 40,.t 41],
 mv 38 42,
 ii 43 (.ext 0) [.t 38],
 ii 44 (.ext 1) [.t 38],
 ⟨some 10,none,.alloc 5 2 [Z0,.ow 4 true []],[]⟩,
 ⟨none,none,.store 2,[.t 10,.t 43]⟩,
 mt 11 44]) (.lay 5 2))
 (.sr [ii 45 (.call 184) [],
 mv 46 45,
 gt 47 46 (.mov false) [.t 5],
 gt 48 46 (.un .not) [.t 47],
 ii 49 .pick [.t 46,.t 48,.c (.p (.bool false))],
 mv 50 49,
 gt 51 50 (.mov false) [.t 7],
 ii 52 .pick [.t 50,.t 51,.c (.p (.bool false))],
 mv 53 52,
 gt 54 53 (.fad 0) [.t 6],
 gt 55 53 (.load 1 false false) [.t 54],
 gt 56 53 (.bin .eql) [.t 55,cI 1],
 ii 57 .pick [.t 53,.t 56,.c (.p (.bool false))],
 mv 58 57,
 gt 59 58 (.fad 1) [.t 6],
 gt 60 58 (.load 1 false false) [.t 59],
 gt 61 58 .len [.t 60],
 gt 62 58 (.bin .eql) [.t 61,cI 1],
 ii 63 .pick [.t 58,.t 62,.c (.p (.bool false))],
 mv 64 63,
 gt 65 64 (.mov false) [.t 9],
 gt 66 64 (.load 5 true false) [.t 1],
 gt 67 64 (.load 4 true false) [.t 3],
 gt 68 64 (.load 2 true false) [.t 8],
 gt 69 64 (.call 185) [.t 66,.t 67,.t 68],
 gt 70 64 (.eqb false) [.t 65,.t 69],
 ii 71 .pick [.t 64,.t 70,.c (.p (.bool false))],
 mv 72 71,
 gt 73 72 (.mov false) [.t 11],
 gt 74 72 (.load 5 true false) [.t 1],
 ⟨some 75,(some (72,true)),.build [.int .i64 0,.int .i64 0,.int .i64 0,.sl 3 true []] [(0,1),(1,1),(2,1)],[cI 5,cI 20,cI 20]⟩,
 gt 76 72 (.load 2 true false) [.t 10],
 gt 77 72 (.call 185) [.t 74,.t 75,.t 76],
 gt 78 72 (.eqb false) [.t 73,.t 77],
 ii 79 .pick [.t 72,.t 78,.c (.p (.bool false))],
 mv 80 79,
 gt 81 80 (.load 5 true false) [.t 1],
 gt 82 80 (.load 4 true false) [.t 3],
 gt 83 80 (.call 82) [.t 81,.t 82,cI 2],
 gt 84 80 (.bin .eql) [.t 83,cI 4],
 ii 85 .pick [.t 80,.t 84,.c (.p (.bool false))],
 mv 86 85,
 gt 87 86 (.load 2 true false) [.t 6],
 gt 88 86 (.call 186) [.t 87],
 gt 89 86 (.bin .eql) [.t 88,cI 5],
 ii 90 .pick [.t 86,.t 89,.c (.p (.bool false))],
 mv 91 90,
 gt 92 91 (.load 2 true false) [.t 6],
 gt 93 91 (.call 26) [.t 92,cI 0,cI 7],
 gt 94 91 (.bin .eql) [.t 93,cI 17],
 ii 95 .pick [.t 91,.t 94,.c (.p (.bool false))],
 mv 96 95,
 gt 97 96 (.load 2 true false) [.t 6],
 gt 98 96 (.load 2 true false) [.t 6],
 gt 99 96 (.call 187) [.t 97,.t 98],
 ii 100 .pick [.t 96,.t 99,.c (.p (.bool false))],
 mv 101 100,
 gt 102 101 (.mov false) [.t 2],
 ⟨some 103,(some (101,true)),.build [.int .i64 0,.int .i64 0,.int .i64 0] [(0,1),(1,1),(2,1)],[cI 1,cI 10,cI 10]⟩,
 gt 104 101 (.call 86) [.t 102,.t 103],
 gt 105 101 (.bin .eql) [.t 104,cI 0],
 ii 106 .pick [.t 101,.t 105,.c (.p (.bool false))],
 mt 0 106]
 .ret)))))))))⟩
theorem R0:aI Tryz.prog 155 KD=true:=by kernel_rfl
def W5:Fn:=⟨31,2,[.cell 6 2,.tmp 7],
 (.sr [ii 4 (.box 0 4) [.t 1],
 ⟨some 6,none,.alloc 1 2 [Z0,.ow 4 true []],[]⟩,
 mc 7 (.bool false)]
 (.sr [mv 9 0,
 fa 10 0 4,
 ld 11 10,
 mv 12 2,
 b2 13 .add 11 12,
 fa 14 1 4,
 ld 15 14,
 fa 16 2 4,
 ld 17 16,
 ⟨some 18,none,.build [.int .i64 0,.int .i64 0,.int .i64 0] [(0,1),(1,1),(2,1)],[.t 13,.t 15,.t 17]⟩,
 ii 19 (.call 86) [.t 9,.t 18],
 mt 8 19]
 (.seq
 (.sr [mv 20 8,
 b1 21 .lss 20 (.int .i64 0)]
 (.cond (.t 21)
 (.seq
 (.gp (.reg [⟨some 22,none,.build [.int .i64 0,.sl 4 true []] [],[]⟩,
 ⟨none,none,.store 2,[.t 6,.t 22]⟩,
 mc 7 (.bool false)]) (.lay 1 2))
 .ret)
 .skip))
 (.seq
 (.gp (.reg [mv 23 8,
 fa 24 1 4,
 ld 25 24,
 fa 26 0 4,
 ld 27 26,
 ⟨some 28,none,.build [.int .i64 0,.int .i64 0,.int .i64 0,.int .i64 0] [(0,1),(2,1),(3,1)],[.t 23,.t 25,.t 27]⟩,
 ii 29 (.bsl 4 1) [.t 28],
 ⟨some 30,none,.build [.int .i64 0,.sl 4 true []] [(0,1),(1,1)],[cI 1,.t 29]⟩,
 ⟨none,none,.store 2,[.t 6,.t 30]⟩,
 mc 7 (.bool true)]) (.lay 1 2))
 .ret))))⟩
theorem k52:aI Tryz.prog 52 W5=true:=by kernel_rfl
def XN:Fn:=⟨8,1,[.tmp 4],
 (.sr [ii 3 (.box 0 3) [.t 1],
 mc 4 (.int .i64 0)]
 (.seq
 (.pre [] [0] [] (.reg [mv 5 0,
 ii 6 (.mkfn 139) [.t 3],
 ii 7 (.call 138) [.t 5,.t 6],
 mt 4 7]))
 .ret))⟩
theorem YS:aI Tryz.prog 86 XN=true:=by kernel_rfl
end Go.Proofs.YtnjphclbpgajpaaGreatDoor.Vc
namespace Go.Proofs.YtnjphclbpgajpaaGreatDoor.Ma
def iI{α:Type}(lt : α -> α->Bool)(e : α):List α->List α
 |[]=>[e]
 |b ::bs=>if lt e b then b ::iI lt e bs else e ::b ::bs
def GF{α:Type}(lt : α -> α->Bool)(l:List α):List α:=l.foldl (fun acc e=>iI lt e acc) []
def iO{α:Type}(lt : α -> α->Bool)(l:List α):List α:=(GF lt l).reverse
theorem j4{α:Type}(lt : α -> α->Bool)(e : α)(l:List α):(iI lt e l).Perm (e ::l):=by
 induction l with
 |nil=>exact .refl _
 |cons b bs ih=>
  simp only[iI]
  split
  ·exact(ih.cons b).trans (.swap e b bs)
  ·exact .refl _
theorem zD{α:Type}(lt : α -> α->Bool)(l:List α):(GF lt l).Perm l:=by
 suffices ∀(l acc:List α),(l.foldl (fun acc e=>iI lt e acc) acc).Perm (acc++l) by simpa [GF] using this l []
 intro l
 induction l with
 |nil=>intro acc;simp
 |cons e es ih=>
  intro acc;simp only[List.foldl_cons];refine(ih _).trans ?_;refine((j4 lt e acc).append_right es).trans ?_;exact List.perm_middle.symm
theorem fO{α:Type}(lt : α -> α->Bool)(l:List α):(iO lt l).Perm l:=(List.reverse_perm _).trans (zD lt l)
theorem vD{α:Type}(lt : α -> α->Bool)(l:List α):(iO lt l).length=l.length:=(fO lt l).length_eq
theorem rP{α:Type}{lt : α -> α->Bool}{r : α -> α->Prop}(e : α)(htr:∀a b c,r a b->r b c->r a c) :
  ∀(l:List α),(∀b,b∈l->(lt e b=true->r e b)/\(lt e b=false->r b e))->l.Pairwise (fun a b=>r b a)->(iI lt e l).Pairwise fun a b=>r b a:=by
 intro l
 induction l with
 |nil=>intro _ _;simp[iI]
 |cons b bs ih=>
  intro he hp;rw[List.pairwise_cons] at hp;simp only[iI]
  split
  ·rename_i h
   rw[List.pairwise_cons];refine⟨fun x hx=>?_,ih (fun y hy=>he y (List.mem_cons_of_mem _ hy)) hp.2⟩
   rcases List.mem_cons.1 ((j4 lt e bs).mem_iff.1 hx) with rfl|hx
   ·exact(he b (List.mem_cons_self ..)).1 h
   ·exact hp.1 x hx
  ·rename_i h
   have hb:=(he b (List.mem_cons_self ..)).2 (by simpa using h)
   rw[List.pairwise_cons];refine⟨fun x hx=>?_,List.pairwise_cons.2 hp⟩
   rcases List.mem_cons.1 hx with rfl|hx
   ·exact hb
   ·exact htr _ _ _ (hp.1 x hx) hb
theorem lJ{α:Type}{lt : α -> α->Bool}{r : α -> α->Prop}(htr:∀a b c,r a b->r b c->r a c)(l:List α)
  (h:l.Pairwise fun a b=>(lt b a=true->r b a)/\(lt b a=false->r a b)):(iO lt l).Pairwise r:=by
 unfold iO;rw[List.pairwise_reverse]
 suffices ∀(l acc:List α),acc.Pairwise (fun a b=>r b a)->(∀a,a∈acc->∀b,b∈l->(lt b a=true->r b a)/\(lt b a=false->r a b)) ->
   l.Pairwise (fun a b=>(lt b a=true->r b a)/\(lt b a=false->r a b))->(l.foldl (fun acc e=>iI lt e acc) acc).Pairwise fun a b=>r b a from this l [] List.Pairwise.nil (fun a h=>by cases h) h
 intro l
 induction l with
 |nil=>intro acc h _ _;exact h
 |cons e es ih=>
  intro acc hacc h1 h2;rw[List.pairwise_cons] at h2;simp only[List.foldl_cons];refine ih _ (rP e htr acc (fun b hb=>h1 b hb e (List.mem_cons_self ..)) hacc) (fun a ha b hb=>?_) h2.2
  rcases List.mem_cons.1 ((j4 lt e acc).mem_iff.1 ha) with rfl|ha
  ·exact h2.1 b hb
  ·exact h1 a ha b (List.mem_cons_of_mem _ hb)
structure Place where
 core:Int
 x:Int
deriving DecidableEq
def Place.ahead(a b:Place):Prop:=b.x<a.x\/(a.x=b.x/\a.core<b.core)
theorem xJ(a b c:Place)(h1:a.ahead b)(h2:b.ahead c):a.ahead c:=by unfold Place.ahead at *;omega
theorem sK(a:Place):¬a.ahead a:=by unfold Place.ahead;omega
theorem zM(a b:Place)(h:a.ahead b):¬b.ahead a:=by unfold Place.ahead at *;omega
def JP(a b:Place):Bool:=decide (b.x<a.x)
def TA(a b:Place):Bool:=decide (a.core<b.core)
theorem QD(l:List Place)(h:l.Pairwise fun a b=>a.core<b.core):(iO JP l).Pairwise Place.ahead:=by
 refine lJ xJ l (h.imp fun {a b} hab=>⟨fun h=>?_,fun h=>?_⟩)
 ·simp only[JP,decide_eq_true_eq] at h;exact .inl h
 ·simp only[JP,decide_eq_false_iff_not] at h;unfold Place.ahead;omega
theorem QA(l:List Place)(h:l.Pairwise fun a b=>a.core≠b.core):(iO TA l).Pairwise fun a b=>a.core<b.core:=by
 refine lJ (fun a b c h1 h2=>by omega) l (h.imp fun {a b} hab=>⟨fun h=>?_,fun h=>?_⟩)
 ·simpa [TA] using h
 ·simp only[TA,decide_eq_false_iff_not] at h;omega
def w3(l:List Place)(n:Nat):List Place:=if l.length<n then [] else iO TA ((iO JP l).take n)
theorem Q7{l:List Place}(h:l.Pairwise fun a b=>a.core<b.core):l.Pairwise fun a b=>a.core≠b.core:=h.imp fun hab=>by omega
theorem HY{l:List Place}(h:l.Pairwise fun a b=>a.core<b.core)(n:Nat):((iO JP l).take n).Pairwise fun a b=>a.core≠b.core:=by
 have h1:(iO JP l).Pairwise fun a b=>a.core≠b.core:=((fO JP l).pairwise_iff (fun {a b} h=>Ne.symm h)).2 (Q7 h)
 exact h1.sublist (List.take_sublist _ _)
theorem uY{l:List Place}{n:Nat}(h:l.Pairwise fun a b=>a.core<b.core):(w3 l n).Pairwise fun a b=>a.core<b.core:=by
 unfold w3
 split
 ·exact List.Pairwise.nil
 ·exact QA _ (HY h n)
def cV(move:Int):Int->List Int->List Place
 |_,[]=>[]
 |k,x ::xs=>if move<x then ⟨k,x⟩ ::cV move (k+1) xs else cV move (k+1) xs
def places(move:Int)(xs:List Int):List Place:=cV move 0 xs
theorem jE{move:Int}{xs:List Int}:∀{k:Int} {p:Place},p∈cV move k xs↔k<=p.core/\xs[(p.core-k).toNat]?=some p.x/\move<p.x:=by
 induction xs with
 |nil=>intro k p;simp[cV]
 |cons x xs ih=>
  intro k p
  have key:(k+1<=p.core/\xs[(p.core-(k+1)).toNat]?=some p.x/\move<p.x)↔(k<=p.core/\p.core≠k/\(x ::xs)[(p.core-k).toNat]?=some p.x/\move<p.x):=by
   by_cases hk:k+1<=p.core
   ·have e:(p.core-k).toNat=(p.core-(k+1)).toNat+1:=by omega
    rw[e,List.getElem?_cons_succ]
    constructor
    ·exact fun ⟨_,h2,h3⟩=>⟨by omega,by omega,h2,h3⟩
    ·exact fun ⟨_,_,h2,h3⟩=>⟨hk,h2,h3⟩
   ·constructor
    ·exact fun h=>absurd h.1 hk
    ·exact fun h=>absurd h.2.1 (by omega)
  have hd:p.core=k->((x ::xs)[(p.core-k).toNat]?=some p.x↔p=⟨k,x⟩):=by
   intro e;have e0:(p.core-k).toNat=0:=by omega
   rw[e0,List.getElem?_cons_zero];cases p
   simp only[bG,Place.mk.injEq] at *
   constructor
   ·exact fun h=>⟨e,h.symm⟩
   ·exact fun h=>h.2.symm
  simp only[cV]
  split
  ·rename_i hx
   rw[List.mem_cons,ih,key]
   constructor
   ·rintro(rfl|h)
    ·exact⟨Int.le_refl _,by simp,hx⟩
    ·exact⟨h.1,h.2.2.1,h.2.2.2⟩
   ·rintro⟨h1,h2,h3⟩
    by_cases e:p.core=k
    ·exact .inl ((hd e).1 h2)
    ·exact .inr ⟨h1,e,h2,h3⟩
  ·rename_i hx
   rw[ih,key]
   constructor
   ·exact fun h=>⟨h.1,h.2.2.1,h.2.2.2⟩
   ·rintro⟨h1,h2,h3⟩
    refine⟨h1,fun e=>?_,h2,h3⟩
    have:=(hd e).1 h2;subst this;exact hx h3
theorem mT{move:Int}{xs:List Int}:∀{k:Int},(cV move k xs).Pairwise fun a b=>a.core<b.core:=by
 induction xs with
 |nil=>exact List.Pairwise.nil
 |cons x xs ih=>
  intro k;simp only[cV]
  split
  ·refine List.pairwise_cons.2 ⟨fun p hp=>?_,ih⟩
   have:=(jE.1 hp).1;simp only;omega
  ·exact ih
theorem zB{move:Int}{xs:List Int}{p:Place}:p∈places move xs↔0<=p.core/\xs[p.core.toNat]?=some p.x/\move<p.x:=by
 unfold places;rw[jE];simp
theorem kJ{move:Int}{xs:List Int}:(places move xs).Pairwise fun a b=>a.core<b.core:=mT
theorem DJ:∀(l m:List Int),l.Pairwise (· < ·)->m.Pairwise (· < ·)->(∀x,x∈l↔x∈m)->l=m:=by
 intro l
 induction l with
 |nil=>
  intro m _ _ h
  cases m with
  |nil=>rfl
  |cons b m=>exact absurd ((h b).2 (List.mem_cons_self ..)) (by simp)
 |cons a l ih=>
  intro m hl hm h
  cases m with
  |nil=>exact absurd ((h a).1 (List.mem_cons_self ..)) (by simp)
  |cons b m=>
   rw[List.pairwise_cons] at hl hm
   have hab:a=b:=by
    rcases List.mem_cons.1 ((h a).1 (List.mem_cons_self ..)) with e|ha
    ·exact e
    ·rcases List.mem_cons.1 ((h b).2 (List.mem_cons_self ..)) with e|hb
     ·exact e.symm
     ·have:=hl.1 b hb;have:=hm.1 a ha;omega
   subst hab;rw[ih m hl.2 hm.2 fun x=>?_]
   constructor
   ·intro hx
    rcases List.mem_cons.1 ((h x).1 (List.mem_cons_of_mem _ hx)) with e|h'
    ·have:=hl.1 x hx;omega
    ·exact h'
   ·intro hx
    rcases List.mem_cons.1 ((h x).2 (List.mem_cons_of_mem _ hx)) with e|h'
    ·have:=hm.1 x hx;omega
    ·exact h'
section greedy
variable {l:List Place}
theorem xG{L:List Place}(h:L.Pairwise Place.ahead){i:Nat}{p:Place}(hp:p∈L)(hn:p∉L.take i)(ha:∀q,q∈L->q∉L.take i->q≠p->p.ahead q):L[i]?=some p:=by
 obtain⟨j,hj,e⟩:=List.mem_iff_getElem.1 hp
 have hij:i<=j:=by
  refine Nat.le_of_not_lt fun hlt=>hn ?_
  rw[<-e];exact List.mem_iff_getElem.2 ⟨j,by simp;omega,by simp⟩
 have hi:i<L.length:=by omega
 by_cases hji:j=i
 ·subst hji;rw[List.getElem?_eq_getElem hj,e]
 ·have h1:=List.pairwise_iff_getElem.1 h i j hi hj (by omega)
  rw[e] at h1
  have h2:L[i]∉L.take i:=by
   intro hm;obtain⟨k,hk,ek⟩:=List.mem_iff_getElem.1 hm;rw[List.getElem_take] at ek;have:=List.pairwise_iff_getElem.1 h k i (by simp at hk;omega) hi (by simp at hk;omega)
   rw[ek] at this;exact sK _ this
  have h3:=ha L[i] (List.getElem_mem _) h2 (fun e'=>by rw[e'] at h1;exact sK _ h1)
  exact absurd h1 (zM _ _ h3)
end greedy
structure Pc where
 core:Int
 off:Int
 len:Int
 c:Int
deriving DecidableEq
def Pc.ok(cores:Int)(p:Pc):Bool:=decide (0<=p.core)&&decide (p.core<cores)&&(decide (0<=p.off)&&decide (p.off<=200))&&(decide (1<=p.c)&&decide (p.c<=p.len)&&decide (p.off+p.len<=200))
theorem Pc.ok_iff{cores:Int}{p:Pc}:p.ok cores=true↔(0<=p.core/\p.core<cores)/\(0<=p.off/\p.off<=200)/\1<=p.c/\p.c<=p.len/\p.off+p.len<=200:=by
 simp[Pc.ok,and_assoc]
open Classical in
variable {cores lag move C D T:Int}
structure Inner (xs:List Int) (move:Int) (taken:List Bool) (j:Nat) (k:Int):Prop where
 none:k<0->k = -1/\∀m x,m<j->taken[m]?=some false->xs[m]?=some x->x<=move
 some:¬k<0->∃y,k<j/\taken[k.toNat]?=some false/\xs[k.toNat]?=some y/\move<y/\∀m x,m<j->(m:Int)≠k->taken[m]?=some false->xs[m]?=some x->move<x->x<y\/(x=y/\k<m)
theorem Inner.start(xs:List Int)(move:Int)(taken:List Bool):Inner xs move taken 0 (-1) :=
 ⟨fun _=>⟨rfl,fun m x h=>absurd h (Nat.not_lt_zero m)⟩,fun h=>absurd (by omega) h⟩
theorem Inner.skip{xs:List Int}{move:Int}{taken:List Bool}{j:Nat}{k:Int}(h:Inner xs move taken j k){b:Bool}{x:Int}(hb:taken[j]?=Option.some b)(hx:xs[j]?=Option.some x)
  (hn:b=true\/x<=move\/(¬k<0/\∀y,xs[k.toNat]?=Option.some y->x<=y)):Inner xs move taken (j+1) k:=by
 refine⟨fun hk=>⟨(h.none hk).1,fun m z hm hz hxm=>?_⟩,fun hk=>?_⟩
 ·by_cases e:m=j
  ·subst e
   rw[hb] at hz;rw[hx] at hxm;injection hz with hz;injection hxm with hxm
   subst hz;subst hxm;rcases hn with h1|h1|h1
   ·cases h1
   ·exact h1
   ·exact absurd hk h1.1
  ·exact(h.none hk).2 m z (by omega) hz hxm
 ·obtain⟨y,h1,h2,h3,h4,h5⟩:=h.some hk
  refine⟨y,by omega,h2,h3,h4,fun m z hm hmk hz hxm hmv=>?_⟩
  by_cases e:m=j
  ·subst e
   rw[hb] at hz;rw[hx] at hxm;injection hz with hz;injection hxm with hxm
   subst hz;subst hxm;rcases hn with h'|h'|h'
   ·cases h'
   ·omega
   ·have:=h'.2 y h3;omega
  ·exact h5 m z (by omega) hmk hz hxm hmv
theorem Inner.take{xs:List Int}{move:Int}{taken:List Bool}{j:Nat}{k:Int}(h:Inner xs move taken j k){x:Int}(hb:taken[j]?=Option.some false)(hx:xs[j]?=Option.some x)(hm:move<x)
  (hn:k<0\/∃y,xs[k.toNat]?=Option.some y/\y<x):Inner xs move taken (j+1) j:=by
 refine⟨fun hk=>absurd hk (by omega),fun _=>⟨x,by omega,by simpa using hb,by simpa using hx,hm,fun m z hmj hmk hz hxm hmv=>?_⟩⟩
 have hmj':m<j:=by omega
 rcases hn with hk|⟨y,hy,hlt⟩
 ·have:=(h.none hk).2 m z hmj' hz hxm;omega
 ·by_cases hk:k<0
  ·have:=(h.none hk).2 m z hmj' hz hxm;omega
  ·obtain⟨y',h1,h2,h3,h4,h5⟩:=h.some hk
   rw[hy] at h3;injection h3 with h3
   subst h3
   by_cases e:(m:Int)=k
   ·have e':k.toNat=m:=by omega
    rw[e',hxm] at hy;injection hy with hy
    omega
   ·have:=h5 m z hmj' e hz hxm hmv;omega
def dB(move:Int)(xs:List Int):List Place:=iO JP (places move xs)
theorem qT{move:Int}{xs:List Int}:(dB move xs).Pairwise Place.ahead:=QD _ kJ
theorem eH{move:Int}{xs:List Int}{p:Place}:p∈dB move xs↔0<=p.core/\xs[p.core.toNat]?=some p.x/\move<p.x:=by
 unfold dB;rw[(fO _ _).mem_iff,zB]
theorem pT{move:Int}{xs:List Int}:(dB move xs).length=(places move xs).length:=vD _ _
structure Outer (xs:List Int) (move:Int) (i:Nat) (taken:List Bool):Prop where
 len:taken.length=xs.length
 le:i<=(places move xs).length
 iff:∀m:Nat,taken[m]?=some true↔∃p,p∈(dB move xs).take i/\p.core=m
theorem Outer.start(xs:List Int)(move:Int):Outer xs move 0 (List.replicate xs.length false):=by
 refine⟨by simp,Nat.zero_le _,fun m=>?_⟩
 simp[List.getElem?_replicate]
theorem Outer.false{xs:List Int}{move:Int}{i:Nat}{taken:List Bool}(h:Outer xs move i taken){p:Place}(hp:p∈dB move xs)(hn:p∉(dB move xs).take i):taken[p.core.toNat]?=some false:=by
 have hm:=eH.1 hp;have hlt:=(bH.1 hm.2.1).1;rw[<-h.len] at hlt;rw[List.getElem?_eq_getElem hlt]
 cases hb:taken[p.core.toNat] with
 |false=>rfl
 |true=>
  obtain⟨q,hq,e⟩:=(h.iff p.core.toNat).1 (by rw[List.getElem?_eq_getElem hlt,hb])
  have hq':=eH.1 (List.mem_of_mem_take hq);have e1:q.core=p.core:=by omega
  have e2:q.x=p.x:=by have:=hq'.2.1;rw[e1,hm.2.1] at this;injection this with h;exact h.symm
  have:q=p:=by cases q;cases p;simp only[Place.mk.injEq] at *;exact⟨e1,e2⟩
  subst this;exact absurd hq hn
theorem Outer.next{xs:List Int}{move:Int}{i:Nat}{taken:List Bool}(h:Outer xs move i taken){k:Int}(hi:Inner xs move taken xs.length k)(hk:¬k<0):Outer xs move (i+1) (taken.set k.toNat true):=by
 obtain⟨y,h1,h2,h3,h4,h5⟩:=hi.some hk;have hp:(⟨k,y⟩:Place)∈dB move xs:=eH.2 ⟨by simp only;omega,h3,h4⟩
 have hn:(⟨k,y⟩:Place)∉(dB move xs).take i:=fun hm=>by
  have:=(h.iff k.toNat).2 ⟨_,hm,by simp only;omega⟩
  rw[h2] at this;cases this
 have hL:=xG qT hp hn fun q hq hnq hne=>by
  have hm:=eH.1 hq
  have hqk:q.core≠k:=fun e=>hne (by
   have:=hm.2.1;rw[e,h3] at this;injection this with this
   cases q
   simp only[Place.mk.injEq] at *;exact⟨e,this.symm⟩)
  have:=h5 q.core.toNat q.x (bH.1 hm.2.1).1 (by omega) (h.false hq hnq) hm.2.1 hm.2.2
  unfold Place.ahead;simp only;omega
 have hlt:=(bH.1 hL).1;rw[pT] at hlt;refine⟨by rw[List.length_set];exact h.len,hlt,fun m=>?_⟩
 have htk:(dB move xs).take (i+1)=(dB move xs).take i++[⟨k,y⟩]:=by rw[List.take_add_one,hL];rfl
 rw[htk,List.getElem?_set];have hkl:k.toNat<taken.length:=(bH.1 h2).1
 split
 ·rename_i e
  subst e;exact⟨fun _=>⟨⟨k,y⟩,by simp,by simp only;omega⟩,fun _=>rfl⟩
 ·rename_i e
  rw[h.iff m]
  constructor
  ·rintro⟨p,hp,e'⟩;exact⟨p,by simp[hp],e'⟩
  ·rintro⟨p,hp,e'⟩
   rcases List.mem_append.1 hp with hp|hp
   ·exact⟨p,hp,e'⟩
   ·simp only[List.mem_singleton] at hp;subst hp;simp only at e';omega
def gA(taken:List Bool):Nat->List Int
 |0=>[]
 |j+1=>if taken[j]?=some true then gA taken j++[(j:Int)] else gA taken j
theorem oC{taken:List Bool}{j:Nat}{x:Int}:x∈gA taken j↔0<=x/\x<j/\taken[x.toNat]?=some true:=by
 induction j with
 |zero=>simp[gA];omega
 |succ j ih=>
  have key:∀{A:Prop},(x=(j:Int)->A)->(x≠(j:Int)->A)->A:=fun h1 h2=>(Classical.em (x=(j:Int))).elim h1 h2
  simp only[gA]
  split
  ·rename_i h
   rw[List.mem_append,ih,List.mem_singleton]
   constructor
   ·rintro(⟨h1,h2,h3⟩|rfl)
    ·exact⟨h1,by omega,h3⟩
    ·exact⟨by omega,by omega,by simpa using h⟩
   ·rintro⟨h1,h2,h3⟩
    exact key (fun e=>.inr e) fun e=>.inl ⟨h1,by omega,h3⟩
  ·rename_i h
   rw[ih]
   constructor
   ·rintro⟨h1,h2,h3⟩;exact⟨h1,by omega,h3⟩
   ·rintro⟨h1,h2,h3⟩
    refine key (fun e=>?_) fun e=>⟨h1,by omega,h3⟩
    subst e;exact absurd (by simpa using h3) h
theorem pF{taken:List Bool}{j:Nat}:(gA taken j).Pairwise (· < ·):=by
 induction j with
 |zero=>exact List.Pairwise.nil
 |succ j ih=>
  simp only[gA]
  split
  ·rw[List.pairwise_append]
   refine⟨ih,by simp,fun a ha b hb=>?_⟩
   have:=(oC.1 ha).2.1;simp only[List.mem_singleton] at hb;omega
  ·exact ih
theorem Outer.end{xs:List Int}{move:Int}{n:Nat}{taken:List Bool}(h:Outer xs move n taken):gA taken xs.length=(w3 (places move xs) n).map (·.core):=by
 refine DJ _ _ pF (List.pairwise_map.2 (uY kJ)) fun x=>?_
 rw[oC,List.mem_map];have hb:w3 (places move xs) n=iO TA ((dB move xs).take n):=by unfold w3;rw[if_neg (by have:=h.le;omega)];rfl
 rw[hb]
 constructor
 ·rintro⟨h1,h2,h3⟩
  obtain⟨p,hp,e⟩:=(h.iff x.toNat).1 h3;exact⟨p,(fO _ _).mem_iff.2 hp,by omega⟩
 ·rintro⟨p,hp,rfl⟩
  have hp:=(fO _ _).mem_iff.1 hp;have hm:=eH.1 (List.mem_of_mem_take hp);have hlt:=(bH.1 hm.2.1).1;exact⟨hm.1,by omega,(h.iff _).2 ⟨p,hp,by omega⟩⟩
end Go.Proofs.YtnjphclbpgajpaaGreatDoor.Ma
