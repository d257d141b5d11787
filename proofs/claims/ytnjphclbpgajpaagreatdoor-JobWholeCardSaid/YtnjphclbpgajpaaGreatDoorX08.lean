/- Part of a proof over a Go program: VcEv, Fn2, Fn3, MaLoad, MaFit, MaMost, Ca. No condition. -/
import Derived.Test.YtnjphclbpgajpaaGreatDoorX07
import Derived.Test.YtnjphclbpgajpaaGreatDoorProg
set_option linter.unnecessarySimpa false
set_option linter.unusedSectionVars false
set_option linter.unusedSimpArgs false
set_option linter.unusedVariables false
set_option maxRecDepth 100000
namespace Go.Proofs.YtnjphclbpgajpaaGreatDoor.Vc
open Go.RowKit
variable {P:Program}
abbrev mv(d x:Nat):Ins:=⟨some d,none,.mov false,[.t x]⟩
abbrev mt(d x:Nat):Ins:=⟨some d,none,.mov true,[.t x]⟩
abbrev mc(d:Nat)(x:PV):Ins:=⟨some d,none,.mov true,[.c (.p x)]⟩
abbrev fa(d o x:Nat):Ins:=⟨some d,none,.fad o,[.t x]⟩
abbrev ld(d x:Nat):Ins:=⟨some d,none,.load 1 false false,[.t x]⟩
abbrev b2(d:Nat)(op:BinOp)(x y:Nat):Ins:=⟨some d,none,.bin op,[.t x,.t y]⟩
abbrev b1(d:Nat)(op:BinOp)(x:Nat)(y:PV):Ins:=⟨some d,none,.bin op,[.t x,.c (.p y)]⟩
abbrev ii(d:Nat)(κ:Kd)(xs:List O):Ins:=⟨some d,none, κ,xs⟩
abbrev gt(d j:Nat)(κ:Kd)(xs:List O):Ins:=⟨some d,some (j,true), κ,xs⟩
abbrev gf(d j:Nat)(κ:Kd)(xs:List O):Ins:=⟨some d,some (j,false), κ,xs⟩
def l5{α:Type}(l:List α):Nat -> α->(List α->Prop)->Prop :=
 List.rec (motive:=fun _=>Nat -> α->(List α->Prop)->Prop) (fun _ _ K=>K []) (fun x xs ih n v K=>Nat.rec (motive:=fun _=>Prop) (K (v ::xs)) (fun n _=>ih n v fun ys=>K (x ::ys)) n) l
theorem gH{α:Type}(l:List α)(n:Nat)(v : α)(K:List α->Prop):l5 l n v K=K (aF l n v):=by
 induction l generalizing n K with
 |nil=>rfl
 |cons x xs ih=>cases n with
  |zero=>rfl
  |succ n=>exact ih n fun ys=>K (x ::ys)
def G8{α:Type}(l:List α):(List α->Prop)->Prop :=
 List.rec (motive:=fun _=>(List α->Prop)->Prop) (fun K=>K []) (fun x _ ih K=>ih fun ys=>K (x ::ys)) l
theorem pH{α:Type}(l:List α)(K:List α->Prop):G8 l K=K l:=by
 induction l generalizing K with
 |nil=>rfl
 |cons x xs ih=>exact ih fun ys=>K (x ::ys)
def HW(t:List DV)(d:Option Nat)(v:DV)(K:List DV->Prop):Prop :=
 match d with
 |some i=>WW v fun v=>l5 t i v K
 |none=>K t
theorem EQ(t:List DV)(d:Option Nat)(v:DV)(K:List DV->Prop):HW t d v K=K (aH t d v):=by
 cases d with
 |none=>rfl
 |some i=>simp only[HW,aH,uR,gH]
def TC(t:List DV)(n:Nat)(K:List DV->Prop):Prop:=WW (aT t n).copy fun v=>l5 t n v K
def S1:Kd->List O->List DV->(List DV->Prop)->Prop
 | .mov true,[.t n],t,K=>TC t n K
 | .app _ _,.t n ::_,t,K=>TC t n K
 | .store _,[_,.t n],t,K=>TC t n K
 | .ext j,[.t n],t,K=>G8 (fE (.ext j) [.t n] t) K
 |_,_,t,K=>K t
theorem KY(κ:Kd)(xs:List O)(t:List DV)(K:List DV->Prop):S1 κ xs t K=K (fE κ xs t):=by
 unfold S1
 split
 ·simp only[TC,uR,gH,fE]
 ·simp only[TC,uR,gH,fE]
 ·simp only[TC,uR,gH,fE]
 ·rw[pH]
 ·rename_i h1 h2 h3 h4
  unfold fE
  split
  ·exact(h1 _ rfl rfl).elim
  ·exact(h2 _ _ _ _ rfl rfl).elim
  ·exact(h3 _ _ _ rfl rfl).elim
  ·exact(h4 _ _ rfl rfl).elim
  ·rfl
def A7(i:Ins)(s:St):Bool :=
 match fF i.k with
 |some k=>decide (k<s.b.length)&&(c8 k (aH s.t i.d .top)&&cK k 0 s.b)
 |none=>bif oK i.k then wK s.b.length (aH s.t i.d .top)&&C4 s.b.length s.b else true
theorem wR(i:Ins)(s:St):(A7 i s=true)=fresh i s:=by
 unfold A7 fresh
 split
 ·rename_i k hk;rw[hk];simp[and_assoc]
 ·rename_i hk;rw[hk];cases oK i.k<;>simp
def YI(P:Program)(i:Ins)(s:St)(K:St->Prop):Prop :=
 testB (A7 i s) (cJ P i.k (i.xs.map (O.val s.t)) s.b fun v b'=>S1 i.k.core i.xs s.t fun t=>HW t i.d v fun t=>G8 b' fun b'=>K ⟨t,b'⟩)
def YS(P:Program)(i:Ins)(s:St)(K:St->Prop):Prop :=
 match i.g with
 |none=>YI P i s K
 |some (j,want)=>match aT s.t j with
  | .p (.bool c)=>(c=want->l5 s.t j (.p (.bool want)) fun t=>YI P i ⟨t,s.b⟩ K)/\(c=(!want)->l5 s.t j (.p (.bool (!want))) fun t=>HW t i.d (.tup []) fun t=>K ⟨t,s.b⟩)
  | .tup []=>HW s.t i.d (.tup []) fun t=>K ⟨t,s.b⟩
  |_=>False
def KN(P:Program)(l:List Ins):St->(St->Prop)->Prop :=
 List.rec (motive:=fun _=>St->(St->Prop)->Prop) (fun s K=>K s) (fun i _ ih s K=>YS P i s fun s'=>ih s' K) l
theorem JM(P:Program)(i:Ins)(is:List Ins)(s:St)(K:St->Prop):KN P (i ::is) s K=YS P i s fun s'=>KN P is s' K:=rfl
theorem S9(i:Ins)(s:St)(K:St->Prop):YI P i s K=mX P i s K:=by
 unfold YI mX;rw[fK,wR];simp only[KY,EQ,pH]
theorem SL(i:Ins)(s:St)(K:St->Prop):YS P i s K=b7 P i s K:=by
 unfold YS b7;simp only[gH,EQ,S9]
 cases i.g with
 |none=>rfl
 |some g=>
  obtain⟨j,want⟩:=g;simp only
  cases aT s.t j with
  |p x=>cases x<;>rfl
  |tup ds=>cases ds<;>rfl
  |_=>rfl
theorem yU(is:List Ins)(s:St)(K:St->Prop):KN P is s K=bV P is s K:=by
 induction is generalizing s K with
 |nil=>rfl
 |cons i is ih=>rw[JM];simp only[bV,SL,ih]
def eN(t:List DV)(ns:List Nat)(K:List DV->Prop):Prop :=
 List.rec (motive:=fun _=>List DV->(List DV->Prop)->Prop) (fun t K=>K t) (fun n _ ih t K=>l5 t n .top fun t=>ih t K) ns t K
theorem xT(t:List DV)(n:Nat)(ns:List Nat)(K:List DV->Prop):eN t (n ::ns) K=l5 t n .top fun t=>eN t ns K:=rfl
theorem jT(t:List DV)(ns:List Nat)(K:List DV->Prop):eN t ns K=K (forget t ns):=by
 induction ns generalizing t with
 |nil=>rfl
 |cons n ns ih=>rw[xT];simp only[forget,gH,ih]
def lJ(t:List (Option Box))(ns:List Nat)(K:List (Option Box)->Prop):Prop :=
 List.rec (motive:=fun _=>List (Option Box)->(List (Option Box)->Prop)->Prop) (fun t K=>K t) (fun n _ ih t K=>l5 t n none fun t=>ih t K) ns t K
theorem DW(t:List (Option Box))(n:Nat)(ns:List Nat)(K:List (Option Box)->Prop):lJ t (n ::ns) K=l5 t n none fun t=>lJ t ns K:=rfl
theorem o9(t:List (Option Box))(ns:List Nat)(K:List (Option Box)->Prop):lJ t ns K=K (dropB t ns):=by
 induction ns generalizing t with
 |nil=>rfl
 |cons n ns ih=>rw[DW];simp only[dropB,gH,ih]
abbrev EvT:=St->(St->Prop)->(Nat->St->Prop)->(St->Prop)->Prop
noncomputable def ev (P:Program) (c:C):EvT :=
 C.rec (motive:=fun _=>EvT)
  (fun _ _ _ _=>False)
  (fun s n _ _=>n s)
  (fun ops s n _ _=>KN P ops s n)
  (fun ops s n _ _=>KN P ops s n)
  (fun ops s n _ _=>testB (NC ops s) (KN P ops s n))
  (fun _ _ iha ihb s n x r=>iha s (fun s'=>ihb s' n x r) x r)
  (fun c _ _ iha ihb s n x r => match c, c.val s.t with
   | .t j,.p (.bool t)=>(t=true->l5 s.t j (.p (.bool true)) fun t=>iha ⟨t,s.b⟩ n x r)/\(t=false->l5 s.t j (.p (.bool false)) fun t=>ihb ⟨t,s.b⟩ n x r)
   | .c _,.p (.bool t)=>(t=true->iha s n x r)/\(t=false->ihb s n x r)
   |_,_=>False)
  (fun id _ ih s n x r=>ih s n (fun j s'=>if j=id then n s' else x j s') r)
  (fun fs ds _ ih s _ x r=>∃k,eN s.t fs fun t=>lJ s.b ds fun b=>CW (fun s' N=>ih s' (fun s2=>eN s2.t fs fun t=>lJ s2.b ds fun b=>N ⟨t,b⟩) x r) k ⟨t,b⟩)
  (fun id s _ x _=>x id s)
  (fun s _ _ r=>r s)
  (fun fs zs ds _ ih s n x r=>rX s.b zs fun b=>eN s.t fs fun t=>lJ b ds fun b=>ih ⟨t,b⟩ n x r)
  (fun i k ag _ ih s n x r => match aT s.t i with
   | .ow size _ rows=>testB (decide (size≠0)&&(decide (k<s.b.length)&&(c8 k s.t&&(cK k 0 s.b&&(qW i 0 s.t&&rD k 0 s.b))))) (rows≠[]/\mW (dS rows)=true /\
     l5 s.t i (.bs k size ag 0 rows.length) fun t=>l5 s.b k (some ⟨true,size,dS rows,false⟩) fun b=>ih ⟨t,b⟩ n x r)
   |_=>False)
  (fun ops s n _ _=>pY P (ops.length+1) (sT 0 ops) s n)
  (fun ops s n _ _=>testB (LX ops s) (KN P ops s n))
  (fun g _ ih s n x r=>KV P g s fun s'=>G8 s'.t fun t=>G8 s'.b fun b=>ih ⟨t,b⟩ n x r)
  (fun _ g ih s n x r=>ih s (fun s'=>KV P g s' fun s'=>G8 s'.t fun t=>G8 s'.b fun b=>n ⟨t,b⟩) x r) c
theorem NT:∀(c:C) (s:St) (n:St->Prop) (x:Nat->St->Prop) (r:St->Prop),ev P c s n x r=vc P c s n x r:=by
 intro c
 induction c with
 |stuck=>intros;rfl
 |skip=>intros;rfl
 |reg ops=>intros;show KN P _ _ _=_;simp only[vc,yU]
 |regd ops=>intros;show KN P _ _ _=_;simp only[vc,yU]
 |rega ops=>intros;show testB _ (KN P _ _ _)=_;simp only[vc,yU,fK]
 |regm ops=>intros;show testB _ (KN P _ _ _)=_;simp only[vc,yU,fK]
 |gp c g ih=>
  intro s n x r
  show ev P c s (fun s'=>KV P g s' fun s'=>G8 s'.t fun t=>G8 s'.b fun b=>n ⟨t,b⟩) x r=_
  simp only[vc,pH,ih]
 |gh g c ih=>
  intro s n x r
  show KV P g s (fun s'=>G8 s'.t fun t=>G8 s'.b fun b=>ev P c ⟨t,b⟩ n x r)=_
  simp only[vc,pH,ih]
 |seq a b iha ihb=>intro s n x r;show ev P a s (fun s'=>ev P b s' n x r) x r=_;simp only[vc,iha,ihb]
 |cond c a b iha ihb=>
  intro s n x r
  show (match c,c.val s.t with
   | .t j,.p (.bool t)=>(t=true->l5 s.t j (.p (.bool true)) fun t=>ev P a ⟨t,s.b⟩ n x r)/\(t=false->l5 s.t j (.p (.bool false)) fun t=>ev P b ⟨t,s.b⟩ n x r)
   | .c _,.p (.bool t)=>(t=true->ev P a s n x r)/\(t=false->ev P b s n x r)
   |_,_=>False)=_
  simp only[vc,iha,ihb,gH]
  cases c with
  |t j=>
   simp only[O.val]
   cases aT s.t j with
   |p z=>cases z<;>rfl
   |_=>rfl
  |c d=>
   simp only[O.val]
   cases d with
   |p z=>cases z<;>rfl
   |_=>rfl
 |block id c ih=>intro s n x r;show ev P c s n (fun j s'=>if j=id then n s' else x j s') r=_;simp only[vc,ih]
 |loop fs ds c ih=>
  intro s n x r
  show (∃k,eN s.t fs fun t=>lJ s.b ds fun b=>CW (fun s' N=>ev P c s' (fun s2=>eN s2.t fs fun t=>lJ s2.b ds fun b=>N ⟨t,b⟩) x r) k ⟨t,b⟩)=_
  simp only[vc,ih,jT,o9]
 |exit id=>intros;rfl
 |regx ops=>intros;simp only[vc];rfl
 |ret=>intros;rfl
 |pre fs zs ds c ih=>
  intro s n x r
  show (rX s.b zs fun b=>eN s.t fs fun t=>lJ b ds fun b=>ev P c ⟨t,b⟩ n x r)=_
  simp only[vc,ih,jT,o9]
 |own i k ag c ih=>
  intro s n x r
  show (match aT s.t i with
   | .ow size _ rows=>testB (decide (size≠0)&&(decide (k<s.b.length)&&(c8 k s.t&&(cK k 0 s.b&&(qW i 0 s.t&&rD k 0 s.b))))) (rows≠[]/\mW (dS rows)=true /\
     l5 s.t i (.bs k size ag 0 rows.length) fun t=>l5 s.b k (some ⟨true,size,dS rows,false⟩) fun b=>ev P c ⟨t,b⟩ n x r)
   |_=>False)=_
  simp only[vc]
  cases aT s.t i with
  |ow size nl rows=>simp only[fK,gH,ih]
  |_=>rfl
theorem JI{F:St->(St->Prop)->Prop}(I:Nat->St->Prop)(hs:∀n s (N:St->Prop),I n s->(∀m s',m<n->I m s'->N s')->F s N) :
  ∀(k n:Nat) (s:St),n<k->I n s->CW F k s:=by
 intro k
 induction k with
 |zero=>exact fun n s h=>by omega
 |succ k ih=>exact fun n s hn hI=>hs n s _ hI fun m s' hm hI'=>ih m s' (by omega) hI'
theorem aX{T:List DV}{fs:List Nat}{B:List (Option Box)}{ds:List Nat}{F:St->(St->Prop)->Prop}(I:Nat->St->Prop)(n:Nat)(h0:eN T fs fun t=>lJ B ds fun b=>I n ⟨t,b⟩)
  (hs:∀n t b (N:St->Prop),I n ⟨t,b⟩->(∀m s',m<n->I m s'->N s')->G8 t fun t=>G8 b fun b=>F ⟨t,b⟩ N):∃k,eN T fs fun t=>lJ B ds fun b=>CW F k ⟨t,b⟩:=by
 rw[jT,o9] at h0;refine⟨n+1,?_⟩;rw[jT,o9];exact JI I (fun n s N hI hN=>by have:=hs n s.t s.b N hI hN;rwa [pH,pH] at this) _ _ _ (Nat.lt_succ_self n) h0
def gM(n:Nat):List (Nat×DV)->List DV
 |[]=>List.replicate n .top
 |(i,d) ::l=>aF (gM n l) i d
theorem aJ{n:Int}(h1 : -9223372036854775808<=n)(h2:n<=9223372036854775807):IntKind.wrap .i64 n=n:=by
 have e:(2:Int) ^ (64:Nat)=18446744073709551616:=by decide
 have e':(2:Int) ^ (63:Nat)=9223372036854775808:=by decide
 simp only[IntKind.wrap,IntKind.signed,IntKind.bits];simp only[Bool.true_and,decide_eq_true_eq,e,e',ge_iff_le,Nat.add_one_sub_one,Nat.reduceSub]
 split<;>omega
class No (A:Prop):Prop where no:¬A
instance:No (true=false):=⟨by decide⟩
instance:No (false=true):=⟨by decide⟩
instance:No ((!true)=true):=⟨by decide⟩
instance:No ((!false)=false):=⟨by decide⟩
instance:No (true = !true):=⟨by decide⟩
instance:No (false = !false):=⟨by decide⟩
instance:No ((!true) = !false):=⟨by decide⟩
instance:No ((!false) = !true):=⟨by decide⟩
instance {a b c:Bool}[h:No (a=c)]:No ((if true=true then a else b)=c):=⟨fun e=>h.no (by simpa using e)⟩
instance {a b c:Bool}[h:No (b=c)]:No ((if false=true then a else b)=c):=⟨fun e=>h.no (by simpa using e)⟩
class Opp (x y:Bool):Prop where no:x≠y
instance:Opp true false:=⟨by decide⟩
instance:Opp false true:=⟨by decide⟩
instance:Opp true (!true):=⟨by decide⟩
instance:Opp false (!false):=⟨by decide⟩
theorem YR{c x y:Bool}[o:Opp x y](h:c=x):¬(c=y):=fun e=>o.no (h.symm.trans e)
theorem zP{A B C D:Prop}(k:B)(h:¬C:=by first|exact No.no|exact YR (x:=true) (by assumption)|exact YR (x:=false) (by assumption)):(A->B)/\(C->D):=⟨fun _=>k,fun c=>(h c).elim⟩
theorem zL{A B C D:Prop}(k:D)(h:¬A:=by first|exact No.no|exact YR (x:=true) (by assumption)|exact YR (x:=false) (by assumption)):(A->B)/\(C->D):=⟨fun c=>(h c).elim,fun _=>k⟩
theorem zX{α:Type}{p K : α->Prop}{x : α}(k:K x)(h:p x:=by assumption):∃x,p x/\K x:=⟨x,h,k⟩
theorem zn{n:Nat}{K:Prop}(k:K):(0:Int)<=(n:Int)/\K:=⟨Int.natCast_nonneg _,k⟩
theorem zb{a b:Nat}{K:Prop}(h:Nat.ble a b=true)(k:K):a<=b/\K:=⟨Nat.le_of_ble_eq_true h,k⟩
theorem zo{α:Type}{a b : α}{B K:Prop}(h:a=b)(k:K):(a=b\/B)/\K:=⟨.inl h,k⟩
theorem zs{A K:Prop}(k:K)(h:A:=by first|assumption|decide|(simp only[List.length_nil,List.length_cons,List.length_map,List.length_append];omega)|(refine List.forall_mem_cons.2 ⟨rfl,?_⟩;(repeat' first|exact fun _ h=>absurd h List.not_mem_nil|refine List.forall_mem_cons.2 ⟨rfl,?_⟩);done)):A/\K:=⟨h,k⟩
theorem Fn.run{f:FuncId}{F:Fn}(h:aC P f F=true){args:List PV}{r:DV}(hr:r.plain=true)
  (hv:ev P F.c (NW F.n F.nb args) (F.post r) (fun _ _=>False) (F.post r)):aB P f args r :=
 Fn.pure h hr (by unfold Fn.vc;rw[<-NT];exact hv)
theorem Fn.runO{f:FuncId}{F:Fn}(h:aC P f F=true){args:List DV}{bs:List Box}{bs':List (Option Box)}{r:DV}(hr:(r.plain||r.isRef)=true)(hbs:rC bs=true)(hlen:Nat.ble bs.length bs'.length=true)
  (hv:ev P F.c (LP F.n F.nb args bs) (F.postO bs.length bs' r) (fun _ _=>False) (F.postO bs.length bs' r)):aM P f args bs bs' r :=
 Fn.ocall h hr hbs hlen (by rw[<-NT];exact hv)
open Go.RowKit
def S6:Fn:=⟨89,3,[.tmp 6],
 (.sr [ii 3 (.box 0 5) [.t 0],
 ii 4 (.box 1 4) [.t 1],
 ii 5 (.box 2 2) [.t 2],
 mc 6 (.bool false)]
 (.seq
 (.sr [ii 8 (.load 5 true false) [.t 3],
 ii 9 (.call 80) [.t 8],
 ii 10 (.un .not) [.t 9],
 mv 11 10,
 gf 12 11 (.load 5 true false) [.t 3],
 gf 13 11 (.load 4 true false) [.t 4],
 gf 14 11 (.call 81) [.t 12,.t 13],
 gf 15 11 (.un .not) [.t 14],
 ii 16 .pick [.t 11,.c (.p (.bool true)),.t 15],
 mv 17 16,
 gf 18 17 (.load 5 true false) [.t 3],
 gf 19 17 (.load 2 true false) [.t 5],
 gf 20 17 (.call 218) [.t 18,.t 19],
 gf 21 17 (.un .not) [.t 20],
 ii 22 .pick [.t 17,.c (.p (.bool true)),.t 21]]
 (.cond (.t 22)
 (.sr [mc 6 (.bool false)]
 .ret)
 .skip))
 (.sr [fa 23 1 5,
 ld 24 23,
 ii 25 .len [.t 24],
 mt 7 25]
 (.seq
 (.sr [fa 26 0 5,
 ld 27 26]
 (.block 0
 (.sr [b1 29 .eql 27 (.int .i64 1),
 mt 28 29]
 (.cond (.t 28)
 (.seq
 (.regd [mv 30 7,
 b1 31 .eql 30 (.int .i64 1),
 mv 32 31,
 gt 33 32 (.fad 1) [.t 5],
 gt 34 32 (.at 2 (.load 1 false false)) [.t 33],
 gt 35 32 (.iad 4) [.t 34,cI 0],
 gt 36 32 (.fad 1) [.t 35],
 gt 37 32 (.loadp 1 false) [.t 36],
 gt 38 32 (.bin .eql) [.t 37,cI 0],
 ii 39 .pick [.t 32,.t 38,.c (.p (.bool false))],
 mv 40 39,
 gt 41 40 (.fad 1) [.t 5],
 gt 42 40 (.at 2 (.load 1 false false)) [.t 41],
 gt 43 40 (.iad 4) [.t 42,cI 0],
 gt 44 40 (.fad 2) [.t 43],
 gt 45 40 (.loadp 1 false) [.t 44],
 gt 46 40 (.fad 1) [.t 4],
 gt 47 40 (.at 1 (.load 1 false false)) [.t 46],
 gt 48 40 (.bin .eql) [.t 45,.t 47],
 ii 49 .pick [.t 40,.t 48,.c (.p (.bool false))],
 mv 50 49,
 gt 51 50 (.fad 1) [.t 5],
 gt 52 50 (.at 2 (.load 1 false false)) [.t 51],
 gt 53 50 (.iad 4) [.t 52,cI 0],
 gt 54 50 (.fad 3) [.t 53],
 gt 55 50 (.loadp 1 false) [.t 54],
 gt 56 50 (.fad 0) [.t 4],
 gt 57 50 (.at 1 (.load 1 false false)) [.t 56],
 gt 58 50 (.bin .eql) [.t 55,.t 57],
 ii 59 .pick [.t 50,.t 58,.c (.p (.bool false))],
 mt 6 59])
 .ret)
 (.sr [b1 61 .eql 27 (.int .i64 2),
 mt 60 61]
 (.cond (.t 60)
 (.sr [ii 62 (.load 5 true false) [.t 3],
 ii 63 (.load 4 true false) [.t 4],
 ii 64 (.load 2 true false) [.t 5],
 ii 65 (.call 219) [.t 62,.t 63,.t 64],
 mt 6 65]
 .ret)
 (.sr [b1 67 .eql 27 (.int .i64 3),
 mt 66 67]
 (.cond (.t 66)
 (.seq
 (.regd [ii 68 (.at 0 (.load 5 true false)) [.t 3],
 ii 69 (.at 1 (.load 4 true false)) [.t 4],
 ii 70 (.at 2 (.load 2 true false)) [.t 5],
 ii 71 (.pl (.call 219)) [.t 68,.t 69,.t 70],
 mv 72 71,
 gt 73 72 (.mov false) [.t 7],
 gt 74 72 (.bin .eql) [.t 73,cI 2],
 ii 75 .pick [.t 72,.t 74,.c (.p (.bool false))],
 mv 76 75,
 gt 77 76 (.fad 1) [.t 5],
 gt 78 76 (.at 2 (.load 1 false false)) [.t 77],
 gt 79 76 (.iad 4) [.t 78,cI 0],
 gt 80 76 (.fad 2) [.t 79],
 gt 81 76 (.loadp 1 false) [.t 80],
 gt 82 76 (.fad 1) [.t 5],
 gt 83 76 (.at 2 (.load 1 false false)) [.t 82],
 gt 84 76 (.iad 4) [.t 83,cI 0],
 gt 85 76 (.fad 3) [.t 84],
 gt 86 76 (.loadp 1 false) [.t 85],
 gt 87 76 (.bin .eql) [.t 81,.t 86],
 ii 88 .pick [.t 76,.t 87,.c (.p (.bool false))],
 mt 6 88])
 .ret)
 .skip))))))))
 (.sr [mc 6 (.bool false)]
 .ret)))))⟩
theorem WY:aC Tryz.prog 185 S6=true:=by kernel_rfl
def F50:Fn:=⟨64,3,[.cell 6 2,.tmp 7],
 (.sr [ii 3 (.box 0 5) [.t 0],
 ii 5 (.box 1 4) [.t 2],
 ⟨some 6,none,.alloc 2 2 [Z0,.ow 4 true []],[]⟩,
 mc 7 (.bool false)]
 (.seq
 (.sr [ii 12 (.load 5 true false) [.t 3],
 ii 13 (.call 80) [.t 12],
 ii 14 (.un .not) [.t 13],
 mv 15 14,
 gf 16 15 (.load 5 true false) [.t 3],
 gf 17 15 (.load 4 true false) [.t 5],
 gf 18 15 (.call 81) [.t 16,.t 17],
 gf 19 15 (.un .not) [.t 18],
 ii 20 .pick [.t 15,.c (.p (.bool true)),.t 19],
 mv 21 20,
 gf 22 21 (.fad 3) [.t 5],
 gf 23 21 (.load 1 false false) [.t 22],
 gf 24 21 .len [.t 23],
 gf 25 21 (.bin .gtr) [.t 24,cI 0],
 ii 26 .pick [.t 21,.c (.p (.bool true)),.t 25],
 mv 27 26,
 gf 28 27 (.mov false) [.t 1],
 gf 29 27 .len [.t 28],
 gf 30 27 (.fad 0) [.t 3],
 gf 31 27 (.load 1 false false) [.t 30],
 gf 32 27 (.bin .neq) [.t 29,.t 31],
 ii 33 .pick [.t 27,.c (.p (.bool true)),.t 32]]
 (.cond (.t 33)
 (.seq
 (.gp (.reg [⟨some 34,none,.build [.int .i64 0,.sl 4 true []] [],[]⟩,
 ⟨none,none,.store 2,[.t 6,.t 34]⟩,
 mc 7 (.bool false)]) (.lay 2 2))
 .ret)
 .skip))
 (.seq
 (.sr [mc 8 (.int .i64 2)]
 (.block 0
 (.loop [0,2,7,9,10,11,12,13,14,15,16,17,18,19,20,21,22,23,24,25,26,27,28,29,30,31,32,33,34,35,36,37,38,39,40,41,42,43,44,45,46,47,48,49,50,51,52,53,54,55,56,57,58,59,60,61,62,63] []
 (.seq
 (.sr [mv 35 8,
 fa 36 0 3,
 ld 37 36,
 b2 38 .leq 35 37]
 (.cond (.t 38)
 .skip
 (.exit 0)))
 (.seq
 (.block 1
 (.sr [ii 41 (.load 5 true false) [.t 3],
 ii 42 (.load 4 true false) [.t 5],
 mv 43 8,
 ii 44 (.call 82) [.t 41,.t 42,.t 43],
 mt 9 44]
 (.seq
 (.sr [mv 45 9,
 b1 46 .eql 45 (.int .i64 0)]
 (.cond (.t 46)
 (.exit 0)
 .skip))
 (.seq
 (.regd [ii 48 (.at 0 (.load 5 true false)) [.t 3],
 ii 49 (.at 1 (.load 4 true false)) [.t 5],
 mv 50 9,
 ii 51 (.at 0 (.load 5 true false)) [.t 3],
 mv 52 1,
 ii 53 (.at 1 (.load 4 true false)) [.t 5],
 mv 54 8,
 mv 55 9,
 ii 56 (.pl (.call 84)) [.t 51,.t 52,.t 53,.t 54,.t 55],
 ii 57 (.pl (.call 83)) [.t 48,.t 49,.t 50,.t 56],
 mv 47 57,
 ii 58 (.extp 0) [.t 47],
 ii 59 (.extp 1) [.t 47],
 mt 10 58,
 mt 11 59])
 (.sr [mv 60 11]
 (.cond (.t 60)
 (.seq
 (.gp (.reg [mv 61 10,
 ⟨some 62,none,.build [.int .i64 0,.sl 4 true []] [(0,1),(1,1)],[cI 2,.t 61]⟩,
 ⟨none,none,.store 2,[.t 6,.t 62]⟩,
 mc 7 (.bool true)]) (.lay 2 2))
 .ret)
 .skip))))))
 (.reg [mv 39 8,
 b1 40 .add 39 (.int .i64 1),
 mt 8 40]))))))
 (.seq
 (.gp (.reg [⟨some 63,none,.build [.int .i64 0,.sl 4 true []] [],[]⟩,
 ⟨none,none,.store 2,[.t 6,.t 63]⟩,
 mc 7 (.bool false)]) (.lay 2 2))
 .ret))))⟩
theorem k50:aC Tryz.prog 50 F50=true:=by kernel_rfl
def F82:Fn:=⟨20,2,[.tmp 6],
 (.sr [ii 3 (.box 0 5) [.t 0],
 ii 4 (.box 1 4) [.t 1],
 mc 6 (.int .i64 0)]
 (.seq
 (.sr [mv 7 2,
 b1 8 .lss 7 (.int .i64 1)]
 (.cond (.t 8)
 (.sr [mc 6 (.int .i64 0)]
 .ret)
 .skip))
 (.sr [fa 9 1 4,
 ld 10 9,
 mv 11 2,
 b1 12 .sub 11 (.int .i64 1),
 fa 13 2 3,
 ld 14 13,
 b2 15 .mul 12 14,
 b2 16 .sub 10 15,
 mv 17 2,
 ii 18 (.call 129) [.t 16,.t 17],
 ii 19 .mx [.t 18,cI 0],
 mt 6 19]
 .ret)))⟩
theorem k82:aC Tryz.prog 82 F82=true:=by kernel_rfl
def F51:Fn:=⟨62,4,[.cell 6 2,.tmp 7],
 (.sr [ii 3 (.box 0 5) [.t 0],
 ii 5 (.box 1 4) [.t 2],
 ⟨some 6,none,.alloc 2 2 [Z0,.ow 4 true []],[]⟩,
 mc 7 (.bool false)]
 (.seq
 (.sr [ii 12 (.load 5 true false) [.t 3],
 ii 13 (.call 80) [.t 12],
 ii 14 (.un .not) [.t 13],
 mv 15 14,
 gf 16 15 (.load 5 true false) [.t 3],
 gf 17 15 (.load 4 true false) [.t 5],
 gf 18 15 (.call 81) [.t 16,.t 17],
 gf 19 15 (.un .not) [.t 18],
 ii 20 .pick [.t 15,.c (.p (.bool true)),.t 19],
 mv 21 20,
 gf 22 21 (.fad 3) [.t 5],
 gf 23 21 (.load 1 false false) [.t 22],
 gf 24 21 .len [.t 23],
 gf 25 21 (.bin .gtr) [.t 24,cI 0],
 ii 26 .pick [.t 21,.c (.p (.bool true)),.t 25],
 mv 27 26,
 gf 28 27 (.mov false) [.t 1],
 gf 29 27 .len [.t 28],
 gf 30 27 (.fad 0) [.t 3],
 gf 31 27 (.load 1 false false) [.t 30],
 gf 32 27 (.bin .neq) [.t 29,.t 31],
 ii 33 .pick [.t 27,.c (.p (.bool true)),.t 32]]
 (.cond (.t 33)
 (.seq
 (.gp (.reg [⟨some 34,none,.build [.int .i64 0,.sl 4 true []] [],[]⟩,
 ⟨none,none,.store 2,[.t 6,.t 34]⟩,
 mc 7 (.bool false)]) (.lay 2 2))
 .ret)
 .skip))
 (.seq
 (.sr [mv 35 1,
 ii 36 .len [.t 35],
 ii 37 (.mov false) [cI 0]]
 (.block 0
 (.loop [0,2,7,8,9,10,11,12,13,14,15,16,17,18,19,20,21,22,23,24,25,26,27,28,29,30,31,32,33,34,35,38,39,40,41,42,43,44,45,46,47,48,49,50,51,52,53,54,55,56,57,58,59,60,61] [3]
 (.sr [b2 38 .lss 37 36]
 (.seq
 (.cond (.t 38)
 .skip
 (.exit 0))
 (.seq
 (.block 1
 (.sr [mv 39 37,
 mt 8 39]
 (.sr [mv 40 1,
 ii 41 .len [.t 40],
 ii 42 (.mov false) [cI 0]]
 (.block 2
 (.loop [0,2,7,9,10,11,12,13,14,15,16,17,18,19,20,21,22,23,24,25,26,27,28,29,30,31,32,33,34,35,38,39,40,43,44,45,46,47,48,49,50,51,52,53,54,55,56,57,58,59,60,61] [3]
 (.sr [b2 43 .lss 42 41]
 (.seq
 (.cond (.t 43)
 .skip
 (.exit 2))
 (.seq
 (.block 3
 (.sr [mv 44 42,
 mt 9 44]
 (.seq
 (.sr [mv 45 8,
 mv 46 9,
 b2 47 .eql 45 46]
 (.cond (.t 47)
 (.exit 3)
 .skip))
 (.seq
 (.gp (.reg [ii 49 (.load 5 true false) [.t 3],
 mv 50 1,
 ii 51 (.load 4 true false) [.t 5],
 mv 52 8,
 mv 53 9,
 ii 54 (.call 85) [.t 49,.t 50,.t 51,.t 52,.t 53],
 mv 48 54,
 ii 55 (.ext 0) [.t 48],
 ii 56 (.ext 1) [.t 48],
 ⟨some 10,none,.alloc 3 2 [Z0,.ow 4 true []],[]⟩,
 ⟨none,none,.store 2,[.t 10,.t 55]⟩,
 mt 11 56]) (.lay 3 2))
 (.sr [mv 57 11]
 (.cond (.t 57)
 (.seq
 (.gp (.reg [ii 58 (.load 2 true false) [.t 10],
 ⟨none,none,.store 2,[.t 6,.t 58]⟩,
 mc 7 (.bool true)]) (.lay 2 2))
 .ret)
 .skip))))))
 (.reg [b1 59 .add 42 (.int .i64 1),
 mv 42 59])))))))))
 (.reg [b1 60 .add 37 (.int .i64 1),
 mv 37 60])))))))
 (.seq
 (.gp (.reg [⟨some 61,none,.build [.int .i64 0,.sl 4 true []] [],[]⟩,
 ⟨none,none,.store 2,[.t 6,.t 61]⟩,
 mc 7 (.bool false)]) (.lay 2 2))
 .ret))))⟩
theorem k51:aC Tryz.prog 51 F51=true:=by kernel_rfl
def F79:Fn:=⟨15,0,[.tmp 2],
 (.sr [mc 2 (.bool false)]
 (.sr [mv 6 0,
 ii 7 (.call 125) [.t 6],
 mv 5 7,
 ii 8 (.ext 0) [.t 5],
 ii 9 (.ext 1) [.t 5],
 mt 3 8,
 mt 4 9]
 (.sr [mv 10 4,
 mv 11 10,
 gt 12 11 (.mov false) [.t 3],
 gt 13 11 (.bin .eql) [.t 12,cI 0],
 ii 14 .pick [.t 11,.t 13,.c (.p (.bool false))],
 mt 2 14]
 .ret)))⟩
theorem k79:aC Tryz.prog 79 F79=true:=by kernel_rfl
def R3:Fn:=⟨19,2,[.tmp 2],
 (.sr [ii 1 (.box 0 2) [.t 0],
 mc 2 (.int .i64 0)]
 (.sr [mc 3 (.int .i64 0)]
 (.seq
 (.sr [fa 6 1 1,
 ld 7 6,
 ii 8 .len [.t 7],
 ii 9 (.mov false) [cI 0]]
 (.block 0
 (.loop [0,1,2,5,6,10,11,12,13,14,15,16,17,18] [1]
 (.sr [b2 10 .lss 9 8]
 (.seq
 (.cond (.t 10)
 .skip
 (.exit 0))
 (.seq
 (.block 1
 (.seq
 (.gp (.reg [ii 11 (.iad 4) [.t 7,.t 9],
 ii 12 (.load 4 true false) [.t 11],
 ⟨some 5,none,.alloc 1 4 [Z0,Z0,Z0,Z0],[]⟩,
 ⟨none,none,.store 4,[.t 5,.t 12]⟩]) (.lay 1 4))
 (.reg [mv 13 3,
 fa 14 3 5,
 ld 15 14,
 b2 16 .add 13 15,
 mt 3 16])))
 (.reg [b1 17 .add 9 (.int .i64 1),
 mv 9 17])))))))
 (.sr [mv 18 3,
 mt 2 18]
 .ret))))⟩
theorem XP:aC Tryz.prog 186 R3=true:=by kernel_rfl
def Q3:Fn:=⟨17,2,[.tmp 4],
 (.sr [ii 2 (.box 0 2) [.t 0],
 ii 3 (.box 1 2) [.t 1],
 mc 4 (.bool false)]
 (.sr [fa 5 0 2,
 ld 6 5,
 fa 7 0 3,
 ld 8 7,
 b2 9 .eql 6 8,
 mv 10 9,
 gt 11 10 (.fad 1) [.t 2],
 gt 12 10 (.load 1 false false) [.t 11],
 gt 13 10 (.fad 1) [.t 3],
 gt 14 10 (.load 1 false false) [.t 13],
 gt 15 10 (.call 220) [.t 12,.t 14],
 ii 16 .pick [.t 10,.t 15,.c (.p (.bool false))],
 mt 4 16]
 .ret))⟩
theorem UR:aC Tryz.prog 187 Q3=true:=by kernel_rfl
def YH:Fn:=⟨31,1,[.tmp 6],
 (.sr [ii 3 (.box 0 2) [.t 0],
 mc 6 (.int .i64 0)]
 (.seq
 (.sr [mv 7 1,
 b1 8 .lss 7 (.int .i64 0),
 mv 9 8,
 gf 10 9 (.mov false) [.t 1],
 gf 11 9 (.fad 1) [.t 3],
 gf 12 9 (.load 1 false false) [.t 11],
 gf 13 9 .len [.t 12],
 gf 14 9 (.bin .geq) [.t 10,.t 13],
 ii 15 .pick [.t 9,.c (.p (.bool true)),.t 14]]
 (.cond (.t 15)
 (.sr [mc 6 (.int .i64 0)]
 .ret)
 .skip))
 (.seq
 (.regd [mv 16 2,
 fa 17 1 3,
 ii 18 (.at 0 (.load 1 false false)) [.t 17],
 mv 19 1,
 ii 20 (.iad 4) [.t 18,.t 19],
 fa 21 1 20,
 ii 22 (.loadp 1 false) [.t 21],
 b2 23 .add 16 22,
 fa 24 1 3,
 ii 25 (.at 0 (.load 1 false false)) [.t 24],
 mv 26 1,
 ii 27 (.iad 4) [.t 25,.t 26],
 fa 28 2 27,
 ii 29 (.loadp 1 false) [.t 28],
 b2 30 .add 23 29,
 mt 6 30])
 .ret)))⟩
theorem ZB:aC Tryz.prog 26 YH=true:=by kernel_rfl
def F78:Fn:=⟨9,0,[.tmp 2],
 (.sr [ii 2 (.mov true) [.c (.ow 3 true [])]]
 (.sr [mv 3 0,
 mv 4 0,
 ii 5 .len [.t 4],
 ii 6 .mn [.t 5,cI 10],
 ii 7 (.slc 3 false true) [.t 3,.t 6],
 ii 8 (.app 3 24) [.c (.ow 3 true []),.t 7],
 mt 2 8]
 .ret))⟩
theorem k78:aC Tryz.prog 78 F78=true:=by kernel_rfl
def P9:Fn:=⟨2,0,[.tmp 0],
 (.sr [mc 0 (.bool false)]
 (.sr [ii 1 (.call 217) [],
 mt 0 1]
 .ret))⟩
theorem V9:aC Tryz.prog 184 P9=true:=by kernel_rfl
def F45:Fn:=⟨13,2,[.cell 2 5],
 (.sr [ii 1 (.box 0 5) [.t 0],
 ⟨some 2,none,.alloc 1 5 [Z0,Z0,Z0,Z0,.ow 1 true []],[]⟩]
 (.seq
 (.gp (.reg [fa 3 4 1,
 ld 4 3,
 fa 5 4 1,
 ld 6 5,
 ii 7 .len [.t 6],
 ii 8 .mn [.t 7,cI 8],
 ii 9 (.slc 1 false true) [.t 4,.t 8],
 ii 10 (.app 1 8) [.c (.ow 1 true []),.t 9],
 fa 11 4 1,
 ⟨none,none,.store 1,[.t 11,.t 10]⟩]) (.lay 0 5))
 (.seq
 (.gp (.reg [ii 12 (.load 5 true false) [.t 1],
 ⟨none,none,.store 5,[.t 2,.t 12]⟩]) (.lay 1 5))
 .ret)))⟩
theorem k45:aC Tryz.prog 45 F45=true:=by kernel_rfl
def F46:Fn:=⟨51,1,[.tmp 2],
 (.sr [ii 1 (.box 0 5) [.t 0],
 mc 2 (.bool false)]
 (.seq
 (.sr [mc 3 (.int .i64 0)]
 (.block 0
 (.loop [0,2,4,5,6,7,8,9,10,11,12,13,14,15,16,17,18,19,20,21,22,23,24,25,26,27,28,29,30,31,32,33,34,35,36,37,38,39,40,41,42,43,44,45,46,47,48,49,50] []
 (.seq
 (.sr [mv 4 3,
 fa 5 4 1,
 ld 6 5,
 ii 7 .len [.t 6],
 b2 8 .lss 4 7]
 (.cond (.t 8)
 .skip
 (.exit 0)))
 (.seq
 (.block 1
 (.seq
 (.regd [fa 11 4 1,
 ii 12 (.at 0 (.load 1 false false)) [.t 11],
 mv 13 3,
 ii 14 (.iad 1) [.t 12,.t 13],
 ii 15 (.loadp 1 false) [.t 14],
 b1 16 .lss 15 (.int .i64 0),
 mv 17 16,
 gf 18 17 (.fad 4) [.t 1],
 gf 19 17 (.at 0 (.load 1 false false)) [.t 18],
 gf 20 17 (.mov false) [.t 3],
 gf 21 17 (.iad 1) [.t 19,.t 20],
 gf 22 17 (.loadp 1 false) [.t 21],
 gf 23 17 (.fad 1) [.t 1],
 gf 24 17 (.at 0 (.load 1 false false)) [.t 23],
 gf 25 17 (.bin .geq) [.t 22,.t 24],
 ii 26 .pick [.t 17,.c (.p (.bool true)),.t 25]])
 (.cond (.t 26)
 (.sr [mc 2 (.bool false)]
 .ret)
 .skip)))
 (.reg [mv 9 3,
 b1 10 .add 9 (.int .i64 1),
 mt 3 10]))))))
 (.sr [fa 27 0 1,
 ld 28 27,
 ii 29 (.call 77) [.t 28,cI 1,cI 6],
 mv 30 29,
 gt 31 30 (.fad 1) [.t 1],
 gt 32 30 (.load 1 false false) [.t 31],
 gt 33 30 (.call 77) [.t 32,cI 0,cI 3],
 ii 34 .pick [.t 30,.t 33,.c (.p (.bool false))],
 mv 35 34,
 gt 36 35 (.fad 2) [.t 1],
 gt 37 35 (.load 1 false false) [.t 36],
 gt 38 35 (.call 77) [.t 37,cI 0,cI 5],
 ii 39 .pick [.t 35,.t 38,.c (.p (.bool false))],
 mv 40 39,
 gt 41 40 (.fad 3) [.t 1],
 gt 42 40 (.load 1 false false) [.t 41],
 gt 43 40 (.call 77) [.t 42,cI 0,cI 5],
 ii 44 .pick [.t 40,.t 43,.c (.p (.bool false))],
 mv 45 44,
 gt 46 45 (.fad 4) [.t 1],
 gt 47 45 (.load 1 false false) [.t 46],
 gt 48 45 .len [.t 47],
 gt 49 45 (.bin .leq) [.t 48,cI 6],
 ii 50 .pick [.t 45,.t 49,.c (.p (.bool false))],
 mt 2 50]
 .ret)))⟩
theorem k46:aC Tryz.prog 46 F46=true:=by kernel_rfl
def F47:Fn:=⟨13,2,[.cell 2 4],
 (.sr [ii 1 (.box 0 4) [.t 0],
 ⟨some 2,none,.alloc 1 4 [Z0,Z0,Z0,.ow 3 true []],[]⟩]
 (.seq
 (.gp (.reg [fa 3 3 1,
 ld 4 3,
 fa 5 3 1,
 ld 6 5,
 ii 7 .len [.t 6],
 ii 8 .mn [.t 7,cI 4],
 ii 9 (.slc 3 false true) [.t 4,.t 8],
 ii 10 (.app 3 24) [.c (.ow 3 true []),.t 9],
 fa 11 3 1,
 ⟨none,none,.store 1,[.t 11,.t 10]⟩]) (.lay 0 4))
 (.seq
 (.gp (.reg [ii 12 (.load 4 true false) [.t 1],
 ⟨none,none,.store 4,[.t 2,.t 12]⟩]) (.lay 1 4))
 .ret)))⟩
theorem k47:aC Tryz.prog 47 F47=true:=by kernel_rfl
def F48:Fn:=⟨89,3,[.tmp 4],
 (.sr [ii 2 (.box 0 5) [.t 0],
 ii 3 (.box 1 4) [.t 1],
 mc 4 (.bool false)]
 (.seq
 (.sr [fa 7 0 3,
 ld 8 7,
 b1 9 .lss 8 (.int .i64 1),
 mv 10 9,
 gf 11 10 (.fad 1) [.t 3],
 gf 12 10 (.load 1 false false) [.t 11],
 gf 13 10 (.fad 0) [.t 3],
 gf 14 10 (.load 1 false false) [.t 13],
 gf 15 10 (.bin .lss) [.t 12,.t 14],
 ii 16 .pick [.t 10,.c (.p (.bool true)),.t 15],
 mv 17 16,
 gf 18 17 (.fad 2) [.t 3],
 gf 19 17 (.load 1 false false) [.t 18],
 gf 20 17 (.fad 1) [.t 3],
 gf 21 17 (.load 1 false false) [.t 20],
 gf 22 17 (.bin .lss) [.t 19,.t 21],
 ii 23 .pick [.t 17,.c (.p (.bool true)),.t 22],
 mv 24 23,
 gf 25 24 (.fad 2) [.t 3],
 gf 26 24 (.load 1 false false) [.t 25],
 gf 27 24 (.bin .gtr) [.t 26,cI 200],
 ii 28 .pick [.t 24,.c (.p (.bool true)),.t 27],
 mv 29 28,
 gf 30 29 (.fad 3) [.t 3],
 gf 31 29 (.load 1 false false) [.t 30],
 gf 32 29 .len [.t 31],
 gf 33 29 (.bin .gtr) [.t 32,cI 2],
 ii 34 .pick [.t 29,.c (.p (.bool true)),.t 33]]
 (.cond (.t 34)
 (.sr [mc 4 (.bool false)]
 .ret)
 .skip))
 (.seq
 (.sr [mc 5 (.int .i64 0)]
 (.block 0
 (.loop [0,1,4,6,7,8,9,10,11,12,13,14,15,16,17,18,19,20,21,22,23,24,25,26,27,28,29,30,31,32,33,34,35,36,37,38,39,40,41,42,43,44,45,46,47,48,49,50,51,52,53,54,55,56,57,58,59,60,61,62,63,64,65,66,67,68,69,70,71,72,73,74,75,76,77,78,79,80,81,82,83,84,85,86,87,88] [2]
 (.seq
 (.sr [mv 35 5,
 fa 36 3 3,
 ld 37 36,
 ii 38 .len [.t 37],
 b2 39 .lss 35 38]
 (.cond (.t 39)
 .skip
 (.exit 0)))
 (.seq
 (.block 1
 (.seq
 (.gp (.reg [fa 42 3 3,
 ld 43 42,
 mv 44 5,
 ii 45 (.iad 3) [.t 43,.t 44],
 ii 46 (.load 3 true false) [.t 45],
 ⟨some 6,none,.alloc 2 3 [Z0,Z0,Z0],[]⟩,
 ⟨none,none,.store 3,[.t 6,.t 46]⟩]) (.lay 2 3))
 (.seq
 (.regd [fa 47 0 6,
 ii 48 (.at 2 (.load 1 false false)) [.t 47],
 b1 49 .lss 48 (.int .i64 0),
 mv 50 49,
 gf 51 50 (.fad 0) [.t 6],
 gf 52 50 (.at 2 (.load 1 false false)) [.t 51],
 gf 53 50 (.fad 4) [.t 2],
 gf 54 50 (.at 0 (.load 1 false false)) [.t 53],
 gf 55 50 .lenD [.t 54],
 gf 56 50 (.bin .geq) [.t 52,.t 55],
 ii 57 .pick [.t 50,.c (.p (.bool true)),.t 56],
 mv 58 57,
 gf 59 58 (.fad 2) [.t 6],
 gf 60 58 (.at 2 (.load 1 false false)) [.t 59],
 gf 61 58 (.pl (.call 77)) [.t 60,cI 1,cI 200],
 gf 62 58 (.un .not) [.t 61],
 ii 63 .pick [.t 58,.c (.p (.bool true)),.t 62],
 mv 64 63,
 gf 65 64 (.fad 1) [.t 6],
 gf 66 64 (.at 2 (.load 1 false false)) [.t 65],
 gf 67 64 (.fad 0) [.t 3],
 gf 68 64 (.at 1 (.load 1 false false)) [.t 67],
 gf 69 64 (.bin .sub) [.t 68,cI 1],
 gf 70 64 (.pl (.call 77)) [.t 66,cI 1,.t 69],
 gf 71 64 (.un .not) [.t 70],
 ii 72 .pick [.t 64,.c (.p (.bool true)),.t 71],
 mv 73 72,
 gf 74 73 (.mov false) [.t 5],
 gf 75 73 (.bin .gtr) [.t 74,cI 0],
 gf 76 73 (.mov false) [.t 75],
 gt 77 76 (.fad 1) [.t 6],
 gt 78 76 (.at 2 (.load 1 false false)) [.t 77],
 gt 79 76 (.fad 3) [.t 3],
 gt 80 76 (.at 1 (.load 1 false false)) [.t 79],
 gt 81 76 (.mov false) [.t 5],
 gt 82 76 (.bin .sub) [.t 81,cI 1],
 gt 83 76 (.iad 3) [.t 80,.t 82],
 gt 84 76 (.fad 1) [.t 83],
 gt 85 76 (.loadp 1 false) [.t 84],
 gt 86 76 (.bin .leq) [.t 78,.t 85],
 gf 87 73 .pick [.t 76,.t 86,.c (.p (.bool false))],
 ii 88 .pick [.t 73,.c (.p (.bool true)),.t 87]])
 (.cond (.t 88)
 (.sr [mc 4 (.bool false)]
 .ret)
 .skip))))
 (.reg [mv 40 5,
 b1 41 .add 40 (.int .i64 1),
 mt 5 41]))))))
 (.sr [mc 4 (.bool true)]
 .ret))))⟩
theorem YG:aC Tryz.prog 48 F48=true:=by kernel_rfl
def QQ:Fn:=⟨19,0,[.tmp 4],
 (.sr [mc 4 (.int .i64 0)]
 (.seq
 (.sr [mv 6 0,
 ii 7 .len [.t 6],
 ii 8 (.mov false) [cI 0]]
 (.block 0
 (.loop [4,5,6,9,10,11,12,13,14,15,16,17,18] []
 (.sr [b2 9 .lss 8 7]
 (.seq
 (.cond (.t 9)
 .skip
 (.exit 0))
 (.seq
 (.block 1
 (.sr [mv 10 8,
 mt 5 10]
 (.sr [mv 11 1,
 mv 12 0,
 mv 13 5,
 ii 14 (.iad 1) [.t 12,.t 13],
 ld 15 14,
 ii 16 .callv [.t 11,.t 15]]
 (.cond (.t 16)
 (.sr [mv 17 5,
 mt 4 17]
 .ret)
 .skip))))
 (.reg [b1 18 .add 8 (.int .i64 1),
 mv 8 18])))))))
 (.sr [mc 4 (.int .i64 (-1))]
 .ret)))⟩
theorem VE:aC Tryz.prog 138 QQ=true:=by kernel_rfl
def SX:Fn:=⟨10,0,[.tmp 3],
 (.sr [mc 3 (.bool false)]
 (.seq
 (.regd [mv 4 0,
 ii 5 (.pl (.call 137)) [.t 4],
 ii 6 (.loadp 3 true) [.t 1],
 ii 7 (.bsl 3 1) [.t 6],
 ii 8 (.pl (.app 3 24)) [.t 5,.t 7],
 ii 9 (.pl (.call 136)) [.t 8],
 mt 3 9])
 .ret))⟩
theorem WR:aC Tryz.prog 139 SX=true:=by kernel_rfl
def a0I:Fn:=⟨22,0,[.tmp 2],
 (.sr [mc 2 (.bool false)]
 (.sr [mv 8 0,
 ii 9 (.call 174) [.t 8],
 mv 7 9,
 ii 10 (.ext 0) [.t 7],
 ii 11 (.ext 1) [.t 7],
 mt 3 10,
 mt 4 11]
 (.sr [mv 13 0,
 ii 14 (.call 175) [.t 13],
 mv 12 14,
 ii 15 (.ext 0) [.t 12],
 ii 16 (.ext 1) [.t 12],
 mt 5 15,
 mt 6 16]
 (.sr [mv 17 4,
 mv 18 17,
 gt 19 18 (.mov false) [.t 6],
 gt 20 18 (.un .not) [.t 19],
 ii 21 .pick [.t 18,.t 20,.c (.p (.bool false))],
 mt 2 21]
 .ret))))⟩
theorem a0S:aC Tryz.prog 136 a0I=true:=by kernel_rfl
def OB:Fn:=⟨8,0,[.tmp 2],
 (.sr [ii 2 (.mov true) [.c (.ow 3 true [])]]
 (.seq
 (.sr [mv 3 0,
 ii 4 (.eqnil false) [.t 3,.c (.ow 3 true [])]]
 (.cond (.t 4)
 (.sr [ii 2 (.mov true) [.c (.ow 3 true [])]]
 .ret)
 .skip))
 (.sr [ii 5 (.bsl 3 0) [],
 mv 6 0,
 ii 7 (.app 3 24) [.t 5,.t 6],
 mt 2 7]
 .ret)))⟩
theorem LT:aC Tryz.prog 137 OB=true:=by kernel_rfl
def F80:Fn:=⟨38,1,[.tmp 2],
 (.sr [ii 1 (.box 0 5) [.t 0],
 mc 2 (.bool false)]
 (.seq
 (.sr [fa 4 0 1,
 ld 5 4,
 ii 6 (.call 126) [.t 5,cI 1,cI 6],
 ii 7 (.un .not) [.t 6],
 mv 8 7,
 gf 9 8 (.fad 1) [.t 1],
 gf 10 8 (.load 1 false false) [.t 9],
 gf 11 8 (.call 126) [.t 10,cI 0,cI 3],
 gf 12 8 (.un .not) [.t 11],
 ii 13 .pick [.t 8,.c (.p (.bool true)),.t 12],
 mv 14 13,
 gf 15 14 (.fad 2) [.t 1],
 gf 16 14 (.load 1 false false) [.t 15],
 gf 17 14 (.call 126) [.t 16,cI 0,cI 5],
 gf 18 14 (.un .not) [.t 17],
 ii 19 .pick [.t 14,.c (.p (.bool true)),.t 18],
 mv 20 19,
 gf 21 20 (.fad 3) [.t 1],
 gf 22 20 (.load 1 false false) [.t 21],
 gf 23 20 (.call 126) [.t 22,cI 0,cI 5],
 gf 24 20 (.un .not) [.t 23],
 ii 25 .pick [.t 20,.c (.p (.bool true)),.t 24]]
 (.cond (.t 25)
 (.sr [mc 2 (.bool false)]
 .ret)
 .skip))
 (.seq
 (.pre [] [0] [] (.reg [ii 26 (.mkfn 127) [.t 1],
 mt 3 26]))
 (.sr [fa 27 4 1,
 ld 28 27,
 ii 29 .len [.t 28],
 b1 30 .leq 29 (.int .i64 6),
 mv 31 30,
 gt 32 31 (.fad 4) [.t 1],
 gt 33 31 (.load 1 false false) [.t 32],
 gt 34 31 (.mov false) [.t 3],
 gt 35 31 (.call 128) [.t 33,.t 34],
 gt 36 31 (.un .not) [.t 35],
 ii 37 .pick [.t 31,.t 36,.c (.p (.bool false))],
 mt 2 37]
 .ret))))⟩
theorem k80:aC Tryz.prog 80 F80=true:=by kernel_rfl
def F81:Fn:=⟨76,3,[.tmp 4],
 (.sr [ii 2 (.box 0 5) [.t 0],
 ii 3 (.box 1 4) [.t 1],
 mc 4 (.bool false)]
 (.seq
 (.sr [fa 8 0 3,
 ld 9 8,
 b1 10 .lss 9 (.int .i64 1),
 mv 11 10,
 gf 12 11 (.fad 0) [.t 3],
 gf 13 11 (.load 1 false false) [.t 12],
 gf 14 11 (.fad 1) [.t 3],
 gf 15 11 (.load 1 false false) [.t 14],
 gf 16 11 (.bin .gtr) [.t 13,.t 15],
 ii 17 .pick [.t 11,.c (.p (.bool true)),.t 16],
 mv 18 17,
 gf 19 18 (.fad 1) [.t 3],
 gf 20 18 (.load 1 false false) [.t 19],
 gf 21 18 (.fad 2) [.t 3],
 gf 22 18 (.load 1 false false) [.t 21],
 gf 23 18 (.bin .gtr) [.t 20,.t 22],
 ii 24 .pick [.t 18,.c (.p (.bool true)),.t 23],
 mv 25 24,
 gf 26 25 (.fad 2) [.t 3],
 gf 27 25 (.load 1 false false) [.t 26],
 gf 28 25 (.bin .gtr) [.t 27,cI 200],
 ii 29 .pick [.t 25,.c (.p (.bool true)),.t 28],
 mv 30 29,
 gf 31 30 (.fad 3) [.t 3],
 gf 32 30 (.load 1 false false) [.t 31],
 gf 33 30 .len [.t 32],
 gf 34 30 (.bin .gtr) [.t 33,cI 2],
 ii 35 .pick [.t 30,.c (.p (.bool true)),.t 34]]
 (.cond (.t 35)
 (.sr [mc 4 (.bool false)]
 .ret)
 .skip))
 (.sr [mc 5 (.int .i64 0)]
 (.seq
 (.sr [fa 36 3 3,
 ld 37 36,
 ii 38 .len [.t 37],
 ii 39 (.mov false) [cI 0]]
 (.block 0
 (.loop [0,1,4,7,8,9,10,11,12,13,14,15,16,17,18,19,20,21,22,23,24,25,26,27,28,29,30,31,32,33,34,35,36,40,41,42,43,44,45,46,47,48,49,50,51,52,53,54,55,56,57,58,59,60,61,62,63,64,65,66,67,68,69,70,71,72,73,74,75] [2]
 (.sr [b2 40 .lss 39 38]
 (.seq
 (.cond (.t 40)
 .skip
 (.exit 0))
 (.seq
 (.block 1
 (.seq
 (.gp (.reg [ii 41 (.iad 3) [.t 37,.t 39],
 ii 42 (.load 3 true false) [.t 41],
 ⟨some 7,none,.alloc 2 3 [Z0,Z0,Z0],[]⟩,
 ⟨none,none,.store 3,[.t 7,.t 42]⟩]) (.lay 2 3))
 (.seq
 (.sr [fa 43 0 7,
 ld 44 43,
 b1 45 .lss 44 (.int .i64 0),
 mv 46 45,
 gf 47 46 (.fad 0) [.t 7],
 gf 48 46 (.load 1 false false) [.t 47],
 gf 49 46 (.fad 4) [.t 2],
 gf 50 46 (.load 1 false false) [.t 49],
 gf 51 46 .len [.t 50],
 gf 52 46 (.bin .geq) [.t 48,.t 51],
 ii 53 .pick [.t 46,.c (.p (.bool true)),.t 52],
 mv 54 53,
 gf 55 54 (.fad 2) [.t 7],
 gf 56 54 (.load 1 false false) [.t 55],
 gf 57 54 (.call 126) [.t 56,cI 1,cI 200],
 gf 58 54 (.un .not) [.t 57],
 ii 59 .pick [.t 54,.c (.p (.bool true)),.t 58],
 mv 60 59,
 gf 61 60 (.fad 1) [.t 7],
 gf 62 60 (.load 1 false false) [.t 61],
 gf 63 60 (.mov false) [.t 5],
 gf 64 60 (.bin .leq) [.t 62,.t 63],
 ii 65 .pick [.t 60,.c (.p (.bool true)),.t 64],
 mv 66 65,
 gf 67 66 (.fad 1) [.t 7],
 gf 68 66 (.load 1 false false) [.t 67],
 gf 69 66 (.fad 0) [.t 3],
 gf 70 66 (.load 1 false false) [.t 69],
 gf 71 66 (.bin .geq) [.t 68,.t 70],
 ii 72 .pick [.t 66,.c (.p (.bool true)),.t 71]]
 (.cond (.t 72)
 (.sr [mc 4 (.bool false)]
 .ret)
 .skip))
 (.reg [fa 73 1 7,
 ld 74 73,
 mt 5 74]))))
 (.reg [b1 75 .add 39 (.int .i64 1),
 mv 39 75])))))))
 (.sr [mc 4 (.bool true)]
 .ret)))))⟩
theorem k81:aC Tryz.prog 81 F81=true:=by kernel_rfl
def RP:Fn:=⟨30,4,[.tmp 4],
 (.sr [ii 2 (.box 0 5) [.t 0],
 ii 3 (.box 1 2) [.t 1],
 mc 4 (.bool false)]
 (.sr [ii 8 (.mkmap 2) [],
 mt 5 8]
 (.seq
 (.sr [fa 9 1 3,
 ld 10 9,
 ii 11 .len [.t 10],
 ii 12 (.mov false) [cI 0]]
 (.block 0
 (.loop [0,1,3,4,7,8,9,13,14,15,16,17,18,19,20,21,22,23,24,25,26,27,28,29] [3]
 (.sr [b2 13 .lss 12 11]
 (.seq
 (.cond (.t 13)
 .skip
 (.exit 0))
 (.seq
 (.block 1
 (.seq
 (.gp (.reg [ii 14 (.iad 4) [.t 10,.t 12],
 ii 15 (.load 4 true false) [.t 14],
 ⟨some 7,none,.alloc 3 4 [Z0,Z0,Z0,Z0],[]⟩,
 ⟨none,none,.store 4,[.t 7,.t 15]⟩]) (.lay 3 4))
 (.seq
 (.sr [ii 16 (.load 5 true false) [.t 2],
 ii 17 (.load 4 true false) [.t 7],
 ii 18 (.call 242) [.t 16,.t 17],
 ii 19 (.un .not) [.t 18],
 mv 20 19,
 gf 21 20 (.mov false) [.t 5],
 gf 22 20 (.fad 0) [.t 7],
 gf 23 20 (.load 1 false false) [.t 22],
 gf 24 20 (.look .i64 (.bool false)) [.t 21,.t 23],
 ii 25 .pick [.t 20,.c (.p (.bool true)),.t 24]]
 (.cond (.t 25)
 (.sr [mc 4 (.bool false)]
 .ret)
 .skip))
 (.reg [mv 26 5,
 fa 27 0 7,
 ld 28 27,
 ⟨none,none,.mupd .i64,[.t 26,.t 28,.c (.p (.bool true))]⟩]))))
 (.reg [b1 29 .add 12 (.int .i64 1),
 mv 12 29])))))))
 (.sr [mc 4 (.bool true)]
 .ret))))⟩
theorem TL:aC Tryz.prog 218 RP=true:=by kernel_rfl
def SP:Fn:=⟨92,6,[.tmp 6],
 (.sr [ii 3 (.box 0 5) [.t 0],
 ii 4 (.box 1 4) [.t 1],
 ii 5 (.box 2 2) [.t 2],
 mc 6 (.bool false)]
 (.sr [fa 12 1 5,
 ld 13 12,
 ii 14 .len [.t 13],
 mt 7 14]
 (.seq
 (.sr [fa 15 3 4,
 ld 16 15,
 ii 17 .len [.t 16],
 b1 18 .gtr 17 (.int .i64 0),
 mv 19 18,
 gf 20 19 (.mov false) [.t 7],
 gf 21 19 (.bin .lss) [.t 20,cI 2],
 ii 22 .pick [.t 19,.c (.p (.bool true)),.t 21],
 mv 23 22,
 gf 24 23 (.fad 1) [.t 5],
 gf 25 23 (.load 1 false false) [.t 24],
 gf 26 23 (.iad 4) [.t 25,cI 0],
 gf 27 23 (.fad 1) [.t 26],
 gf 28 23 (.load 1 false false) [.t 27],
 gf 29 23 (.bin .neq) [.t 28,cI 0],
 ii 30 .pick [.t 23,.c (.p (.bool true)),.t 29]]
 (.cond (.t 30)
 (.sr [mc 6 (.bool false)]
 .ret)
 .skip))
 (.seq
 (.sr [mc 8 (.int .i64 1)]
 (.block 0
 (.loop [0,1,2,6,9,10,11,12,13,14,15,16,17,18,19,20,21,22,23,24,25,26,27,28,29,30,31,32,33,34,35,36,37,38,39,40,41,42,43,44,45,46,47,48,49,50,51,52,53,54,55,56,57,58,59,60,61,62,63,64,65,66,67,68,69,70,71,72,73,74,75,76,77,78,79,80,81,82,83,84,85,86,87,88,89,90,91] [3,4]
 (.seq
 (.sr [mv 31 8,
 mv 32 7,
 b2 33 .lss 31 32]
 (.cond (.t 33)
 .skip
 (.exit 0)))
 (.seq
 (.block 1
 (.seq
 (.gp (.gp (.pre [9,10,47,49,51,59] [] [3,4] (.rega [fa 36 1 5,
 ii 37 (.at 2 (.load 1 false false)) [.t 36],
 mv 38 8,
 b1 39 .sub 38 (.int .i64 1),
 ii 40 (.iad 4) [.t 37,.t 39],
 ii 41 (.loadp 4 true) [.t 40],
 fa 42 1 5,
 ii 43 (.at 2 (.load 1 false false)) [.t 42],
 mv 44 8,
 ii 45 (.iad 4) [.t 43,.t 44],
 ii 46 (.loadp 4 true) [.t 45],
 ⟨some 9,none,.alloc 3 4 [Z0,Z0,Z0,Z0],[]⟩,
 ⟨some 10,none,.alloc 4 4 [Z0,Z0,Z0,Z0],[]⟩,
 ⟨none,none,.at 3 (.store 4),[.t 9,.t 41]⟩,
 ⟨none,none,.at 4 (.store 4),[.t 10,.t 46]⟩])) (.lay 3 4)) (.lay 4 4))
 (.sr [fa 47 1 10,
 ld 48 47,
 fa 49 1 9,
 ld 50 49,
 fa 51 2 9,
 ld 52 51,
 b2 53 .add 50 52,
 fa 54 2 3,
 ld 55 54,
 b2 56 .add 53 55,
 b2 57 .lss 48 56,
 mv 58 57,
 gf 59 58 (.fad 3) [.t 10],
 gf 60 58 (.load 1 false false) [.t 59],
 gf 61 58 (.fad 3) [.t 3],
 gf 62 58 (.load 1 false false) [.t 61],
 gf 63 58 (.bin .leq) [.t 60,.t 62],
 ii 64 .pick [.t 58,.c (.p (.bool true)),.t 63]]
 (.cond (.t 64)
 (.sr [mc 6 (.bool false)]
 .ret)
 .skip))))
 (.reg [mv 34 8,
 b1 35 .add 34 (.int .i64 1),
 mt 8 35]))))))
 (.seq
 (.gp (.reg [fa 65 1 5,
 ld 66 65,
 mv 67 7,
 b1 68 .sub 67 (.int .i64 1),
 ii 69 (.iad 4) [.t 66,.t 68],
 ii 70 (.load 4 true false) [.t 69],
 ⟨some 11,none,.alloc 5 4 [Z0,Z0,Z0,Z0],[]⟩,
 ⟨none,none,.store 4,[.t 11,.t 70]⟩]) (.lay 5 4))
 (.seq
 (.regd [fa 71 1 11,
 ii 72 (.at 5 (.load 1 false false)) [.t 71],
 fa 73 2 11,
 ii 74 (.at 5 (.load 1 false false)) [.t 73],
 b2 75 .add 72 74,
 fa 76 1 4,
 ii 77 (.at 1 (.load 1 false false)) [.t 76],
 b2 78 .leq 75 77,
 mv 79 78,
 gt 80 79 (.at 2 (.load 2 true false)) [.t 5],
 gt 81 79 (.pl (.call 186)) [.t 80],
 gt 82 79 (.fad 0) [.t 4],
 gt 83 79 (.at 1 (.load 1 false false)) [.t 82],
 gt 84 79 (.mov false) [.t 7],
 gt 85 79 (.bin .sub) [.t 84,cI 1],
 gt 86 79 (.fad 3) [.t 3],
 gt 87 79 (.at 0 (.load 1 false false)) [.t 86],
 gt 88 79 (.bin .mul) [.t 85,.t 87],
 gt 89 79 (.bin .add) [.t 83,.t 88],
 gt 90 79 (.bin .eql) [.t 81,.t 89],
 ii 91 .pick [.t 79,.t 90,.c (.p (.bool false))],
 mt 6 91])
 .ret))))))⟩
theorem XW:aC Tryz.prog 219 SP=true:=by kernel_rfl
def F83:Fn:=⟨65,3,[.tmp 8,.tmp 9],
 (.sr [ii 4 (.box 0 5) [.t 0],
 ii 5 (.box 1 4) [.t 1],
 ii 8 (.mov true) [.c (.ow 4 true [])],
 mc 9 (.bool false)]
 (.sr [ii 10 (.mov true) [.c (.ow 4 true [])]]
 (.sr [fa 16 0 5,
 ld 17 16,
 mt 11 17]
 (.seq
 (.sr [mv 18 3,
 ii 19 .len [.t 18],
 ii 20 (.mov false) [cI 0]]
 (.block 0
 (.loop [0,1,3,5,8,9,12,13,14,15,16,17,21,22,23,24,25,26,27,28,29,30,31,32,33,34,35,36,37,38,39,40,41,42,43,44,45,46,47,48,49,50,51,52,53,54,55,56,57,58,59,60,61,62,63,64] [2]
 (.sr [b2 21 .lss 20 19]
 (.seq
 (.cond (.t 21)
 .skip
 (.exit 0))
 (.seq
 (.block 1
 (.seq
 (.gp (.reg [mv 22 20,
 ii 23 (.iad 2) [.t 18,.t 20],
 ii 24 (.load 2 true false) [.t 23],
 ⟨some 13,none,.alloc 2 2 [Z0,Z0],[]⟩,
 mt 12 22,
 ⟨none,none,.store 2,[.t 13,.t 24]⟩]) (.lay 2 2))
 (.seq
 (.sr [mv 25 11,
 b1 26 .eql 25 (.int .i64 0)]
 (.cond (.t 26)
 (.exit 0)
 .skip))
 (.sr [fa 27 3 4,
 ld 28 27,
 mt 14 28]
 (.seq
 (.sr [mv 29 12,
 b1 30 .eql 29 (.int .i64 0)]
 (.cond (.t 30)
 (.reg [mc 14 (.int .i64 0)])
 .skip))
 (.sr [fa 31 1 13,
 ld 32 31,
 mv 33 14,
 b2 34 .sub 32 33,
 mv 35 11,
 ii 36 .mn [.t 34,.t 35],
 mt 15 36]
 (.sr [mt 37 10,
 fa 38 0 13,
 ld 39 38,
 mv 40 12,
 mv 41 2,
 fa 42 2 4,
 ld 43 42,
 b2 44 .add 41 43,
 b2 45 .mul 40 44,
 mv 46 2,
 mv 47 14,
 mv 48 15,
 b2 49 .add 47 48,
 ⟨some 50,none,.build [.int .i64 0,.int .i64 0,.int .i64 0,.int .i64 0] [(0,1),(1,1),(2,1),(3,1)],[.t 39,.t 45,.t 46,.t 49]⟩,
 ii 51 (.bsl 4 1) [.t 50],
 ii 52 (.app 4 32) [.t 37,.t 51],
 mt 10 52]
 (.reg [mv 53 11,
 mv 54 15,
 b2 55 .sub 53 54,
 mt 11 55]))))))))
 (.reg [b1 56 .add 20 (.int .i64 1),
 mv 20 56])))))))
 (.sr [mv 57 10,
 mv 58 11,
 b1 59 .eql 58 (.int .i64 0),
 mv 60 59,
 gt 61 60 (.mov false) [.t 10],
 gt 62 60 .len [.t 61],
 gt 63 60 (.bin .gtr) [.t 62,cI 1],
 ii 64 .pick [.t 60,.t 63,.c (.p (.bool false))],
 mt 8 57,
 mt 9 64]
 .ret)))))⟩
theorem k83:aC Tryz.prog 83 F83=true:=by kernel_rfl
def ZY:Fn:=⟨51,3,[.tmp 10],
 (.sr [ii 5 (.box 0 5) [.t 0],
 ii 7 (.box 1 4) [.t 2],
 ii 10 (.mov true) [.c (.ow 2 true [])]]
 (.sr [ii 11 (.mov true) [.c (.ow 2 true [])]]
 (.seq
 (.sr [mv 15 1,
 ii 16 .len [.t 15],
 ii 17 (.mov false) [cI 0]]
 (.block 0
 (.loop [0,1,2,10,12,13,14,18,19,20,21,22,23,24,25,26,27,28,29,30,31,32,33,34,35,36,37,38,39,40,41,42,43,44,45,46,47,48,49,50] []
 (.sr [b2 18 .lss 17 16]
 (.seq
 (.cond (.t 18)
 .skip
 (.exit 0))
 (.seq
 (.block 1
 (.sr [mv 19 17,
 ii 20 (.iad 1) [.t 15,.t 17],
 ld 21 20,
 mt 12 19,
 mt 13 21]
 (.sr [mv 22 13,
 mv 23 4,
 fa 24 2 7,
 ld 25 24,
 mv 26 4,
 ii 27 (.call 130) [.t 22,.t 23,.t 25,.t 26],
 mt 14 27]
 (.sr [mv 28 14,
 fa 29 3 5,
 ld 30 29,
 b2 31 .gtr 28 30]
 (.cond (.t 31)
 (.reg [mt 32 11,
 mv 33 12,
 mv 34 14,
 ⟨some 35,none,.build [.int .i64 0,.int .i64 0] [(0,1),(1,1)],[.t 33,.t 34]⟩,
 ii 36 (.bsl 2 1) [.t 35],
 ii 37 (.app 2 16) [.t 32,.t 36],
 mt 11 37])
 .skip)))))
 (.reg [b1 38 .add 17 (.int .i64 1),
 mv 17 38])))))))
 (.seq
 (.sr [mv 39 11,
 ii 40 .len [.t 39],
 mv 41 3,
 b2 42 .lss 40 41]
 (.cond (.t 42)
 (.sr [ii 10 (.mov true) [.c (.ow 2 true [])]]
 .ret)
 .skip))
 (.seq
 (.pre [0,1,2,4,5,7,10,12,13,14,15,16,17,18,19,20,21,22,23,24,25,26,27,28,29,30,31,32,33,34,35,36,37,38,39,40,41,42,43,44,45,46,47,48,49,50] [] [0,1] (.own 11 2 true (.reg [mv 43 11,
 ii 44 (.callm 131 2) [.t 43,.c (.p (.fn 132 []))]])))
 (.sr [mv 45 11,
 mv 46 3,
 ii 47 (.slb 2 2) [.t 45,.t 46],
 mt 11 47]
 (.sr [mv 48 11,
 ii 49 (.callm 133 2) [.t 48,.c (.p (.fn 134 []))]]
 (.sr [mv 50 11,
 mt 10 50]
 (.pre [] [2] [] .ret)))))))))⟩
theorem k84:aC Tryz.prog 84 ZY=true:=by kernel_rfl
def QV:Fn:=⟨18,0,[.tmp 4],
 (.sr [mc 4 (.int .i64 0)]
 (.seq
 (.sr [mv 6 1,
 b1 7 .leq 6 (.int .i64 0)]
 (.cond (.t 7)
 (.sr [mc 4 (.int .i64 0)]
 .ret)
 .skip))
 (.sr [mv 8 0,
 mv 9 1,
 b2 10 .quo 8 9,
 mt 5 10]
 (.seq
 (.sr [mv 11 0,
 mv 12 1,
 b2 13 .rem 11 12,
 b1 14 .lss 13 (.int .i64 0)]
 (.cond (.t 14)
 (.reg [mv 15 5,
 b1 16 .sub 15 (.int .i64 1),
 mt 5 16])
 .skip))
 (.sr [mv 17 5,
 mt 4 17]
 .ret)))))⟩
theorem Q0:aC Tryz.prog 129 QV=true:=by kernel_rfl
def ZM:Fn:=⟨77,3,[.cell 10 2,.tmp 11],
 (.sr [ii 5 (.box 0 5) [.t 0],
 ii 7 (.box 1 4) [.t 2],
 ⟨some 10,none,.alloc 2 2 [Z0,.ow 4 true []],[]⟩,
 mc 11 (.bool false)]
 (.seq
 (.regd [mv 15 1,
 mv 16 3,
 ii 17 (.iad 1) [.t 15,.t 16],
 ii 18 (.loadp 1 false) [.t 17],
 fa 19 2 7,
 ii 20 (.at 1 (.load 1 false false)) [.t 19],
 fa 21 0 7,
 ii 22 (.at 1 (.load 1 false false)) [.t 21],
 b1 23 .sub 22 (.int .i64 1),
 ii 24 (.pl (.call 135)) [.t 18,.t 20,.t 23],
 mt 12 24])
 (.seq
 (.regd [fa 25 0 7,
 ii 26 (.at 1 (.load 1 false false)) [.t 25],
 mv 27 12,
 b2 28 .sub 26 27,
 fa 29 3 5,
 ii 30 (.at 0 (.load 1 false false)) [.t 29],
 b2 31 .add 28 30,
 fa 32 1 7,
 ii 33 (.at 1 (.load 1 false false)) [.t 32],
 mv 34 12,
 b2 35 .sub 33 34,
 fa 36 2 5,
 ii 37 (.at 0 (.load 1 false false)) [.t 36],
 b2 38 .sub 35 37,
 mt 13 31,
 mt 14 38])
 (.seq
 (.seq
 (.regd [mv 39 12,
 b1 40 .lss 39 (.int .i64 1),
 mv 41 40,
 gf 42 41 (.mov false) [.t 13],
 gf 43 41 (.mov false) [.t 14],
 gf 44 41 (.bin .gtr) [.t 42,.t 43],
 ii 45 .pick [.t 41,.c (.p (.bool true)),.t 44],
 mv 46 45,
 gf 47 46 (.mov false) [.t 1],
 gf 48 46 (.mov false) [.t 4],
 gf 49 46 (.iad 1) [.t 47,.t 48],
 gf 50 46 (.loadp 1 false) [.t 49],
 gf 51 46 (.pl (.call 137)) [.t 50],
 gf 52 46 (.mov false) [.t 13],
 gf 53 46 (.mov false) [.t 14],
 gf 54 46 (.fad 2) [.t 7],
 gf 55 46 (.at 1 (.load 1 false false)) [.t 54],
 ⟨some 56,(some (46,false)),.build [.int .i64 0,.int .i64 0,.int .i64 0] [(0,1),(1,1),(2,1)],[.t 52,.t 53,.t 55]⟩,
 gf 57 46 (.bsl 3 1) [.t 56],
 gf 58 46 (.pl (.app 3 24)) [.t 51,.t 57],
 gf 59 46 (.pl (.call 136)) [.t 58],
 gf 60 46 (.un .not) [.t 59],
 ii 61 .pick [.t 46,.c (.p (.bool true)),.t 60]])
 (.cond (.t 61)
 (.seq
 (.gp (.reg [⟨some 62,none,.build [.int .i64 0,.sl 4 true []] [],[]⟩,
 ⟨none,none,.store 2,[.t 10,.t 62]⟩,
 mc 11 (.bool false)]) (.lay 2 2))
 .ret)
 .skip))
 (.seq
 (.gp (.reg [mv 63 3,
 mv 64 12,
 mv 65 12,
 ⟨some 66,none,.build [.int .i64 0,.int .i64 0,.int .i64 0,.int .i64 0] [(0,1),(2,1),(3,1)],[.t 63,.t 64,.t 65]⟩,
 mv 67 4,
 mv 68 12,
 fa 69 2 5,
 ld 70 69,
 b2 71 .add 68 70,
 mv 72 14,
 mv 73 13,
 ⟨some 74,none,.build [.int .i64 0,.int .i64 0,.int .i64 0,.int .i64 0] [(0,1),(1,1),(2,1),(3,1)],[.t 67,.t 71,.t 72,.t 73]⟩,
 ii 75 (.bsl 4 2) [.t 66,.t 74],
 ⟨some 76,none,.build [.int .i64 0,.sl 4 true []] [(0,1),(1,1)],[cI 3,.t 75]⟩,
 ⟨none,none,.store 2,[.t 10,.t 76]⟩,
 mc 11 (.bool true)]) (.lay 2 2))
 .ret)))))⟩
theorem k85:aC Tryz.prog 85 ZM=true:=by kernel_rfl
def ZL:Fn:=⟨61,0,[.tmp 2,.tmp 3],
 (.sr [mc 2 (.int .i64 0),
 mc 3 (.bool false)]
 (.sr [mv 10 0,
 ii 11 (.call 167) [.t 10],
 mv 9 11,
 ii 12 (.ext 0) [.t 9],
 ii 13 (.ext 1) [.t 9],
 mt 4 12,
 mt 5 13]
 (.sr [mc 6 (.int .i64 0)]
 (.seq
 (.sr [mc 7 (.int .i64 1)]
 (.block 0
 (.loop [2,3,8,9,10,11,12,13,14,15,16,17,18,19,20,21,22,23,24,25,26,27,28,29,30,31,32,33,34,35,36,37,38,39,40,41,42,43,44,45,46,47,48,49,50,51,52,53,54,55,56,57,58,59,60] []
 (.seq
 (.sr [mv 14 7,
 mv 15 4,
 b2 16 .leq 14 15]
 (.cond (.t 16)
 .skip
 (.exit 0)))
 (.seq
 (.block 1
 (.seq
 (.sr [mc 8 (.int .i64 0)]
 (.block 2
 (.loop [2,3,9,10,11,12,13,14,15,16,17,18,19,20,21,22,23,24,25,26,27,28,29,30,31,32,33,34,35,36,37,38,39,40,41,42,43,44,45,46,47,48,49,50,51,52,53,54,55,56,57,58,59,60] []
 (.seq
 (.sr [mv 19 8,
 mv 20 0,
 ii 21 .len [.t 20],
 b2 22 .lss 19 21]
 (.cond (.t 22)
 .skip
 (.exit 2)))
 (.seq
 (.block 3
 (.seq
 (.regd [mv 25 7,
 mv 26 0,
 mv 27 8,
 ii 28 (.iad 3) [.t 26,.t 27],
 fa 29 1 28,
 ii 30 (.loadp 1 false) [.t 29],
 b2 31 .geq 25 30,
 mv 32 31,
 gt 33 32 (.mov false) [.t 7],
 gt 34 32 (.mov false) [.t 0],
 gt 35 32 (.mov false) [.t 8],
 gt 36 32 (.iad 3) [.t 34,.t 35],
 gt 37 32 (.fad 1) [.t 36],
 gt 38 32 (.loadp 1 false) [.t 37],
 gt 39 32 (.bin .sub) [.t 33,.t 38],
 gt 40 32 (.mov false) [.t 0],
 gt 41 32 (.mov false) [.t 8],
 gt 42 32 (.iad 3) [.t 40,.t 41],
 gt 43 32 (.fad 2) [.t 42],
 gt 44 32 (.loadp 1 false) [.t 43],
 gt 45 32 (.bin .rem) [.t 39,.t 44],
 gt 46 32 (.bin .eql) [.t 45,cI 0],
 ii 47 .pick [.t 32,.t 46,.c (.p (.bool false))]])
 (.cond (.t 47)
 (.reg [mv 48 6,
 mv 49 0,
 mv 50 8,
 ii 51 (.iad 3) [.t 49,.t 50],
 fa 52 0 51,
 ld 53 52,
 b2 54 .add 48 53,
 mt 6 54])
 .skip)))
 (.reg [mv 23 8,
 b1 24 .add 23 (.int .i64 1),
 mt 8 24]))))))
 (.sr [mv 55 6,
 mv 56 7,
 b2 57 .gtr 55 56]
 (.cond (.t 57)
 (.sr [mv 58 7,
 mv 59 5,
 mt 2 58,
 mt 3 59]
 .ret)
 .skip))))
 (.reg [mv 17 7,
 b1 18 .add 17 (.int .i64 1),
 mt 7 18]))))))
 (.sr [mv 60 5,
 mc 2 (.int .i64 0),
 mt 3 60]
 .ret)))))⟩
theorem V5:aC Tryz.prog 125 ZL=true:=by kernel_rfl
def RL:Fn:=⟨26,0,[.tmp 4],
 (.sr [mc 4 (.bool false)]
 (.seq
 (.sr [mv 6 0,
 ii 7 .len [.t 6],
 mv 8 1,
 ii 9 .len [.t 8],
 b2 10 .neq 7 9]
 (.cond (.t 10)
 (.sr [mc 4 (.bool false)]
 .ret)
 .skip))
 (.seq
 (.sr [mv 11 0,
 ii 12 .len [.t 11],
 ii 13 (.mov false) [cI 0]]
 (.block 0
 (.loop [4,5,6,7,8,9,10,11,14,15,16,17,18,19,20,21,22,23,24,25] []
 (.sr [b2 14 .lss 13 12]
 (.seq
 (.cond (.t 14)
 .skip
 (.exit 0))
 (.seq
 (.block 1
 (.sr [mv 15 13,
 mt 5 15]
 (.seq
 (.regd [mv 16 0,
 mv 17 5,
 ii 18 (.iad 4) [.t 16,.t 17],
 ii 19 (.loadp 4 true) [.t 18],
 mv 20 1,
 mv 21 5,
 ii 22 (.iad 4) [.t 20,.t 21],
 ii 23 (.loadp 4 true) [.t 22],
 ii 24 (.eqs 4 true) [.t 19,.t 23]])
 (.cond (.t 24)
 (.sr [mc 4 (.bool false)]
 .ret)
 .skip))))
 (.reg [b1 25 .add 13 (.int .i64 1),
 mv 13 25])))))))
 (.sr [mc 4 (.bool true)]
 .ret))))⟩
theorem U5:aC Tryz.prog 220 RL=true:=by kernel_rfl
open Go.RowKit
def PP:Fn:=⟨83,4,[.tmp 0],
 (.sr [mc 0 (.bool false)]
 (.seq
 (.gp (.reg [ii 6 (.bsl 1 1) [cI 0],
 ⟨some 7,none,.build [.int .i64 0,.int .i64 0,.int .i64 0,.int .i64 0,.sl 1 true []] [(0,1),(1,1),(2,1),(4,1)],[cI 2,cI 1,cI 1,.t 6]⟩,
 ⟨some 1,none,.alloc 0 5 [Z0,Z0,Z0,Z0,.ow 1 true []],[]⟩,
 ⟨none,none,.store 5,[.t 1,.t 7]⟩]) (.lay 0 5))
 (.seq
 (.gp (.reg [⟨some 8,none,.build [.int .i64 0,.int .i64 0,.int .i64 0] [(1,1),(2,1)],[cI 1,cI 2]⟩,
 ii 9 (.bsl 3 1) [.t 8],
 ⟨some 10,none,.build [.int .i64 0,.int .i64 0,.int .i64 0,.sl 3 true []] [(0,1),(1,1),(2,1),(3,1)],[cI 3,cI 20,cI 20,.t 9]⟩,
 ⟨some 2,none,.alloc 1 4 [Z0,Z0,Z0,.ow 3 true []],[]⟩,
 ⟨none,none,.store 4,[.t 2,.t 10]⟩]) (.lay 1 4))
 (.seq
 (.gp (.reg [⟨some 11,none,.build [.int .i64 0,.int .i64 0,.int .i64 0] [(1,1),(2,1)],[cI 1,cI 4]⟩,
 ii 12 (.bsl 3 1) [.t 11],
 ⟨some 13,none,.build [.int .i64 0,.int .i64 0,.int .i64 0,.sl 3 true []] [(0,1),(1,1),(2,1),(3,1)],[cI 3,cI 20,cI 30,.t 12]⟩,
 ⟨some 3,none,.alloc 2 4 [Z0,Z0,Z0,.ow 3 true []],[]⟩,
 ⟨none,none,.store 4,[.t 3,.t 13]⟩]) (.lay 2 4))
 (.seq
 (.gp (.reg [⟨some 14,none,.build [.int .i64 0,.int .i64 0,.int .i64 0,.int .i64 0] [(0,1),(2,1),(3,1)],[cI 1,cI 20,cI 3]⟩,
 ii 15 (.bsl 4 1) [.t 14],
 ⟨some 16,none,.build [.int .i64 0,.sl 4 true []] [(0,1),(1,1)],[cI 1,.t 15]⟩,
 ⟨some 4,none,.alloc 3 2 [Z0,.ow 4 true []],[]⟩,
 ⟨none,none,.store 2,[.t 4,.t 16]⟩]) (.lay 3 2))
 (.sr [ii 17 (.load 5 true false) [.t 1],
 ii 18 (.load 4 true false) [.t 2],
 ii 19 (.load 4 true false) [.t 3],
 ii 20 (.bsl 4 2) [.t 18,.t 19],
 ii 21 (.load 2 true false) [.t 4],
 ii 22 (.load 2 true false) [.t 4],
 ii 23 (.bsl 2 2) [.t 21,.t 22],
 ii 24 (.call 154) [.t 17,.t 20,.t 23],
 mt 5 24]
 (.sr [ii 25 (.call 240) [],
 mv 26 25,
 gt 27 26 (.load 5 true false) [.t 1],
 gt 28 26 (.load 4 true false) [.t 3],
 gt 29 26 (.call 188) [.t 27,.t 28,cI 0],
 gt 30 26 (.bin .eql) [.t 29,cI 4],
 ii 31 .pick [.t 26,.t 30,.c (.p (.bool false))],
 mv 32 31,
 gt 33 32 (.load 5 true false) [.t 1],
 gt 34 32 (.load 4 true false) [.t 2],
 gt 35 32 (.load 4 true false) [.t 3],
 gt 36 32 (.bsl 4 2) [.t 34,.t 35],
 gt 37 32 (.call 158) [.t 33,.t 36,cI 0,cI 0],
 gt 38 32 (.bin .eql) [.t 37,cI 8],
 ii 39 .pick [.t 32,.t 38,.c (.p (.bool false))],
 mv 40 39,
 gt 41 40 (.load 5 true false) [.t 1],
 gt 42 40 (.load 4 true false) [.t 2],
 gt 43 40 (.load 4 true false) [.t 3],
 gt 44 40 (.bsl 4 2) [.t 42,.t 43],
 gt 45 40 (.call 149) [.t 41,.t 44,cI 1],
 gt 46 40 (.bin .eql) [.t 45,cI 8],
 ii 47 .pick [.t 40,.t 46,.c (.p (.bool false))],
 mv 48 47,
 gt 49 48 (.mov false) [.t 5],
 gt 50 48 .len [.t 49],
 gt 51 48 (.bin .eql) [.t 50,cI 2],
 ii 52 .pick [.t 48,.t 51,.c (.p (.bool false))],
 mv 53 52,
 gt 54 53 (.mov false) [.t 5],
 gt 55 53 (.iad 1) [.t 54,cI 0],
 gt 56 53 (.load 1 false false) [.t 55],
 gt 57 53 .len [.t 56],
 gt 58 53 (.bin .eql) [.t 57,cI 0],
 ii 59 .pick [.t 53,.t 58,.c (.p (.bool false))],
 mv 60 59,
 gt 61 60 (.mov false) [.t 5],
 gt 62 60 (.iad 1) [.t 61,cI 1],
 gt 63 60 (.load 1 false false) [.t 62],
 gt 64 60 .len [.t 63],
 gt 65 60 (.bin .eql) [.t 64,cI 2],
 ii 66 .pick [.t 60,.t 65,.c (.p (.bool false))],
 mv 67 66,
 gt 68 67 (.mov false) [.t 5],
 gt 69 67 (.iad 1) [.t 68,cI 1],
 gt 70 67 (.load 1 false false) [.t 69],
 gt 71 67 (.iad 3) [.t 70,cI 0],
 gt 72 67 (.fad 0) [.t 71],
 gt 73 67 (.load 1 false false) [.t 72],
 gt 74 67 (.bin .eql) [.t 73,cI 11],
 ii 75 .pick [.t 67,.t 74,.c (.p (.bool false))],
 mv 76 75,
 gt 77 76 (.mov false) [.t 5],
 gt 78 76 (.iad 1) [.t 77,cI 1],
 gt 79 76 (.load 1 false false) [.t 78],
 gt 80 76 (.call 241) [.t 79],
 gt 81 76 (.bin .eql) [.t 80,cI 9167],
 ii 82 .pick [.t 76,.t 81,.c (.p (.bool false))],
 mt 0 82]
 .ret)))))))⟩
theorem VW:aC Tryz.prog 217 PP=true:=by kernel_rfl
def F77:Fn:=⟨15,0,[.tmp 6],
 (.sr [mc 6 (.bool false)]
 (.sr [mv 7 0,
 mv 8 1,
 b2 9 .geq 7 8,
 mv 10 9,
 gt 11 10 (.mov false) [.t 0],
 gt 12 10 (.mov false) [.t 2],
 gt 13 10 (.bin .leq) [.t 11,.t 12],
 ii 14 .pick [.t 10,.t 13,.c (.p (.bool false))],
 mt 6 14]
 .ret))⟩
theorem k77:aC Tryz.prog 77 F77=true:=by kernel_rfl
def QD:Fn:=⟨22,0,[.tmp 2,.tmp 3],
 (.sr [mc 2 (.int .i64 0),
 mc 3 (.bool false)]
 (.seq
 (.sr [mv 6 0,
 ii 7 (.call 209) [.t 6],
 ii 8 (.un .not) [.t 7]]
 (.cond (.t 8)
 (.sr [mc 2 (.int .i64 0),
 mc 3 (.bool false)]
 .ret)
 .skip))
 (.seq
 (.sr [mv 9 0,
 ii 10 .len [.t 9],
 b1 11 .eql 10 (.int .i64 0)]
 (.cond (.t 11)
 (.sr [mc 2 (.int .i64 0),
 mc 3 (.bool true)]
 .ret)
 .skip))
 (.seq
 (.sr [mc 4 (.int .i64 1)]
 (.block 0
 (.loop [2,3,5,6,7,8,9,10,11,12,13,14,15,16,17,18,19,20,21] []
 (.seq
 (.sr [mv 12 4,
 b1 13 .leq 12 (.int .i64 20000)]
 (.cond (.t 13)
 .skip
 (.exit 0)))
 (.block 1
 (.sr [mv 14 0,
 mv 15 4,
 ii 16 (.call 210) [.t 14,.t 15],
 mt 5 16]
 (.seq
 (.sr [mv 17 5,
 mv 18 4,
 b2 19 .eql 17 18]
 (.cond (.t 19)
 (.sr [mv 20 4,
 mt 2 20,
 mc 3 (.bool true)]
 .ret)
 .skip))
 (.reg [mv 21 5,
 mt 4 21]))))))))
 (.sr [mc 2 (.int .i64 0),
 mc 3 (.bool false)]
 .ret)))))⟩
theorem J7:aC Tryz.prog 174 QD=true:=by kernel_rfl
def T5:Fn:=⟨45,1,[.tmp 2,.tmp 3],
 (.sr [mc 2 (.int .i64 0),
 mc 3 (.bool false)]
 (.sr [mv 11 0,
 ii 12 (.call 174) [.t 11],
 mv 10 12,
 ii 13 (.ext 0) [.t 10],
 ii 14 (.ext 1) [.t 10],
 mt 4 13,
 mt 5 14]
 (.seq
 (.sr [mv 15 5,
 ii 16 (.un .not) [.t 15]]
 (.cond (.t 16)
 (.sr [mc 2 (.int .i64 0),
 mc 3 (.bool false)]
 .ret)
 .skip))
 (.sr [mv 17 4,
 b1 18 .add 17 (.int .i64 1),
 mt 6 18]
 (.seq
 (.sr [mv 19 0,
 ii 20 .len [.t 19],
 ii 21 (.mov false) [cI 0]]
 (.block 0
 (.loop [2,3,5,8,9,10,11,12,13,14,15,16,17,18,22,23,24,25,26,27,28,29,30,31,32,33,34,35,36,37,38,39,40,41,42,43,44] [0]
 (.sr [b2 22 .lss 21 20]
 (.seq
 (.cond (.t 22)
 .skip
 (.exit 0))
 (.seq
 (.block 1
 (.seq
 (.gp (.reg [ii 23 (.iad 3) [.t 19,.t 21],
 ii 24 (.load 3 true false) [.t 23],
 ⟨some 8,none,.alloc 0 3 [Z0,Z0,Z0],[]⟩,
 ⟨none,none,.store 3,[.t 8,.t 24]⟩]) (.lay 0 3))
 (.sr [fa 25 1 8,
 ld 26 25,
 mt 9 26]
 (.block 2
 (.loop [2,3,5,10,11,12,13,14,15,16,17,18,22,23,24,25,26,27,28,29,30,31,32,33,34,35,36,37,38,39,40,41,42,43,44] []
 (.seq
 (.sr [mv 27 9,
 mv 28 6,
 b2 29 .lss 27 28]
 (.cond (.t 29)
 .skip
 (.exit 2)))
 (.seq
 (.block 3
 (.sr [mv 34 0,
 mv 35 9,
 ii 36 (.call 211) [.t 34,.t 35],
 mv 37 9,
 b2 38 .gtr 36 37]
 (.cond (.t 38)
 (.reg [mv 39 9,
 mt 6 39])
 .skip)))
 (.reg [mv 30 9,
 fa 31 2 8,
 ld 32 31,
 b2 33 .add 30 32,
 mt 9 33]))))))))
 (.reg [b1 40 .add 21 (.int .i64 1),
 mv 21 40])))))))
 (.seq
 (.sr [mv 41 6,
 mv 42 4,
 b2 43 .gtr 41 42]
 (.cond (.t 43)
 (.sr [mc 2 (.int .i64 0),
 mc 3 (.bool false)]
 .ret)
 .skip))
 (.sr [mv 44 6,
 mt 2 44,
 mc 3 (.bool true)]
 .ret)))))))⟩
theorem LA:aC Tryz.prog 175 T5=true:=by kernel_rfl
def QN:Fn:=⟨15,0,[.tmp 6],
 (.sr [mc 6 (.bool false)]
 (.sr [mv 7 0,
 mv 8 1,
 b2 9 .geq 7 8,
 mv 10 9,
 gt 11 10 (.mov false) [.t 0],
 gt 12 10 (.mov false) [.t 2],
 gt 13 10 (.bin .leq) [.t 11,.t 12],
 ii 14 .pick [.t 10,.t 13,.c (.p (.bool false))],
 mt 6 14]
 .ret))⟩
theorem S2:aC Tryz.prog 126 QN=true:=by kernel_rfl
def RR:Fn:=⟨12,0,[.tmp 3],
 (.sr [mc 3 (.bool false)]
 (.sr [mv 4 0,
 b1 5 .lss 4 (.int .i64 0),
 mv 6 5,
 gf 7 6 (.mov false) [.t 0],
 gf 8 6 (.fad 1) [.t 1],
 gf 9 6 (.load 1 false false) [.t 8],
 gf 10 6 (.bin .geq) [.t 7,.t 9],
 ii 11 .pick [.t 6,.c (.p (.bool true)),.t 10],
 mt 3 11]
 .ret))⟩
theorem VT:aC Tryz.prog 127 RR=true:=by kernel_rfl
def PZ:Fn:=⟨9,0,[.tmp 4],
 (.sr [mc 4 (.bool false)]
 (.sr [mv 5 0,
 mv 6 1,
 ii 7 (.call 168) [.t 5,.t 6],
 b1 8 .geq 7 (.int .i64 0),
 mt 4 8]
 .ret))⟩
theorem VF:aC Tryz.prog 128 PZ=true:=by kernel_rfl
def R0:Fn:=⟨47,2,[.tmp 4],
 (.sr [ii 2 (.box 0 5) [.t 0],
 ii 3 (.box 1 4) [.t 1],
 mc 4 (.bool false)]
 (.sr [fa 6 0 3,
 ld 7 6,
 b1 8 .geq 7 (.int .i64 0),
 mv 9 8,
 gt 10 9 (.fad 0) [.t 3],
 gt 11 9 (.load 1 false false) [.t 10],
 gt 12 9 (.fad 0) [.t 2],
 gt 13 9 (.load 1 false false) [.t 12],
 gt 14 9 (.bin .lss) [.t 11,.t 13],
 ii 15 .pick [.t 9,.t 14,.c (.p (.bool false))],
 mv 16 15,
 gt 17 16 (.fad 1) [.t 3],
 gt 18 16 (.load 1 false false) [.t 17],
 gt 19 16 (.call 126) [.t 18,cI 0,cI 200],
 ii 20 .pick [.t 16,.t 19,.c (.p (.bool false))],
 mt 5 20]
 (.sr [mv 21 5,
 mv 22 21,
 gt 23 22 (.fad 3) [.t 3],
 gt 24 22 (.load 1 false false) [.t 23],
 gt 25 22 (.bin .geq) [.t 24,cI 1],
 ii 26 .pick [.t 22,.t 25,.c (.p (.bool false))],
 mv 27 26,
 gt 28 27 (.fad 3) [.t 3],
 gt 29 27 (.load 1 false false) [.t 28],
 gt 30 27 (.fad 2) [.t 3],
 gt 31 27 (.load 1 false false) [.t 30],
 gt 32 27 (.bin .leq) [.t 29,.t 31],
 ii 33 .pick [.t 27,.t 32,.c (.p (.bool false))],
 mv 34 33,
 gt 35 34 (.fad 2) [.t 3],
 gt 36 34 (.load 1 false false) [.t 35],
 gt 37 34 (.bin .leq) [.t 36,cI 200],
 ii 38 .pick [.t 34,.t 37,.c (.p (.bool false))],
 mv 39 38,
 gt 40 39 (.fad 1) [.t 3],
 gt 41 39 (.load 1 false false) [.t 40],
 gt 42 39 (.fad 2) [.t 3],
 gt 43 39 (.load 1 false false) [.t 42],
 gt 44 39 (.bin .add) [.t 41,.t 43],
 gt 45 39 (.bin .leq) [.t 44,cI 200],
 ii 46 .pick [.t 39,.t 45,.c (.p (.bool false))],
 mt 4 46]
 .ret)))⟩
theorem UP:aC Tryz.prog 242 R0=true:=by kernel_rfl
def a0p:Fn:=⟨40,0,[.tmp 8],
 (.sr [mc 8 (.int .i64 0)]
 (.seq
 (.sr [mv 12 0,
 mv 13 1,
 mv 14 2,
 ii 15 (.call 169) [.t 12,.t 13,.t 14],
 ii 16 (.un .not) [.t 15]]
 (.cond (.t 16)
 (.sr [mc 8 (.int .i64 0)]
 .ret)
 .skip))
 (.sr [mv 17 3,
 mv 18 1,
 ii 19 .mn [.t 17,.t 18],
 mc 9 (.int .i64 0),
 mt 10 19]
 (.seq
 (.block 0
 (.loop [3,8,11,12,13,14,15,16,17,18,19,20,21,22,23,24,25,26,27,28,29,30,31,32,33,34,35,36,37,38,39] []
 (.seq
 (.sr [mv 20 9,
 mv 21 10,
 b2 22 .lss 20 21]
 (.cond (.t 22)
 .skip
 (.exit 0)))
 (.block 1
 (.sr [mv 23 9,
 mv 24 10,
 mv 25 9,
 b2 26 .sub 24 25,
 b1 27 .add 26 (.int .i64 1),
 b1 28 .quo 27 (.int .i64 2),
 b2 29 .add 23 28,
 mt 11 29]
 (.sr [mv 30 0,
 mv 31 11,
 mv 32 1,
 mv 33 2,
 ⟨some 34,none,.build [.int .i64 0,.int .i64 0,.int .i64 0] [(0,1),(1,1),(2,1)],[.t 31,.t 32,.t 33]⟩,
 ii 35 (.call 170) [.t 30,.t 34]]
 (.cond (.t 35)
 (.reg [mv 36 11,
 mt 9 36])
 (.reg [mv 37 11,
 b1 38 .sub 37 (.int .i64 1),
 mt 10 38]))))))))
 (.sr [mv 39 9,
 mt 8 39]
 .ret)))))⟩
theorem U8:aC Tryz.prog 130 a0p=true:=by kernel_rfl
def RF:Fn:=⟨9,0,[],
 (.reg [mv 4 0,
 mv 5 0,
 ii 6 .len [.t 5],
 mv 7 1,
 ii 8 (.callm 171 0) [.t 4,.t 6,.t 7]])⟩
theorem YE:aC Tryz.prog 131 RF=true:=by kernel_rfl
def T6:Fn:=⟨10,2,[.tmp 4],
 (.sr [ii 2 (.box 0 2) [.t 0],
 ii 3 (.box 1 2) [.t 1],
 mc 4 (.int .i64 0)]
 (.sr [fa 5 1 3,
 ld 6 5,
 fa 7 1 2,
 ld 8 7,
 ii 9 (.call 67) [.t 6,.t 8],
 mt 4 9]
 .ret))⟩
theorem TT:aC Tryz.prog 132 T6=true:=by kernel_rfl
def F67:Fn:=⟨20,0,[.tmp 4],
 (.sr [mc 4 (.int .i64 0)]
 (.sr [mv 7 0,
 ii 8 (.call 97) [.t 7],
 mt 5 8]
 (.sr [mv 9 1,
 ii 10 (.call 97) [.t 9],
 mt 6 10]
 (.seq
 (.sr [mv 11 5]
 (.cond (.t 11)
 (.seq
 (.sr [mv 12 6]
 (.cond (.t 12)
 (.sr [mc 4 (.int .i64 0)]
 .ret)
 .skip))
 (.sr [mc 4 (.int .i64 (-1))]
 .ret))
 .skip))
 (.seq
 (.sr [mv 13 6]
 (.cond (.t 13)
 (.sr [mc 4 (.int .i64 1)]
 .ret)
 .skip))
 (.seq
 (.sr [mv 14 0,
 mv 15 1,
 b2 16 .lss 14 15]
 (.cond (.t 16)
 (.sr [mc 4 (.int .i64 (-1))]
 .ret)
 .skip))
 (.seq
 (.sr [mv 17 0,
 mv 18 1,
 b2 19 .gtr 17 18]
 (.cond (.t 19)
 (.sr [mc 4 (.int .i64 1)]
 .ret)
 .skip))
 (.sr [mc 4 (.int .i64 0)]
 .ret))))))))⟩
theorem k67:aC Tryz.prog 67 F67=true:=by kernel_rfl
def S8:Fn:=⟨14,0,[],
 (.sr [mv 5 0,
 ii 6 .len [.t 5],
 mt 4 6]
 (.reg [mv 7 0,
 mv 8 4,
 mv 9 4,
 ii 10 (.conv .u64) [.t 9],
 ii 11 (.call 173) [.t 10],
 mv 12 1,
 ii 13 (.callm 172 0) [.t 7,cI 0,.t 8,.t 11,.t 12]]))⟩
theorem XN:aC Tryz.prog 133 S8=true:=by kernel_rfl
def SA:Fn:=⟨10,2,[.tmp 4],
 (.sr [ii 2 (.box 0 2) [.t 0],
 ii 3 (.box 1 2) [.t 1],
 mc 4 (.int .i64 0)]
 (.sr [fa 5 0 2,
 ld 6 5,
 fa 7 0 3,
 ld 8 7,
 ii 9 (.call 68) [.t 6,.t 8],
 mt 4 9]
 .ret))⟩
theorem X4:aC Tryz.prog 134 SA=true:=by kernel_rfl
def F68:Fn:=⟨20,0,[.tmp 4],
 (.sr [mc 4 (.int .i64 0)]
 (.sr [mv 7 0,
 ii 8 (.call 98) [.t 7],
 mt 5 8]
 (.sr [mv 9 1,
 ii 10 (.call 98) [.t 9],
 mt 6 10]
 (.seq
 (.sr [mv 11 5]
 (.cond (.t 11)
 (.seq
 (.sr [mv 12 6]
 (.cond (.t 12)
 (.sr [mc 4 (.int .i64 0)]
 .ret)
 .skip))
 (.sr [mc 4 (.int .i64 (-1))]
 .ret))
 .skip))
 (.seq
 (.sr [mv 13 6]
 (.cond (.t 13)
 (.sr [mc 4 (.int .i64 1)]
 .ret)
 .skip))
 (.seq
 (.sr [mv 14 0,
 mv 15 1,
 b2 16 .lss 14 15]
 (.cond (.t 16)
 (.sr [mc 4 (.int .i64 (-1))]
 .ret)
 .skip))
 (.seq
 (.sr [mv 17 0,
 mv 18 1,
 b2 19 .gtr 17 18]
 (.cond (.t 19)
 (.sr [mc 4 (.int .i64 1)]
 .ret)
 .skip))
 (.sr [mc 4 (.int .i64 0)]
 .ret))))))))⟩
theorem k68:aC Tryz.prog 68 F68=true:=by kernel_rfl
def Z9:Fn:=⟨31,0,[.tmp 6],
 (.sr [mc 6 (.int .i64 0)]
 (.seq
 (.sr [mv 8 0,
 mv 9 1,
 mv 10 1,
 ii 11 (.call 169) [.t 8,.t 9,.t 10],
 ii 12 (.un .not) [.t 11]]
 (.cond (.t 12)
 (.sr [mc 6 (.int .i64 0)]
 .ret)
 .skip))
 (.sr [mc 7 (.int .i64 0)]
 (.seq
 (.block 0
 (.loop [6,8,9,10,11,12,13,14,15,16,17,18,19,20,21,22,23,24,25,26,27,28,29,30] []
 (.seq
 (.sr [mv 13 7,
 mv 14 2,
 mv 15 1,
 ii 16 .mn [.t 14,.t 15],
 b2 17 .lss 13 16,
 mv 18 17,
 gt 19 18 (.mov false) [.t 0],
 gt 20 18 (.mov false) [.t 7],
 gt 21 18 (.bin .add) [.t 20,cI 1],
 gt 22 18 (.mov false) [.t 7],
 gt 23 18 (.bin .add) [.t 22,cI 1],
 gt 24 18 (.mov false) [.t 1],
 ⟨some 25,(some (18,true)),.build [.int .i64 0,.int .i64 0,.int .i64 0] [(0,1),(1,1),(2,1)],[.t 21,.t 23,.t 24]⟩,
 gt 26 18 (.call 170) [.t 19,.t 25],
 ii 27 .pick [.t 18,.t 26,.c (.p (.bool false))]]
 (.cond (.t 27)
 .skip
 (.exit 0)))
 (.block 1
 (.reg [mv 28 7,
 b1 29 .add 28 (.int .i64 1),
 mt 7 29])))))
 (.sr [mv 30 7,
 mt 6 30]
 .ret)))))⟩
theorem X5:aC Tryz.prog 135 Z9=true:=by kernel_rfl
def ZT:Fn:=⟨47,0,[.tmp 2,.tmp 3],
 (.sr [mc 2 (.int .i64 0),
 mc 3 (.bool false)]
 (.seq
 (.sr [mv 7 0,
 ii 8 (.call 42) [.t 7],
 ii 9 (.un .not) [.t 8],
 mv 10 9,
 gf 11 10 (.mov false) [.t 0],
 gf 12 10 .len [.t 11],
 gf 13 10 (.bin .eql) [.t 12,cI 0],
 ii 14 .pick [.t 10,.c (.p (.bool true)),.t 13]]
 (.cond (.t 14)
 (.sr [mv 15 0,
 ii 16 (.call 42) [.t 15],
 mc 2 (.int .i64 0),
 mt 3 16]
 .ret)
 .skip))
 (.sr [mc 4 (.int .i64 1)]
 (.seq
 (.block 0
 (.loop [2,3,5,6,7,8,9,10,11,12,13,14,15,16,17,18,19,20,21,22,23,24,25,26,27,28,29,30,31,32,33,34,35,36,37,38,39,40,41,42,43,44,45,46] []
 (.seq
 (.sr [mv 17 4,
 b1 18 .leq 17 (.int .i64 20000)]
 (.cond (.t 18)
 .skip
 (.exit 0)))
 (.block 1
 (.sr [mc 5 (.int .i64 0)]
 (.seq
 (.sr [mc 6 (.int .i64 0)]
 (.block 2
 (.loop [2,3,7,8,9,10,11,12,13,14,15,16,17,18,19,20,21,22,23,24,25,26,27,28,29,30,31,32,33,34,35,36,37,38,39,40,41,42,43,44,45,46] []
 (.seq
 (.sr [mv 19 6,
 mv 20 0,
 ii 21 .len [.t 20],
 b2 22 .lss 19 21]
 (.cond (.t 22)
 .skip
 (.exit 2)))
 (.seq
 (.block 3
 (.regd [mv 25 5,
 mv 26 0,
 mv 27 6,
 ii 28 (.iad 3) [.t 26,.t 27],
 fa 29 0 28,
 ii 30 (.loadp 1 false) [.t 29],
 mv 31 4,
 b1 32 .sub 31 (.int .i64 1),
 mv 33 0,
 mv 34 6,
 ii 35 (.iad 3) [.t 33,.t 34],
 fa 36 2 35,
 ii 37 (.loadp 1 false) [.t 36],
 b2 38 .quo 32 37,
 b1 39 .add 38 (.int .i64 1),
 b2 40 .mul 30 39,
 b2 41 .add 25 40,
 mt 5 41]))
 (.reg [mv 23 6,
 b1 24 .add 23 (.int .i64 1),
 mt 6 24]))))))
 (.seq
 (.sr [mv 42 5,
 mv 43 4,
 b2 44 .eql 42 43]
 (.cond (.t 44)
 (.sr [mv 45 4,
 mt 2 45,
 mc 3 (.bool true)]
 .ret)
 .skip))
 (.reg [mv 46 5,
 mt 4 46]))))))))
 (.sr [mc 2 (.int .i64 0),
 mc 3 (.bool false)]
 .ret)))))⟩
theorem QH:aC Tryz.prog 167 ZT=true:=by kernel_rfl
def OD:Fn:=⟨60,3,[.tmp 6],
 (.sr [ii 3 (.box 0 5) [.t 0],
 ii 6 (.mov true) [.c (.ow 1 true [])]]
 (.seq
 (.sr [ii 13 (.load 5 true false) [.t 3],
 mv 14 1,
 ii 15 (.call 183) [.t 13,.t 14],
 ii 16 (.un .not) [.t 15],
 mv 17 16,
 gf 18 17 (.mov false) [.t 2],
 gf 19 17 .len [.t 18],
 gf 20 17 (.mov false) [.t 1],
 gf 21 17 .len [.t 20],
 gf 22 17 (.bin .neq) [.t 19,.t 21],
 ii 23 .pick [.t 17,.c (.p (.bool true)),.t 22]]
 (.cond (.t 23)
 (.sr [ii 6 (.mov true) [.c (.ow 1 true [])]]
 .ret)
 .skip))
 (.sr [fa 24 0 3,
 ld 25 24,
 ⟨some 26,none,.mksl 1 1 24 false [.ow 3 true []],[.t 25,.t 25]⟩,
 mt 7 26]
 (.seq
 (.sr [mv 27 2,
 ii 28 .len [.t 27],
 ii 29 (.mov false) [cI 0]]
 (.block 0
 (.loop [0,2,6,8,9,10,11,12,13,14,15,16,17,18,19,20,21,22,23,24,25,26,30,31,32,33,34,35,36,37,38,39,40,41,42,43,44,45,46,47,48,49,50,51,52,53,54,55,56,57,58,59] [2]
 (.sr [b2 30 .lss 29 28]
 (.seq
 (.cond (.t 30)
 .skip
 (.exit 0))
 (.seq
 (.block 1
 (.seq
 (.gp (.reg [mv 31 29,
 ii 32 (.iad 2) [.t 27,.t 29],
 ii 33 (.load 2 true false) [.t 32],
 ⟨some 9,none,.alloc 2 2 [Z0,.ow 4 true []],[]⟩,
 mt 8 31,
 ⟨none,none,.store 2,[.t 9,.t 33]⟩]) (.lay 2 2))
 (.sr [ii 34 (.load 5 true false) [.t 3],
 mv 35 1,
 mv 36 8,
 ii 37 (.load 2 true false) [.t 9],
 ii 38 (.call 177) [.t 34,.t 35,.t 36,.t 37],
 mt 10 38]
 (.seq
 (.sr [mv 39 10,
 ii 40 (.eqnil false) [.t 39,.c (.ow 1 true [])]]
 (.cond (.t 40)
 (.sr [ii 6 (.mov true) [.c (.ow 1 true [])]]
 (.pre [] [1] [] .ret))
 .skip))
 (.sr [mv 41 10,
 ii 42 .len [.t 41],
 ii 43 (.mov false) [cI 0]]
 (.block 2
 (.loop [0,2,6,8,9,10,11,12,13,14,15,16,17,18,19,20,21,22,23,24,25,26,30,31,32,33,34,35,36,37,38,39,40,44,45,46,47,48,49,50,51,52,53,54,55,56,57,58,59] []
 (.sr [b2 44 .lss 43 42]
 (.seq
 (.cond (.t 44)
 .skip
 (.exit 2))
 (.seq
 (.block 3
 (.sr [mv 45 43,
 ii 46 (.iad 1) [.t 41,.t 43],
 ld 47 46,
 mt 11 45,
 mt 12 47]
 (.reg [mv 48 7,
 mv 49 11,
 mv 50 7,
 mv 51 11,
 ii 52 (.iad 1) [.t 50,.t 51],
 ii 53 (.load 1 false true) [.t 52],
 mv 54 12,
 ii 55 (.app 3 24) [.t 53,.t 54],
 ii 56 (.iad 1) [.t 48,.t 49],
 ⟨none,none,.store 1,[.t 56,.t 55]⟩])))
 (.reg [b1 57 .add 43 (.int .i64 1),
 mv 43 57])))))))))))
 (.reg [b1 58 .add 29 (.int .i64 1),
 mv 29 58])))))))
 (.sr [mv 59 7,
 mt 6 59]
 (.pre [] [1] [] .ret))))))⟩
theorem U2:aC Tryz.prog 154 OD=true:=by kernel_rfl
def OY:Fn:=⟨2,0,[.tmp 0],
 (.sr [mc 0 (.bool false)]
 (.sr [ii 1 (.call 249) [],
 mt 0 1]
 .ret))⟩
theorem U6:aC Tryz.prog 240 OY=true:=by kernel_rfl
def SS:Fn:=⟨40,3,[.tmp 6],
 (.sr [ii 3 (.box 0 5) [.t 0],
 ii 4 (.box 1 4) [.t 1],
 mc 6 (.int .i64 0)]
 (.seq
 (.sr [ii 10 (.load 5 true false) [.t 3],
 ii 11 (.call 80) [.t 10],
 ii 12 (.un .not) [.t 11],
 mv 13 12,
 gf 14 13 (.load 5 true false) [.t 3],
 gf 15 13 (.load 4 true false) [.t 4],
 gf 16 13 (.call 81) [.t 14,.t 15],
 gf 17 13 (.un .not) [.t 16],
 ii 18 .pick [.t 13,.c (.p (.bool true)),.t 17]]
 (.cond (.t 18)
 (.sr [mc 6 (.int .i64 0)]
 .ret)
 .skip))
 (.sr [mc 7 (.int .i64 0)]
 (.seq
 (.sr [fa 19 3 4,
 ld 20 19,
 ii 21 .len [.t 20],
 ii 22 (.mov false) [cI 0]]
 (.block 0
 (.loop [0,1,4,6,9,10,11,12,13,14,15,16,17,18,19,23,24,25,26,27,28,29,30,31,32,33,34,35,36,37,38,39] [2]
 (.sr [b2 23 .lss 22 21]
 (.seq
 (.cond (.t 23)
 .skip
 (.exit 0))
 (.seq
 (.block 1
 (.seq
 (.gp (.reg [ii 24 (.iad 3) [.t 20,.t 22],
 ii 25 (.load 3 true false) [.t 24],
 ⟨some 9,none,.alloc 2 3 [Z0,Z0,Z0],[]⟩,
 ⟨none,none,.store 3,[.t 9,.t 25]⟩]) (.lay 2 3))
 (.sr [fa 26 4 3,
 ld 27 26,
 fa 28 0 9,
 ld 29 28,
 ii 30 (.iad 1) [.t 27,.t 29],
 ld 31 30,
 mv 32 2,
 b2 33 .eql 31 32]
 (.cond (.t 33)
 (.reg [mv 34 7,
 fa 35 2 9,
 ld 36 35,
 ii 37 .mx [.t 34,.t 36],
 mt 7 37])
 .skip))))
 (.reg [b1 38 .add 22 (.int .i64 1),
 mv 22 38])))))))
 (.sr [mv 39 7,
 mt 6 39]
 .ret)))))⟩
theorem XX:aC Tryz.prog 188 SS=true:=by kernel_rfl
def PD:Fn:=⟨69,3,[.tmp 8],
 (.sr [ii 4 (.box 0 5) [.t 0],
 mc 8 (.int .i64 0)]
 (.seq
 (.sr [ii 13 (.load 5 true false) [.t 4],
 mv 14 1,
 mv 15 2,
 ii 16 (.call 180) [.t 13,.t 14,.t 15],
 ii 17 (.un .not) [.t 16],
 mv 18 17,
 gf 19 18 (.mov false) [.t 3],
 gf 20 18 (.bin .lss) [.t 19,cI 0],
 ii 21 .pick [.t 18,.c (.p (.bool true)),.t 20],
 mv 22 21,
 gf 23 22 (.mov false) [.t 3],
 gf 24 22 (.mov false) [.t 1],
 gf 25 22 (.mov false) [.t 2],
 gf 26 22 (.iad 4) [.t 24,.t 25],
 gf 27 22 (.fad 3) [.t 26],
 gf 28 22 (.load 1 false false) [.t 27],
 gf 29 22 .len [.t 28],
 gf 30 22 (.bin .geq) [.t 23,.t 29],
 ii 31 .pick [.t 22,.c (.p (.bool true)),.t 30]]
 (.cond (.t 31)
 (.sr [mc 8 (.int .i64 0)]
 .ret)
 .skip))
 (.seq
 (.gp (.reg [mv 32 1,
 mv 33 2,
 ii 34 (.iad 4) [.t 32,.t 33],
 fa 35 3 34,
 ld 36 35,
 mv 37 3,
 ii 38 (.iad 3) [.t 36,.t 37],
 ii 39 (.load 3 true false) [.t 38],
 ⟨some 9,none,.alloc 1 3 [Z0,Z0,Z0],[]⟩,
 ⟨none,none,.store 3,[.t 9,.t 39]⟩]) (.lay 1 3))
 (.sr [fa 40 2 4,
 ld 41 40,
 ii 42 (.bin .mul) [cI 2,.t 41],
 fa 43 2 9,
 ld 44 43,
 b2 45 .add 42 44,
 mt 10 45]
 (.seq
 (.sr [mv 46 1,
 ii 47 .len [.t 46],
 ii 48 (.mov false) [cI 0]]
 (.block 0
 (.loop [0,1,3,8,11,12,13,14,15,16,17,18,19,20,21,22,23,24,25,26,27,28,29,30,31,32,33,34,35,36,37,38,39,40,41,42,43,44,45,49,50,51,52,53,54,55,56,57,58,59,60,61,62,63,64,65,66,67,68] [2]
 (.sr [b2 49 .lss 48 47]
 (.seq
 (.cond (.t 49)
 .skip
 (.exit 0))
 (.seq
 (.block 1
 (.seq
 (.gp (.reg [mv 50 48,
 ii 51 (.iad 4) [.t 46,.t 48],
 ii 52 (.load 4 true false) [.t 51],
 ⟨some 12,none,.alloc 2 4 [Z0,Z0,Z0,.ow 3 true []],[]⟩,
 mt 11 50,
 ⟨none,none,.store 4,[.t 12,.t 52]⟩]) (.lay 2 4))
 (.sr [mv 53 11,
 mv 54 2,
 b2 55 .neq 53 54]
 (.cond (.t 55)
 (.regd [mv 56 10,
 ii 57 (.at 0 (.load 5 true false)) [.t 4],
 ii 58 (.at 2 (.load 4 true false)) [.t 12],
 fa 59 4 4,
 ii 60 (.at 0 (.load 1 false false)) [.t 59],
 fa 61 0 9,
 ii 62 (.at 1 (.load 1 false false)) [.t 61],
 ii 63 (.iad 1) [.t 60,.t 62],
 ii 64 (.loadp 1 false) [.t 63],
 ii 65 (.pl (.call 188)) [.t 57,.t 58,.t 64],
 b2 66 .add 56 65,
 mt 10 66])
 .skip))))
 (.reg [b1 67 .add 48 (.int .i64 1),
 mv 48 67])))))))
 (.sr [mv 68 10,
 mt 8 68]
 .ret))))))⟩
theorem XH:aC Tryz.prog 158 PD=true:=by kernel_rfl
def QW:Fn:=⟨32,1,[.tmp 6],
 (.sr [ii 3 (.box 0 5) [.t 0],
 mc 6 (.int .i64 0)]
 (.seq
 (.sr [ii 9 (.load 5 true false) [.t 3],
 mv 10 1,
 mv 11 2,
 ii 12 (.call 180) [.t 9,.t 10,.t 11],
 ii 13 (.un .not) [.t 12]]
 (.cond (.t 13)
 (.sr [mc 6 (.int .i64 0)]
 .ret)
 .skip))
 (.sr [mc 7 (.int .i64 0)]
 (.seq
 (.sr [mv 14 1,
 mv 15 2,
 ii 16 (.iad 4) [.t 14,.t 15],
 fa 17 3 16,
 ld 18 17,
 ii 19 .len [.t 18],
 ii 20 (.mov false) [cI 0]]
 (.block 0
 (.loop [0,6,8,9,10,11,12,13,14,15,16,17,18,21,22,23,24,25,26,27,28,29,30,31] []
 (.sr [b2 21 .lss 20 19]
 (.seq
 (.cond (.t 21)
 .skip
 (.exit 0))
 (.seq
 (.block 1
 (.sr [mv 22 20,
 mt 8 22]
 (.reg [mv 23 7,
 ii 24 (.load 5 true false) [.t 3],
 mv 25 1,
 mv 26 2,
 mv 27 8,
 ii 28 (.call 158) [.t 24,.t 25,.t 26,.t 27],
 b2 29 .add 23 28,
 mt 7 29])))
 (.reg [b1 30 .add 20 (.int .i64 1),
 mv 20 30])))))))
 (.sr [mv 31 7,
 mt 6 31]
 .ret)))))⟩
theorem XB:aC Tryz.prog 149 QW=true:=by kernel_rfl
def QC:Fn:=⟨22,1,[.tmp 2],
 (.sr [mc 2 (.int .i64 0)]
 (.sr [mc 3 (.int .i64 0)]
 (.seq
 (.sr [mv 6 0,
 ii 7 .len [.t 6],
 ii 8 (.mov false) [cI 0]]
 (.block 0
 (.loop [0,2,5,9,10,11,12,13,14,15,16,17,18,19,20,21] [0]
 (.sr [b2 9 .lss 8 7]
 (.seq
 (.cond (.t 9)
 .skip
 (.exit 0))
 (.seq
 (.block 1
 (.seq
 (.gp (.reg [ii 10 (.iad 3) [.t 6,.t 8],
 ii 11 (.load 3 true false) [.t 10],
 ⟨some 5,none,.alloc 0 3 [Z0,Z0,Z0],[]⟩,
 ⟨none,none,.store 3,[.t 5,.t 11]⟩]) (.lay 0 3))
 (.reg [mv 12 3,
 fa 13 0 5,
 ld 14 13,
 b1 15 .mul 14 (.int .i64 10000),
 fa 16 2 5,
 ld 17 16,
 ii 18 (.call 196) [.t 15,.t 17],
 b2 19 .add 12 18,
 mt 3 19])))
 (.reg [b1 20 .add 8 (.int .i64 1),
 mv 8 20])))))))
 (.sr [mv 21 3,
 mt 2 21]
 .ret))))⟩
theorem U3:aC Tryz.prog 241 QC=true:=by kernel_rfl
def PS:Fn:=⟨11,0,[.tmp 2],
 (.sr [mc 2 (.bool false)]
 (.sr [mv 3 0,
 ii 4 .len [.t 3],
 b1 5 .leq 4 (.int .i64 24),
 mv 6 5,
 gt 7 6 (.mov false) [.t 0],
 gt 8 6 (.call 232) [.t 7,.c (.p (.fn 233 []))],
 gt 9 6 (.un .not) [.t 8],
 ii 10 .pick [.t 6,.t 9,.c (.p (.bool false))],
 mt 2 10]
 .ret))⟩
theorem T7:aC Tryz.prog 209 PS=true:=by kernel_rfl
def R7:Fn:=⟨36,1,[.tmp 4],
 (.sr [mc 4 (.int .i64 0)]
 (.seq
 (.sr [mv 8 0,
 ii 9 (.call 209) [.t 8],
 ii 10 (.un .not) [.t 9],
 mv 11 10,
 gf 12 11 (.mov false) [.t 1],
 gf 13 11 (.bin .lss) [.t 12,cI 0],
 ii 14 .pick [.t 11,.c (.p (.bool true)),.t 13],
 mv 15 14,
 gf 16 15 (.mov false) [.t 1],
 gf 17 15 (.bin .gtr) [.t 16,cI 20000],
 ii 18 .pick [.t 15,.c (.p (.bool true)),.t 17]]
 (.cond (.t 18)
 (.sr [mc 4 (.int .i64 0)]
 .ret)
 .skip))
 (.sr [mc 5 (.int .i64 0)]
 (.seq
 (.sr [mv 19 0,
 ii 20 .len [.t 19],
 ii 21 (.mov false) [cI 0]]
 (.block 0
 (.loop [0,4,7,8,9,10,11,12,13,14,15,16,17,18,22,23,24,25,26,27,28,29,30,31,32,33,34,35] [0]
 (.sr [b2 22 .lss 21 20]
 (.seq
 (.cond (.t 22)
 .skip
 (.exit 0))
 (.seq
 (.block 1
 (.seq
 (.gp (.reg [ii 23 (.iad 3) [.t 19,.t 21],
 ii 24 (.load 3 true false) [.t 23],
 ⟨some 7,none,.alloc 0 3 [Z0,Z0,Z0],[]⟩,
 ⟨none,none,.store 3,[.t 7,.t 24]⟩]) (.lay 0 3))
 (.regd [mv 25 5,
 fa 26 0 7,
 ii 27 (.at 0 (.load 1 false false)) [.t 26],
 mv 28 1,
 fa 29 2 7,
 ii 30 (.at 0 (.load 1 false false)) [.t 29],
 ii 31 (.pl (.call 196)) [.t 28,.t 30],
 b2 32 .mul 27 31,
 b2 33 .add 25 32,
 mt 5 33])))
 (.reg [b1 34 .add 21 (.int .i64 1),
 mv 21 34])))))))
 (.sr [mv 35 5,
 mt 4 35]
 .ret)))))⟩
theorem RZ:aC Tryz.prog 210 R7=true:=by kernel_rfl
def RO:Fn:=⟨38,1,[.tmp 4],
 (.sr [mc 4 (.int .i64 0)]
 (.sr [mv 9 0,
 ii 10 (.call 232) [.t 9,.c (.p (.fn 235 []))],
 mt 5 10]
 (.seq
 (.sr [mv 11 5,
 mv 12 11,
 gf 13 12 (.mov false) [.t 0],
 gf 14 12 .len [.t 13],
 gf 15 12 (.bin .gtr) [.t 14,cI 24],
 ii 16 .pick [.t 12,.c (.p (.bool true)),.t 15],
 mv 17 16,
 gf 18 17 (.mov false) [.t 1],
 gf 19 17 (.bin .lss) [.t 18,cI 0],
 ii 20 .pick [.t 17,.c (.p (.bool true)),.t 19],
 mv 21 20,
 gf 22 21 (.mov false) [.t 1],
 gf 23 21 (.bin .gtr) [.t 22,cI 20000],
 ii 24 .pick [.t 21,.c (.p (.bool true)),.t 23]]
 (.cond (.t 24)
 (.sr [mc 4 (.int .i64 0)]
 .ret)
 .skip))
 (.sr [mc 6 (.int .i64 0)]
 (.seq
 (.sr [mv 25 0,
 ii 26 .len [.t 25],
 ii 27 (.mov false) [cI 0]]
 (.block 0
 (.loop [0,4,5,8,9,10,11,12,13,14,15,16,17,18,19,20,21,22,23,24,28,29,30,31,32,33,34,35,36,37] [0]
 (.sr [b2 28 .lss 27 26]
 (.seq
 (.cond (.t 28)
 .skip
 (.exit 0))
 (.seq
 (.block 1
 (.seq
 (.gp (.reg [ii 29 (.iad 3) [.t 25,.t 27],
 ii 30 (.load 3 true false) [.t 29],
 ⟨some 8,none,.alloc 0 3 [Z0,Z0,Z0],[]⟩,
 ⟨none,none,.store 3,[.t 8,.t 30]⟩]) (.lay 0 3))
 (.reg [mv 31 6,
 ii 32 (.load 3 true false) [.t 8],
 mv 33 1,
 ii 34 (.call 236) [.t 32,.t 33],
 b2 35 .add 31 34,
 mt 6 35])))
 (.reg [b1 36 .add 27 (.int .i64 1),
 mv 27 36])))))))
 (.sr [mv 37 6,
 mt 4 37]
 .ret))))))⟩
theorem OZ:aC Tryz.prog 211 RO=true:=by kernel_rfl
def OH:Fn:=⟨19,0,[.tmp 4],
 (.sr [mc 4 (.int .i64 0)]
 (.seq
 (.sr [mv 6 0,
 ii 7 .len [.t 6],
 ii 8 (.mov false) [cI 0]]
 (.block 0
 (.loop [4,5,6,9,10,11,12,13,14,15,16,17,18] []
 (.sr [b2 9 .lss 8 7]
 (.seq
 (.cond (.t 9)
 .skip
 (.exit 0))
 (.seq
 (.block 1
 (.sr [mv 10 8,
 mt 5 10]
 (.sr [mv 11 1,
 mv 12 0,
 mv 13 5,
 ii 14 (.iad 1) [.t 12,.t 13],
 ld 15 14,
 ii 16 .callv [.t 11,.t 15]]
 (.cond (.t 16)
 (.sr [mv 17 5,
 mt 4 17]
 .ret)
 .skip))))
 (.reg [b1 18 .add 8 (.int .i64 1),
 mv 8 18])))))))
 (.sr [mc 4 (.int .i64 (-1))]
 .ret)))⟩
theorem XG:aC Tryz.prog 168 OH=true:=by kernel_rfl
def Q2:Fn:=⟨27,0,[.tmp 6],
 (.sr [mc 6 (.bool false)]
 (.sr [mv 7 0,
 ii 8 .len [.t 7],
 b1 9 .leq 8 (.int .i64 23),
 mv 10 9,
 gt 11 10 (.mov false) [.t 1],
 gt 12 10 (.bin .geq) [.t 11,cI 1],
 ii 13 .pick [.t 10,.t 12,.c (.p (.bool false))],
 mv 14 13,
 gt 15 14 (.mov false) [.t 1],
 gt 16 14 (.mov false) [.t 2],
 gt 17 14 (.bin .leq) [.t 15,.t 16],
 ii 18 .pick [.t 14,.t 17,.c (.p (.bool false))],
 mv 19 18,
 gt 20 19 (.mov false) [.t 2],
 gt 21 19 (.bin .leq) [.t 20,cI 200],
 ii 22 .pick [.t 19,.t 21,.c (.p (.bool false))],
 mv 23 22,
 gt 24 23 (.mov false) [.t 0],
 gt 25 23 (.call 136) [.t 24],
 ii 26 .pick [.t 23,.t 25,.c (.p (.bool false))],
 mt 6 26]
 .ret))⟩
theorem RY:aC Tryz.prog 169 Q2=true:=by kernel_rfl
def OS:Fn:=⟨11,1,[.tmp 4],
 (.sr [ii 3 (.box 0 3) [.t 1],
 mc 4 (.bool false)]
 (.seq
 (.regd [mv 5 0,
 ii 6 (.pl (.call 137)) [.t 5],
 ii 7 (.at 0 (.load 3 true false)) [.t 3],
 ii 8 (.bsl 3 1) [.t 7],
 ii 9 (.pl (.app 3 24)) [.t 6,.t 8],
 ii 10 (.pl (.call 136)) [.t 9],
 mt 4 10])
 .ret))⟩
theorem LJ:aC Tryz.prog 170 OS=true:=by kernel_rfl
def RH:Fn:=⟨63,0,[],
 (.sr [mc 6 (.int .i64 20)]
 (.sr [mv 10 6,
 mc 7 (.int .i64 0),
 mt 8 10]
 (.seq
 (.block 0
 (.loop [9,10,11,12,13,14,15,16,17,18,19,20,21,22,23,24,25,26,27,28,29,30,31,32,33,34,35,36,37,38,39,40,41,42,43,44,45,46,47,48,49,50,51,52,53,54,55,56,57,58,59,60,61,62] []
 (.seq
 (.sr [mv 11 8,
 mv 12 1,
 b2 13 .leq 11 12]
 (.cond (.t 13)
 .skip
 (.exit 0)))
 (.block 1
 (.sr [mv 14 0,
 mv 15 7,
 mv 16 8,
 mv 17 2,
 ii 18 (.callm 198 0) [.t 14,.t 15,.t 16,.t 17]]
 (.sr [mv 19 8,
 mt 7 19]
 (.reg [mv 20 8,
 mv 21 6,
 b2 22 .add 20 21,
 mt 8 22])))))))
 (.sr [mv 23 0,
 mv 24 7,
 mv 25 1,
 mv 26 2,
 ii 27 (.callm 198 0) [.t 23,.t 24,.t 25,.t 26]]
 (.block 2
 (.loop [7,8,9,10,11,12,13,14,15,16,17,18,19,20,21,22,23,24,25,26,27,28,29,30,31,32,33,34,35,36,37,38,39,40,41,42,43,44,45,46,47,48,49,50,51,52,53,54,55,56,57,58,59,60,61,62] []
 (.seq
 (.sr [mv 28 6,
 mv 29 1,
 b2 30 .lss 28 29]
 (.cond (.t 30)
 .skip
 (.exit 2)))
 (.block 3
 (.sr [mv 31 6,
 ii 32 (.bin .mul) [cI 2,.t 31],
 mc 7 (.int .i64 0),
 mt 8 32]
 (.seq
 (.block 4
 (.loop [9,10,11,12,13,14,15,16,17,18,19,20,21,22,23,24,25,26,27,28,29,30,31,32,33,34,35,36,37,38,39,40,41,42,43,44,45,46,47,48,49,50,51,52,53,54,55,56,57,58,59,60,61,62] []
 (.seq
 (.sr [mv 33 8,
 mv 34 1,
 b2 35 .leq 33 34]
 (.cond (.t 35)
 .skip
 (.exit 4)))
 (.block 5
 (.sr [mv 36 0,
 mv 37 7,
 mv 38 7,
 mv 39 6,
 b2 40 .add 38 39,
 mv 41 8,
 mv 42 2,
 ii 43 (.call 199) [.t 36,.t 37,.t 40,.t 41,.t 42]]
 (.sr [mv 44 8,
 mt 7 44]
 (.reg [mv 45 8,
 mv 46 6,
 ii 47 (.bin .mul) [cI 2,.t 46],
 b2 48 .add 45 47,
 mt 8 48])))))))
 (.seq
 (.sr [mv 49 7,
 mv 50 6,
 b2 51 .add 49 50,
 mt 9 51]
 (.sr [mv 52 9,
 mv 53 1,
 b2 54 .lss 52 53]
 (.cond (.t 54)
 (.reg [mv 55 0,
 mv 56 7,
 mv 57 9,
 mv 58 1,
 mv 59 2,
 ii 60 (.call 199) [.t 55,.t 56,.t 57,.t 58,.t 59]])
 .skip)))
 (.reg [mv 61 6,
 b1 62 .mul 61 (.int .i64 2),
 mt 6 62]))))))))))))⟩
theorem X8:aC Tryz.prog 171 RH=true:=by kernel_rfl
def F97:Fn:=⟨6,0,[.tmp 2],
 (.sr [mc 2 (.bool false)]
 (.sr [mv 3 0,
 mv 4 0,
 b2 5 .neq 3 4,
 mt 2 5]
 .ret))⟩
theorem k97:aC Tryz.prog 97 F97=true:=by kernel_rfl
def QG:Fn:=⟨148,0,[],
 (.sr [mc 10 (.bool true)]
 (.sr [mc 11 (.bool true)]
 (.block 0
 (.loop [12,13,14,15,16,17,18,19,20,21,22,23,24,25,26,27,28,29,30,31,32,33,34,35,36,37,38,39,40,41,42,43,44,45,46,47,48,49,50,51,52,53,54,55,56,57,58,59,60,61,62,63,64,65,66,67,68,69,70,71,72,73,74,75,76,77,78,79,80,81,82,83,84,85,86,87,88,89,90,91,92,93,94,95,96,97,98,99,100,101,102,103,104,105,106,107,108,109,110,111,112,113,114,115,116,117,118,119,120,121,122,123,124,125,126,127,128,129,130,131,132,133,134,135,136,137,138,139,140,141,142,143,144,145,146,147] []
 (.block 1
 (.sr [mv 21 2,
 mv 22 1,
 b2 23 .sub 21 22,
 mt 12 23]
 (.seq
 (.sr [mv 24 12,
 b1 25 .leq 24 (.int .i64 12)]
 (.cond (.t 25)
 (.sr [mv 26 0,
 mv 27 1,
 mv 28 2,
 mv 29 4,
 ii 30 (.callm 198 0) [.t 26,.t 27,.t 28,.t 29]]
 .ret)
 .skip))
 (.seq
 (.sr [mv 31 3,
 b1 32 .eql 31 (.int .i64 0)]
 (.cond (.t 32)
 (.sr [mv 33 0,
 mv 34 1,
 mv 35 2,
 mv 36 4,
 ii 37 (.call 200) [.t 33,.t 34,.t 35,.t 36]]
 .ret)
 .skip))
 (.seq
 (.sr [mv 38 10,
 ii 39 (.un .not) [.t 38]]
 (.cond (.t 39)
 (.sr [mv 40 0,
 mv 41 1,
 mv 42 2,
 mv 43 4,
 ii 44 (.call 201) [.t 40,.t 41,.t 42,.t 43]]
 (.reg [mv 45 3,
 b1 46 .sub 45 (.int .i64 1),
 mt 3 46]))
 .skip))
 (.sr [mv 48 0,
 mv 49 1,
 mv 50 2,
 mv 51 4,
 ii 52 (.call 202) [.t 48,.t 49,.t 50,.t 51],
 mv 47 52,
 ii 53 (.ext 0) [.t 47],
 ii 54 (.ext 1) [.t 47],
 mt 13 53,
 mt 14 54]
 (.seq
 (.sr [mv 55 14,
 b1 56 .eql 55 (.int .i64 2)]
 (.cond (.t 56)
 (.sr [mv 57 0,
 mv 58 1,
 mv 59 2,
 mv 60 4,
 ii 61 (.call 203) [.t 57,.t 58,.t 59,.t 60]]
 (.sr [mv 62 2,
 b1 63 .sub 62 (.int .i64 1),
 mv 64 13,
 mv 65 1,
 b2 66 .sub 64 65,
 b2 67 .sub 63 66,
 mt 13 67]
 (.reg [mc 14 (.int .i64 1)])))
 .skip))
 (.seq
 (.sr [mv 68 10,
 mv 69 68,
 gt 70 69 (.mov false) [.t 11],
 ii 71 .pick [.t 69,.t 70,.c (.p (.bool false))],
 mv 72 71,
 gt 73 72 (.mov false) [.t 14],
 gt 74 72 (.bin .eql) [.t 73,cI 1],
 ii 75 .pick [.t 72,.t 74,.c (.p (.bool false))]]
 (.cond (.t 75)
 (.sr [mv 76 0,
 mv 77 1,
 mv 78 2,
 mv 79 4,
 ii 80 (.call 204) [.t 76,.t 77,.t 78,.t 79]]
 (.cond (.t 80)
 .ret
 .skip))
 .skip))
 (.seq
 (.seq
 (.regd [mv 81 1,
 b1 82 .gtr 81 (.int .i64 0),
 mv 83 82,
 gt 84 83 (.mov false) [.t 4],
 gt 85 83 (.mov false) [.t 0],
 gt 86 83 (.mov false) [.t 1],
 gt 87 83 (.bin .sub) [.t 86,cI 1],
 gt 88 83 (.iad 2) [.t 85,.t 87],
 gt 89 83 (.at 0 (.load 2 true false)) [.t 88],
 gt 90 83 (.mov false) [.t 0],
 gt 91 83 (.mov false) [.t 13],
 gt 92 83 (.iad 2) [.t 90,.t 91],
 gt 93 83 (.at 0 (.load 2 true false)) [.t 92],
 gt 94 83 (.pl .callv) [.t 84,.t 89,.t 93],
 gt 95 83 (.bin .lss) [.t 94,cI 0],
 gt 96 83 (.un .not) [.t 95],
 ii 97 .pick [.t 83,.t 96,.c (.p (.bool false))]])
 (.cond (.t 97)
 (.sr [mv 98 0,
 mv 99 1,
 mv 100 2,
 mv 101 13,
 mv 102 4,
 ii 103 (.call 205) [.t 98,.t 99,.t 100,.t 101,.t 102],
 mt 15 103]
 (.sr [mv 104 15,
 mt 1 104]
 (.exit 1)))
 .skip))
 (.sr [mv 106 0,
 mv 107 1,
 mv 108 2,
 mv 109 13,
 mv 110 4,
 ii 111 (.call 206) [.t 106,.t 107,.t 108,.t 109,.t 110],
 mv 105 111,
 ii 112 (.ext 0) [.t 105],
 ii 113 (.ext 1) [.t 105],
 mt 16 112,
 mt 17 113]
 (.sr [mv 114 17,
 mt 11 114]
 (.sr [mv 115 16,
 mv 116 1,
 b2 117 .sub 115 116,
 mv 118 2,
 mv 119 16,
 b2 120 .sub 118 119,
 mt 18 117,
 mt 19 120]
 (.sr [mv 121 12,
 b1 122 .quo 121 (.int .i64 8),
 mt 20 122]
 (.sr [mv 123 18,
 mv 124 19,
 b2 125 .lss 123 124]
 (.cond (.t 125)
 (.sr [mv 126 18,
 mv 127 20,
 b2 128 .geq 126 127,
 mt 10 128]
 (.sr [mv 129 0,
 mv 130 1,
 mv 131 16,
 mv 132 3,
 mv 133 4,
 ii 134 (.callm 172 0) [.t 129,.t 130,.t 131,.t 132,.t 133]]
 (.reg [mv 135 16,
 b1 136 .add 135 (.int .i64 1),
 mt 1 136])))
 (.sr [mv 137 19,
 mv 138 20,
 b2 139 .geq 137 138,
 mt 10 139]
 (.sr [mv 140 0,
 mv 141 16,
 b1 142 .add 141 (.int .i64 1),
 mv 143 2,
 mv 144 3,
 mv 145 4,
 ii 146 (.callm 172 0) [.t 140,.t 142,.t 143,.t 144,.t 145]]
 (.reg [mv 147 16,
 mt 2 147]))))))))))))))))))))))⟩
theorem XD:aC Tryz.prog 172 QG=true:=by kernel_rfl
def RU:Fn:=⟨8,0,[.tmp 2],
 (.sr [mc 2 (.int .i64 0)]
 (.seq
 (.cond (.c (.p (.bool false)))
 (.sr [mv 3 0,
 ii 4 (.conv .u32) [.t 3],
 ii 5 (.call 207) [.t 4],
 mt 2 5]
 .ret)
 .skip)
 (.sr [mv 6 0,
 ii 7 (.call 208) [.t 6],
 mt 2 7]
 .ret)))⟩
theorem UZ:aC Tryz.prog 173 RU=true:=by kernel_rfl
def F98:Fn:=⟨6,0,[.tmp 2],
 (.sr [mc 2 (.bool false)]
 (.sr [mv 3 0,
 mv 4 0,
 b2 5 .neq 3 4,
 mt 2 5]
 .ret))⟩
theorem k98:aC Tryz.prog 98 F98=true:=by kernel_rfl
def F42:Fn:=⟨19,0,[.tmp 2],
 (.sr [mc 2 (.bool false)]
 (.seq
 (.sr [mc 3 (.int .i64 0)]
 (.block 0
 (.loop [2,4,5,6,7,8,9,10,11,12,13,14,15,16,17,18] []
 (.seq
 (.sr [mv 4 3,
 mv 5 0,
 ii 6 .len [.t 5],
 b2 7 .lss 4 6]
 (.cond (.t 7)
 .skip
 (.exit 0)))
 (.seq
 (.block 1
 (.sr [mv 10 0,
 mv 11 3,
 ii 12 (.iad 3) [.t 10,.t 11],
 ii 13 (.load 3 true false) [.t 12],
 ii 14 (.call 74) [.t 13],
 ii 15 (.un .not) [.t 14]]
 (.cond (.t 15)
 (.sr [mc 2 (.bool false)]
 .ret)
 .skip)))
 (.reg [mv 8 3,
 b1 9 .add 8 (.int .i64 1),
 mt 3 9]))))))
 (.sr [mv 16 0,
 ii 17 .len [.t 16],
 b1 18 .leq 17 (.int .i64 24),
 mt 2 18]
 .ret)))⟩
theorem k42:aC Tryz.prog 42 F42=true:=by kernel_rfl
def ST:Fn:=⟨20,1,[.tmp 4],
 (.sr [ii 2 (.box 0 5) [.t 0],
 mc 4 (.bool false)]
 (.seq
 (.pre [] [0] [] (.reg [ii 6 (.mkfn 216) [.t 2],
 mt 5 6]))
 (.sr [ii 7 (.load 5 true false) [.t 2],
 ii 8 (.call 80) [.t 7],
 mv 9 8,
 gt 10 9 (.mov false) [.t 1],
 gt 11 9 .len [.t 10],
 gt 12 9 (.bin .leq) [.t 11,cI 12],
 ii 13 .pick [.t 9,.t 12,.c (.p (.bool false))],
 mv 14 13,
 gt 15 14 (.mov false) [.t 1],
 gt 16 14 (.mov false) [.t 5],
 gt 17 14 (.call 215) [.t 15,.t 16],
 gt 18 14 (.un .not) [.t 17],
 ii 19 .pick [.t 14,.t 18,.c (.p (.bool false))],
 mt 4 19]
 .ret)))⟩
theorem V0:aC Tryz.prog 183 ST=true:=by kernel_rfl
def OX:Fn:=⟨84,6,[.tmp 8],
 (.sr [ii 4 (.box 0 5) [.t 0],
 ii 7 (.box 1 2) [.t 3],
 ii 8 (.mov true) [.c (.ow 1 true [])]]
 (.seq
 (.sr [ii 14 (.load 5 true false) [.t 4],
 mv 15 1,
 ii 16 (.call 183) [.t 14,.t 15],
 ii 17 (.un .not) [.t 16],
 mv 18 17,
 gf 19 18 (.mov false) [.t 2],
 gf 20 18 (.bin .lss) [.t 19,cI 0],
 ii 21 .pick [.t 18,.c (.p (.bool true)),.t 20],
 mv 22 21,
 gf 23 22 (.mov false) [.t 2],
 gf 24 22 (.mov false) [.t 1],
 gf 25 22 .len [.t 24],
 gf 26 22 (.bin .geq) [.t 23,.t 25],
 ii 27 .pick [.t 22,.c (.p (.bool true)),.t 26],
 mv 28 27,
 gf 29 28 (.load 5 true false) [.t 4],
 gf 30 28 (.load 2 true false) [.t 7],
 gf 31 28 (.call 213) [.t 29,.t 30],
 gf 32 28 (.un .not) [.t 31],
 ii 33 .pick [.t 28,.c (.p (.bool true)),.t 32]]
 (.cond (.t 33)
 (.sr [ii 8 (.mov true) [.c (.ow 1 true [])]]
 .ret)
 .skip))
 (.sr [fa 34 0 4,
 ld 35 34,
 ⟨some 36,none,.mksl 2 1 24 false [.ow 3 true []],[.t 35,.t 35]⟩,
 mt 9 36]
 (.seq
 (.gp (.reg [mv 37 1,
 mv 38 2,
 ii 39 (.iad 4) [.t 37,.t 38],
 ii 40 (.load 4 true false) [.t 39],
 ⟨some 10,none,.alloc 3 4 [Z0,Z0,Z0,.ow 3 true []],[]⟩,
 ⟨none,none,.store 4,[.t 10,.t 40]⟩]) (.lay 3 4))
 (.seq
 (.sr [fa 41 1 7,
 ld 42 41,
 ii 43 .len [.t 42],
 ii 44 (.mov false) [cI 0]]
 (.block 0
 (.loop [0,3,8,12,13,14,15,16,17,18,19,20,21,22,23,24,25,26,27,28,29,30,31,32,33,34,35,36,37,38,39,40,41,45,46,47,48,49,50,51,52,53,54,55,56,57,58,59,60,61,62,63,64,65,66,67,68,69,70,71,72,73,74,75,76,77,78,79,80,81,82,83] [4,5]
 (.sr [b2 45 .lss 44 43]
 (.seq
 (.cond (.t 45)
 .skip
 (.exit 0))
 (.seq
 (.block 1
 (.seq
 (.gp (.reg [ii 46 (.iad 4) [.t 42,.t 44],
 ii 47 (.load 4 true false) [.t 46],
 ⟨some 12,none,.alloc 4 4 [Z0,Z0,Z0,Z0],[]⟩,
 ⟨none,none,.store 4,[.t 12,.t 47]⟩]) (.lay 4 4))
 (.seq
 (.gp (.reg [fa 48 3 12,
 ld 49 48,
 fa 50 2 12,
 ld 51 50,
 fa 52 2 10,
 ld 53 52,
 ⟨some 54,none,.build [.int .i64 0,.int .i64 0,.int .i64 0] [(0,1),(1,1),(2,1)],[.t 49,.t 51,.t 53]⟩,
 ⟨some 13,none,.alloc 5 3 [Z0,Z0,Z0],[]⟩,
 ⟨none,none,.store 3,[.t 13,.t 54]⟩]) (.lay 5 3))
 (.seq
 (.sr [fa 55 0 7,
 ld 56 55,
 b1 57 .eql 56 (.int .i64 1)]
 (.cond (.t 57)
 (.gp (.regd [fa 58 0 10,
 ii 59 (.at 3 (.load 1 false false)) [.t 58],
 ii 60 (.at 0 (.load 5 true false)) [.t 4],
 mv 61 1,
 mv 62 2,
 ii 63 (.pl (.call 149)) [.t 60,.t 61,.t 62],
 b2 64 .add 59 63,
 fa 65 1 10,
 ii 66 (.at 3 (.load 1 false false)) [.t 65],
 fa 67 2 10,
 ii 68 (.at 3 (.load 1 false false)) [.t 67],
 ⟨some 69,none,.build [.int .i64 0,.int .i64 0,.int .i64 0] [(0,1),(1,1),(2,1)],[.t 64,.t 66,.t 68]⟩,
 ⟨none,none,.at 5 (.store 3),[.t 13,.t 69]⟩]) (.lay 5 3))
 .skip))
 (.regd [mv 70 9,
 fa 71 0 12,
 ii 72 (.at 4 (.load 1 false false)) [.t 71],
 mv 73 9,
 fa 74 0 12,
 ii 75 (.at 4 (.load 1 false false)) [.t 74],
 ii 76 (.iad 1) [.t 73,.t 75],
 ii 77 (.at 2 (.load 1 false true)) [.t 76],
 ii 78 (.at 5 (.load 3 true false)) [.t 13],
 ii 79 (.bsl 3 1) [.t 78],
 ii 80 (.pl (.app 3 24)) [.t 77,.t 79],
 ii 81 (.iad 1) [.t 70,.t 72],
 ⟨none,none,.at 2 (.store 1),[.t 81,.t 80]⟩])))))
 (.reg [b1 82 .add 44 (.int .i64 1),
 mv 44 82])))))))
 (.sr [mv 83 9,
 mt 8 83]
 (.pre [] [2] [] .ret)))))))⟩
theorem W5:aC Tryz.prog 177 OX=true:=by kernel_rfl
def R2:Fn:=⟨68,0,[.tmp 0],
 (.sr [mc 0 (.bool false)]
 (.sr [⟨some 8,none,.build [.int .i64 0,.int .i64 0,.int .i64 0] [(0,1),(1,1),(2,1)],[cI 2,cI 4,cI 6]⟩,
 ⟨some 9,none,.build [.int .i64 0,.int .i64 0,.int .i64 0] [(0,1),(1,1),(2,1)],[cI 3,cI 8,cI 9]⟩,
 ii 10 (.bsl 3 2) [.t 8,.t 9],
 mt 1 10]
 (.sr [mv 12 1,
 ii 13 (.call 174) [.t 12],
 mv 11 13,
 ii 14 (.ext 0) [.t 11],
 ii 15 (.ext 1) [.t 11],
 mt 2 14,
 mt 3 15]
 (.sr [ii 17 (.call 174) [.c (.ow 3 true [])],
 mv 16 17,
 ii 18 (.ext 0) [.t 16],
 ii 19 (.ext 1) [.t 16],
 mt 4 18,
 mt 5 19]
 (.sr [⟨some 21,none,.build [.int .i64 0,.int .i64 0,.int .i64 0] [(0,1),(1,1),(2,1)],[cI 5,cI 5,cI 4]⟩,
 ii 22 (.bsl 3 1) [.t 21],
 ii 23 (.call 174) [.t 22],
 mv 20 23,
 ii 24 (.ext 0) [.t 20],
 ii 25 (.ext 1) [.t 20],
 mt 6 24,
 mt 7 25]
 (.sr [ii 26 (.call 250) [],
 mv 27 26,
 gt 28 27 (.mov false) [.t 1],
 gt 29 27 (.call 210) [.t 28,cI 7],
 gt 30 27 (.bin .eql) [.t 29,cI 7],
 ii 31 .pick [.t 27,.t 30,.c (.p (.bool false))],
 mv 32 31,
 gt 33 32 (.mov false) [.t 3],
 ii 34 .pick [.t 32,.t 33,.c (.p (.bool false))],
 mv 35 34,
 gt 36 35 (.mov false) [.t 2],
 gt 37 35 (.bin .eql) [.t 36,cI 5],
 ii 38 .pick [.t 35,.t 37,.c (.p (.bool false))],
 mv 39 38,
 gt 40 39 (.mov false) [.t 4],
 gt 41 39 (.bin .eql) [.t 40,cI 0],
 ii 42 .pick [.t 39,.t 41,.c (.p (.bool false))],
 mv 43 42,
 gt 44 43 (.mov false) [.t 5],
 ii 45 .pick [.t 43,.t 44,.c (.p (.bool false))],
 mv 46 45,
 gt 47 46 (.mov false) [.t 7],
 gt 48 46 (.un .not) [.t 47],
 ii 49 .pick [.t 46,.t 48,.c (.p (.bool false))],
 mv 50 49,
 gt 51 50 (.mov false) [.t 1],
 gt 52 50 (.call 211) [.t 51,cI 8],
 gt 53 50 (.bin .eql) [.t 52,cI 5],
 ii 54 .pick [.t 50,.t 53,.c (.p (.bool false))],
 mv 55 54,
 gt 56 55 (.mov false) [.t 1],
 gt 57 55 (.call 136) [.t 56],
 ii 58 .pick [.t 55,.t 57,.c (.p (.bool false))],
 mv 59 58,
 gt 60 59 (.mov false) [.t 1],
 gt 61 59 (.call 130) [.t 60,cI 5,cI 10,cI 9],
 gt 62 59 (.bin .eql) [.t 61,cI 2],
 ii 63 .pick [.t 59,.t 62,.c (.p (.bool false))],
 mv 64 63,
 gt 65 64 (.call 135) [.c (.ow 3 true []),cI 10,cI 4],
 gt 66 64 (.bin .eql) [.t 65,cI 4],
 ii 67 .pick [.t 64,.t 66,.c (.p (.bool false))],
 mt 0 67]
 .ret))))))⟩
theorem VS:aC Tryz.prog 249 R2=true:=by kernel_rfl
def O8:Fn:=⟨32,1,[.tmp 6],
 (.sr [ii 3 (.box 0 5) [.t 0],
 mc 6 (.bool false)]
 (.seq
 (.pre [] [0] [] (.reg [ii 8 (.mkfn 214) [.t 3],
 mt 7 8]))
 (.sr [ii 9 (.load 5 true false) [.t 3],
 ii 10 (.call 80) [.t 9],
 mv 11 10,
 gt 12 11 (.mov false) [.t 1],
 gt 13 11 .len [.t 12],
 gt 14 11 (.bin .leq) [.t 13,cI 12],
 ii 15 .pick [.t 11,.t 14,.c (.p (.bool false))],
 mv 16 15,
 gt 17 16 (.mov false) [.t 1],
 gt 18 16 (.mov false) [.t 7],
 gt 19 16 (.call 215) [.t 17,.t 18],
 gt 20 16 (.un .not) [.t 19],
 ii 21 .pick [.t 16,.t 20,.c (.p (.bool false))],
 mv 22 21,
 gt 23 22 (.mov false) [.t 2],
 gt 24 22 (.bin .geq) [.t 23,cI 0],
 ii 25 .pick [.t 22,.t 24,.c (.p (.bool false))],
 mv 26 25,
 gt 27 26 (.mov false) [.t 2],
 gt 28 26 (.mov false) [.t 1],
 gt 29 26 .len [.t 28],
 gt 30 26 (.bin .lss) [.t 27,.t 29],
 ii 31 .pick [.t 26,.t 30,.c (.p (.bool false))],
 mt 6 31]
 .ret)))⟩
theorem XF:aC Tryz.prog 180 O8=true:=by kernel_rfl
def QY:Fn:=⟨18,0,[.tmp 4],
 (.sr [mc 4 (.int .i64 0)]
 (.seq
 (.sr [mv 6 1,
 b1 7 .leq 6 (.int .i64 0)]
 (.cond (.t 7)
 (.sr [mc 4 (.int .i64 0)]
 .ret)
 .skip))
 (.sr [mv 8 0,
 mv 9 1,
 b2 10 .quo 8 9,
 mt 5 10]
 (.seq
 (.sr [mv 11 0,
 mv 12 1,
 b2 13 .rem 11 12,
 b1 14 .gtr 13 (.int .i64 0)]
 (.cond (.t 14)
 (.reg [mv 15 5,
 b1 16 .add 15 (.int .i64 1),
 mt 5 16])
 .skip))
 (.sr [mv 17 5,
 mt 4 17]
 .ret)))))⟩
theorem P0:aC Tryz.prog 196 QY=true:=by kernel_rfl
def SU:Fn:=⟨9,0,[.tmp 4],
 (.sr [mc 4 (.bool false)]
 (.sr [mv 5 0,
 mv 6 1,
 ii 7 (.call 247) [.t 5,.t 6],
 b1 8 .geq 7 (.int .i64 0),
 mt 4 8]
 .ret))⟩
theorem SE:aC Tryz.prog 232 SU=true:=by kernel_rfl
def RX:Fn:=⟨6,1,[.tmp 2],
 (.sr [ii 1 (.box 0 3) [.t 0],
 mc 2 (.bool false)]
 (.sr [ii 3 (.load 3 true false) [.t 1],
 ii 4 (.call 234) [.t 3],
 ii 5 (.un .not) [.t 4],
 mt 2 5]
 .ret))⟩
theorem QE:aC Tryz.prog 233 RX=true:=by kernel_rfl
def P4:Fn:=⟨23,1,[.tmp 2],
 (.sr [ii 1 (.box 0 3) [.t 0],
 mc 2 (.bool false)]
 (.sr [fa 3 0 1,
 ld 4 3,
 ii 5 (.call 126) [.t 4,cI 1,cI 20000],
 mv 6 5,
 gt 7 6 (.fad 1) [.t 1],
 gt 8 6 (.load 1 false false) [.t 7],
 gt 9 6 (.bin .geq) [.t 8,cI 1],
 ii 10 .pick [.t 6,.t 9,.c (.p (.bool false))],
 mv 11 10,
 gt 12 11 (.fad 1) [.t 1],
 gt 13 11 (.load 1 false false) [.t 12],
 gt 14 11 (.fad 2) [.t 1],
 gt 15 11 (.load 1 false false) [.t 14],
 gt 16 11 (.bin .leq) [.t 13,.t 15],
 ii 17 .pick [.t 11,.t 16,.c (.p (.bool false))],
 mv 18 17,
 gt 19 18 (.fad 2) [.t 1],
 gt 20 18 (.load 1 false false) [.t 19],
 gt 21 18 (.bin .leq) [.t 20,cI 200],
 ii 22 .pick [.t 18,.t 21,.c (.p (.bool false))],
 mt 2 22]
 .ret))⟩
theorem QT:aC Tryz.prog 234 P4=true:=by kernel_rfl
def RE:Fn:=⟨6,1,[.tmp 2],
 (.sr [ii 1 (.box 0 3) [.t 0],
 mc 2 (.bool false)]
 (.sr [ii 3 (.load 3 true false) [.t 1],
 ii 4 (.call 234) [.t 3],
 ii 5 (.un .not) [.t 4],
 mt 2 5]
 .ret))⟩
theorem PW:aC Tryz.prog 235 RE=true:=by kernel_rfl
def Q4:Fn:=⟨20,1,[.tmp 4],
 (.sr [ii 2 (.box 0 3) [.t 0],
 mc 4 (.int .i64 0)]
 (.seq
 (.sr [fa 5 1 2,
 ld 6 5,
 mv 7 1,
 b2 8 .gtr 6 7]
 (.cond (.t 8)
 (.sr [mc 4 (.int .i64 0)]
 .ret)
 .skip))
 (.seq
 (.regd [fa 9 0 2,
 ii 10 (.at 0 (.load 1 false false)) [.t 9],
 mv 11 1,
 fa 12 1 2,
 ii 13 (.at 0 (.load 1 false false)) [.t 12],
 b2 14 .sub 11 13,
 fa 15 2 2,
 ii 16 (.at 0 (.load 1 false false)) [.t 15],
 ii 17 (.pl (.call 129)) [.t 14,.t 16],
 b1 18 .add 17 (.int .i64 1),
 b2 19 .mul 10 18,
 mt 4 19])
 .ret)))⟩
theorem LV:aC Tryz.prog 236 Q4=true:=by kernel_rfl
def OG:Fn:=⟨53,0,[],
 (.sr [mv 10 1,
 b1 11 .add 10 (.int .i64 1),
 mt 8 11]
 (.block 0
 (.loop [9,10,11,12,13,14,15,16,17,18,19,20,21,22,23,24,25,26,27,28,29,30,31,32,33,34,35,36,37,38,39,40,41,42,43,44,45,46,47,48,49,50,51,52] []
 (.seq
 (.sr [mv 12 8,
 mv 13 2,
 b2 14 .lss 12 13]
 (.cond (.t 14)
 .skip
 (.exit 0)))
 (.seq
 (.block 1
 (.sr [mv 17 8,
 mt 9 17]
 (.block 2
 (.loop [10,11,12,13,14,15,16,17,18,19,20,21,22,23,24,25,26,27,28,29,30,31,32,33,34,35,36,37,38,39,40,41,42,43,44,45,46,47,48,49,50,51,52] []
 (.seq
 (.seq
 (.regd [mv 18 9,
 mv 19 1,
 b2 20 .gtr 18 19,
 mv 21 20,
 gt 22 21 (.mov false) [.t 3],
 gt 23 21 (.mov false) [.t 0],
 gt 24 21 (.mov false) [.t 9],
 gt 25 21 (.iad 2) [.t 23,.t 24],
 gt 26 21 (.at 0 (.load 2 true false)) [.t 25],
 gt 27 21 (.mov false) [.t 0],
 gt 28 21 (.mov false) [.t 9],
 gt 29 21 (.bin .sub) [.t 28,cI 1],
 gt 30 21 (.iad 2) [.t 27,.t 29],
 gt 31 21 (.at 0 (.load 2 true false)) [.t 30],
 gt 32 21 (.pl .callv) [.t 22,.t 26,.t 31],
 gt 33 21 (.bin .lss) [.t 32,cI 0],
 ii 34 .pick [.t 21,.t 33,.c (.p (.bool false))]])
 (.cond (.t 34)
 .skip
 (.exit 2)))
 (.seq
 (.block 3
 (.regd [mv 37 0,
 mv 38 9,
 mv 39 0,
 mv 40 9,
 b1 41 .sub 40 (.int .i64 1),
 mv 42 0,
 mv 43 9,
 b1 44 .sub 43 (.int .i64 1),
 ii 45 (.iad 2) [.t 42,.t 44],
 ii 46 (.at 0 (.load 2 true false)) [.t 45],
 mv 47 0,
 mv 48 9,
 ii 49 (.iad 2) [.t 47,.t 48],
 ii 50 (.at 0 (.load 2 true false)) [.t 49],
 ii 51 (.iad 2) [.t 37,.t 38],
 ⟨none,none,.at 0 (.store 2),[.t 51,.t 46]⟩,
 ii 52 (.iad 2) [.t 39,.t 41],
 ⟨none,none,.at 0 (.store 2),[.t 52,.t 50]⟩]))
 (.reg [mv 35 9,
 b1 36 .sub 35 (.int .i64 1),
 mt 9 36])))))))
 (.reg [mv 15 8,
 b1 16 .add 15 (.int .i64 1),
 mt 8 16]))))))⟩
theorem UJ:aC Tryz.prog 198 OG=true:=by kernel_rfl
def F74:Fn:=⟨23,1,[.tmp 2],
 (.sr [ii 1 (.box 0 3) [.t 0],
 mc 2 (.bool false)]
 (.sr [fa 3 0 1,
 ld 4 3,
 ii 5 (.call 77) [.t 4,cI 1,cI 20000],
 mv 6 5,
 gt 7 6 (.fad 1) [.t 1],
 gt 8 6 (.load 1 false false) [.t 7],
 gt 9 6 (.bin .geq) [.t 8,cI 1],
 ii 10 .pick [.t 6,.t 9,.c (.p (.bool false))],
 mv 11 10,
 gt 12 11 (.fad 1) [.t 1],
 gt 13 11 (.load 1 false false) [.t 12],
 gt 14 11 (.fad 2) [.t 1],
 gt 15 11 (.load 1 false false) [.t 14],
 gt 16 11 (.bin .leq) [.t 13,.t 15],
 ii 17 .pick [.t 11,.t 16,.c (.p (.bool false))],
 mv 18 17,
 gt 19 18 (.fad 2) [.t 1],
 gt 20 18 (.load 1 false false) [.t 19],
 gt 21 18 (.bin .leq) [.t 20,cI 200],
 ii 22 .pick [.t 18,.t 21,.c (.p (.bool false))],
 mt 2 22]
 .ret))⟩
theorem k74:aC Tryz.prog 74 F74=true:=by kernel_rfl
def R6:Fn:=⟨8,1,[.tmp 3],
 (.sr [ii 2 (.box 0 4) [.t 0],
 mc 3 (.bool false)]
 (.sr [ii 4 (.load 5 true false) [.t 1],
 ii 5 (.load 4 true false) [.t 2],
 ii 6 (.call 81) [.t 4,.t 5],
 ii 7 (.un .not) [.t 6],
 mt 3 7]
 .ret))⟩
theorem WM:aC Tryz.prog 216 R6=true:=by kernel_rfl
def PI:Fn:=⟨9,0,[.tmp 4],
 (.sr [mc 4 (.bool false)]
 (.sr [mv 5 0,
 mv 6 1,
 ii 7 (.call 239) [.t 5,.t 6],
 b1 8 .geq 7 (.int .i64 0),
 mt 4 8]
 .ret))⟩
theorem Y2:aC Tryz.prog 215 PI=true:=by kernel_rfl
def QJ:Fn:=⟨10,2,[.tmp 4],
 (.sr [ii 2 (.box 0 5) [.t 0],
 ii 3 (.box 1 2) [.t 1],
 mc 4 (.bool false)]
 (.seq
 (.pre [] [0] [] (.reg [fa 5 1 3,
 ld 6 5,
 ii 7 (.mkfn 238) [.t 2],
 ii 8 (.call 237) [.t 6,.t 7],
 ii 9 (.un .not) [.t 8],
 mt 4 9]))
 .ret))⟩
theorem X9:aC Tryz.prog 213 QJ=true:=by kernel_rfl
def PJ:Fn:=⟨2,0,[.tmp 0],
 (.sr [mc 0 (.bool false)]
 (.sr [ii 1 (.call 251) [],
 mt 0 1]
 .ret))⟩
theorem WV:aC Tryz.prog 250 PJ=true:=by kernel_rfl
def OQ:Fn:=⟨8,1,[.tmp 3],
 (.sr [ii 2 (.box 0 4) [.t 0],
 mc 3 (.bool false)]
 (.sr [ii 4 (.load 5 true false) [.t 1],
 ii 5 (.load 4 true false) [.t 2],
 ii 6 (.call 81) [.t 4,.t 5],
 ii 7 (.un .not) [.t 6],
 mt 3 7]
 .ret))⟩
theorem UU:aC Tryz.prog 214 OQ=true:=by kernel_rfl
def SM:Fn:=⟨19,0,[.tmp 4],
 (.sr [mc 4 (.int .i64 0)]
 (.seq
 (.sr [mv 6 0,
 ii 7 .len [.t 6],
 ii 8 (.mov false) [cI 0]]
 (.block 0
 (.loop [4,5,6,9,10,11,12,13,14,15,16,17,18] []
 (.sr [b2 9 .lss 8 7]
 (.seq
 (.cond (.t 9)
 .skip
 (.exit 0))
 (.seq
 (.block 1
 (.sr [mv 10 8,
 mt 5 10]
 (.sr [mv 11 1,
 mv 12 0,
 mv 13 5,
 ii 14 (.iad 3) [.t 12,.t 13],
 ii 15 (.load 3 true false) [.t 14],
 ii 16 .callv [.t 11,.t 15]]
 (.cond (.t 16)
 (.sr [mv 17 5,
 mt 4 17]
 .ret)
 .skip))))
 (.reg [b1 18 .add 8 (.int .i64 1),
 mv 8 18])))))))
 (.sr [mc 4 (.int .i64 (-1))]
 .ret)))⟩
theorem PT:aC Tryz.prog 247 SM=true:=by kernel_rfl
def S0:Fn:=⟨19,0,[.tmp 4],
 (.sr [mc 4 (.int .i64 0)]
 (.seq
 (.sr [mv 6 0,
 ii 7 .len [.t 6],
 ii 8 (.mov false) [cI 0]]
 (.block 0
 (.loop [4,5,6,9,10,11,12,13,14,15,16,17,18] []
 (.sr [b2 9 .lss 8 7]
 (.seq
 (.cond (.t 9)
 .skip
 (.exit 0))
 (.seq
 (.block 1
 (.sr [mv 10 8,
 mt 5 10]
 (.sr [mv 11 1,
 mv 12 0,
 mv 13 5,
 ii 14 (.iad 4) [.t 12,.t 13],
 ii 15 (.load 4 true false) [.t 14],
 ii 16 .callv [.t 11,.t 15]]
 (.cond (.t 16)
 (.sr [mv 17 5,
 mt 4 17]
 .ret)
 .skip))))
 (.reg [b1 18 .add 8 (.int .i64 1),
 mv 8 18])))))))
 (.sr [mc 4 (.int .i64 (-1))]
 .ret)))⟩
theorem UB:aC Tryz.prog 239 S0=true:=by kernel_rfl
def PA:Fn:=⟨9,0,[.tmp 4],
 (.sr [mc 4 (.bool false)]
 (.sr [mv 5 0,
 mv 6 1,
 ii 7 (.call 248) [.t 5,.t 6],
 b1 8 .geq 7 (.int .i64 0),
 mt 4 8]
 .ret))⟩
theorem XO:aC Tryz.prog 237 PA=true:=by kernel_rfl
def R4:Fn:=⟨14,1,[.tmp 3],
 (.sr [ii 2 (.box 0 4) [.t 0],
 mc 3 (.bool false)]
 (.sr [fa 4 0 2,
 ld 5 4,
 b1 6 .lss 5 (.int .i64 0),
 mv 7 6,
 gf 8 7 (.fad 0) [.t 2],
 gf 9 7 (.load 1 false false) [.t 8],
 gf 10 7 (.fad 0) [.t 1],
 gf 11 7 (.load 1 false false) [.t 10],
 gf 12 7 (.bin .geq) [.t 9,.t 11],
 ii 13 .pick [.t 7,.c (.p (.bool true)),.t 12],
 mt 3 13]
 .ret))⟩
theorem VR:aC Tryz.prog 238 R4=true:=by kernel_rfl
def Q7:Fn:=⟨104,5,[.tmp 0],
 (.sr [mc 0 (.bool false)]
 (.seq
 (.gp (.reg [ii 11 (.bsl 1 1) [cI 0],
 ⟨some 12,none,.build [.int .i64 0,.int .i64 0,.int .i64 0,.int .i64 0,.sl 1 true []] [(0,1),(1,1),(2,1),(4,1)],[cI 2,cI 1,cI 1,.t 11]⟩,
 ⟨some 1,none,.alloc 0 5 [Z0,Z0,Z0,Z0,.ow 1 true []],[]⟩,
 ⟨none,none,.store 5,[.t 1,.t 12]⟩]) (.lay 0 5))
 (.seq
 (.gp (.reg [⟨some 13,none,.build [.int .i64 0,.int .i64 0,.int .i64 0] [(1,1),(2,1)],[cI 1,cI 2]⟩,
 ii 14 (.bsl 3 1) [.t 13],
 ⟨some 15,none,.build [.int .i64 0,.int .i64 0,.int .i64 0,.sl 3 true []] [(0,1),(1,1),(2,1),(3,1)],[cI 3,cI 8,cI 10,.t 14]⟩,
 ⟨some 2,none,.alloc 1 4 [Z0,Z0,Z0,.ow 3 true []],[]⟩,
 ⟨none,none,.store 4,[.t 2,.t 15]⟩]) (.lay 1 4))
 (.seq
 (.regd [ii 16 (.at 0 (.load 5 true false)) [.t 1],
 ii 17 (.pl (.call 252)) [.t 16],
 ii 18 (.at 1 (.load 4 true false)) [.t 2],
 ii 19 (.pl (.call 253)) [.t 18],
 mt 3 17,
 mt 4 19])
 (.seq
 (.gp (.reg [mv 21 3,
 ii 22 (.call 254) [.t 21],
 mv 20 22,
 ii 23 (.ext 0) [.t 20],
 ii 24 (.ext 1) [.t 20],
 ⟨some 5,none,.alloc 2 5 [Z0,Z0,Z0,Z0,.ow 1 true []],[]⟩,
 ⟨none,none,.store 5,[.t 5,.t 23]⟩,
 mt 6 24]) (.lay 2 5))
 (.seq
 (.gp (.reg [ii 26 (.load 5 true false) [.t 1],
 mv 27 4,
 ii 28 (.call 255) [.t 26,.t 27],
 mv 25 28,
 ii 29 (.ext 0) [.t 25],
 ii 30 (.ext 1) [.t 25],
 ⟨some 7,none,.alloc 3 4 [Z0,Z0,Z0,.ow 3 true []],[]⟩,
 ⟨none,none,.store 4,[.t 7,.t 29]⟩,
 mt 8 30]) (.lay 3 4))
 (.seq
 (.gp (.reg [⟨some 32,none,.build [.int .i64 0,.int .i64 0,.int .i64 0,.int .i64 0,.sl 1 true []] [(0,1)],[cI 1]⟩,
 mv 33 4,
 ii 34 (.call 255) [.t 32,.t 33],
 mv 31 34,
 ii 35 (.ext 0) [.t 31],
 ii 36 (.ext 1) [.t 31],
 ⟨some 9,none,.alloc 4 4 [Z0,Z0,Z0,.ow 3 true []],[]⟩,
 ⟨none,none,.store 4,[.t 9,.t 35]⟩,
 mt 10 36]) (.lay 4 4))
 (.sr [ii 37 (.call 121) [],
 mv 38 37,
 gt 39 38 (.load 5 true false) [.t 1],
 gt 40 38 (.call 80) [.t 39],
 ii 41 .pick [.t 38,.t 40,.c (.p (.bool false))],
 mv 42 41,
 gt 43 42 (.load 5 true false) [.t 1],
 gt 44 42 (.load 4 true false) [.t 2],
 gt 45 42 (.call 81) [.t 43,.t 44],
 ii 46 .pick [.t 42,.t 45,.c (.p (.bool false))],
 mv 47 46,
 ⟨some 48,(some (47,true)),.build [.int .i64 0,.int .i64 0,.int .i64 0,.int .i64 0,.sl 1 true []] [],[]⟩,
 gt 49 47 (.call 80) [.t 48],
 gt 50 47 (.un .not) [.t 49],
 ii 51 .pick [.t 47,.t 50,.c (.p (.bool false))],
 mv 52 51,
 gt 53 52 (.mov false) [.t 3],
 ⟨some 54,(some (52,true)),.bin .eql,[.t 53,.c (.p (.str ⟨#[99,111,114,101,115,32,50,32,115,121,110,99,115,32,49,32,108,97,103,32,49,32,109,111,118,101,32,48,32,114,101,115,32,48]⟩))]⟩,
 ii 55 .pick [.t 52,.t 54,.c (.p (.bool false))],
 mv 56 55,
 gt 57 56 (.mov false) [.t 4],
 ⟨some 58,(some (56,true)),.bin .eql,[.t 57,.c (.p (.str ⟨#[51,47,56,47,49,48,32,48,64,49,43,50]⟩))]⟩,
 ii 59 .pick [.t 56,.t 58,.c (.p (.bool false))],
 mv 60 59,
 gt 61 60 (.mov false) [.t 6],
 gt 62 60 (.bin .eql) [.t 61,cI 0],
 ii 63 .pick [.t 60,.t 62,.c (.p (.bool false))],
 mv 64 63,
 gt 65 64 (.fad 0) [.t 5],
 gt 66 64 (.load 1 false false) [.t 65],
 gt 67 64 (.bin .eql) [.t 66,cI 2],
 ii 68 .pick [.t 64,.t 67,.c (.p (.bool false))],
 mv 69 68,
 gt 70 69 (.fad 4) [.t 5],
 gt 71 69 (.load 1 false false) [.t 70],
 gt 72 69 .len [.t 71],
 gt 73 69 (.bin .eql) [.t 72,cI 1],
 ii 74 .pick [.t 69,.t 73,.c (.p (.bool false))],
 mv 75 74,
 gt 76 75 (.mov false) [.t 8],
 gt 77 75 (.bin .eql) [.t 76,cI 0],
 ii 78 .pick [.t 75,.t 77,.c (.p (.bool false))],
 mv 79 78,
 gt 80 79 (.load 4 true false) [.t 7],
 gt 81 79 (.load 4 true false) [.t 2],
 gt 82 79 (.call 256) [.t 80,.t 81],
 ii 83 .pick [.t 79,.t 82,.c (.p (.bool false))],
 mv 84 83,
 gt 85 84 (.mov false) [.t 10],
 gt 86 84 (.bin .eql) [.t 85,cI 1],
 ii 87 .pick [.t 84,.t 86,.c (.p (.bool false))],
 mv 88 87,
 ⟨some 89,(some (88,true)),.build [.int .i64 0,.int .i64 0,.int .i64 0] [(0,1),(1,1),(2,1)],[cI 1,cI 1,cI 1]⟩,
 gt 90 88 (.call 234) [.t 89],
 ii 91 .pick [.t 88,.t 90,.c (.p (.bool false))],
 mv 92 91,
 gt 93 92 (.load 5 true false) [.t 1],
 ⟨some 94,(some (92,true)),.build [.int .i64 0,.int .i64 0,.int .i64 0,.int .i64 0] [(0,1),(2,1),(3,1)],[cI 1,cI 3,cI 3]⟩,
 gt 95 92 (.call 242) [.t 93,.t 94],
 ii 96 .pick [.t 92,.t 95,.c (.p (.bool false))],
 mv 97 96,
 gt 98 97 (.load 5 true false) [.t 1],
 gt 99 97 (.load 4 true false) [.t 2],
 gt 100 97 (.call 257) [.t 98,.t 99],
 gt 101 97 .len [.t 100],
 gt 102 97 (.bin .eql) [.t 101,cI 1],
 ii 103 .pick [.t 97,.t 102,.c (.p (.bool false))],
 mt 0 103]
 .ret))))))))⟩
theorem WJ:aC Tryz.prog 251 Q7=true:=by kernel_rfl
def OA:Fn:=⟨19,0,[.tmp 4],
 (.sr [mc 4 (.int .i64 0)]
 (.seq
 (.sr [mv 6 0,
 ii 7 .len [.t 6],
 ii 8 (.mov false) [cI 0]]
 (.block 0
 (.loop [4,5,6,9,10,11,12,13,14,15,16,17,18] []
 (.sr [b2 9 .lss 8 7]
 (.seq
 (.cond (.t 9)
 .skip
 (.exit 0))
 (.seq
 (.block 1
 (.sr [mv 10 8,
 mt 5 10]
 (.sr [mv 11 1,
 mv 12 0,
 mv 13 5,
 ii 14 (.iad 4) [.t 12,.t 13],
 ii 15 (.load 4 true false) [.t 14],
 ii 16 .callv [.t 11,.t 15]]
 (.cond (.t 16)
 (.sr [mv 17 5,
 mt 4 17]
 .ret)
 .skip))))
 (.reg [b1 18 .add 8 (.int .i64 1),
 mv 8 18])))))))
 (.sr [mc 4 (.int .i64 (-1))]
 .ret)))⟩
theorem XJ:aC Tryz.prog 248 OA=true:=by kernel_rfl
def PO:Fn:=⟨44,1,[.tmp 2],
 (.sr [ii 1 (.box 0 5) [.t 0],
 ⟨some 2,none,.mov true,[.c (.p (.str ⟨#[]⟩))]⟩]
 (.seq
 (.sr [ii 6 (.load 5 true false) [.t 1],
 ii 7 (.call 80) [.t 6],
 ii 8 (.un .not) [.t 7]]
 (.cond (.t 8)
 (.sr [⟨some 2,none,.mov true,[.c (.p (.str ⟨#[]⟩))]⟩]
 .ret)
 .skip))
 (.seq
 (.regd [fa 9 0 1,
 ii 10 (.at 0 (.load 1 false false)) [.t 9],
 ii 11 (.pl (.call 258)) [.t 10],
 fa 12 1 1,
 ii 13 (.at 0 (.load 1 false false)) [.t 12],
 ii 14 (.pl (.call 258)) [.t 13],
 fa 15 2 1,
 ii 16 (.at 0 (.load 1 false false)) [.t 15],
 ii 17 (.pl (.call 258)) [.t 16],
 fa 18 3 1,
 ii 19 (.at 0 (.load 1 false false)) [.t 18],
 ii 20 (.pl (.call 258)) [.t 19],
 ⟨some 21,none,.bsl 1 8,[.c (.p (.str ⟨#[99,111,114,101,115]⟩)),.t 11,.c (.p (.str ⟨#[115,121,110,99,115]⟩)),.t 14,.c (.p (.str ⟨#[108,97,103]⟩)),.t 17,.c (.p (.str ⟨#[109,111,118,101]⟩)),.t 20]⟩,
 mt 3 21])
 (.seq
 (.sr [fa 22 4 1,
 ld 23 22,
 ii 24 .len [.t 23],
 b1 25 .gtr 24 (.int .i64 0)]
 (.cond (.t 25)
 (.reg [mt 26 3,
 ⟨some 27,none,.bsl 1 1,[.c (.p (.str ⟨#[114,101,115]⟩))]⟩,
 ii 28 (.app 1 16) [.t 26,.t 27],
 mt 3 28])
 .skip))
 (.seq
 (.sr [fa 29 4 1,
 ld 30 29,
 ii 31 .len [.t 30],
 ii 32 (.mov false) [cI 0]]
 (.block 0
 (.loop [0,1,2,5,6,7,8,9,10,11,12,13,14,15,16,17,18,19,20,21,22,23,24,25,26,27,28,29,33,34,35,36,37,38,39,40,41,42,43] []
 (.sr [b2 33 .lss 32 31]
 (.seq
 (.cond (.t 33)
 .skip
 (.exit 0))
 (.seq
 (.block 1
 (.sr [ii 34 (.iad 1) [.t 30,.t 32],
 ld 35 34,
 mt 5 35]
 (.reg [mt 36 3,
 mv 37 5,
 ii 38 (.call 258) [.t 37],
 ii 39 (.bsl 1 1) [.t 38],
 ii 40 (.app 1 16) [.t 36,.t 39],
 mt 3 40])))
 (.reg [b1 41 .add 32 (.int .i64 1),
 mv 32 41])))))))
 (.sr [mv 42 3,
 ⟨some 43,none,.call 259,[.t 42,.c (.p (.str ⟨#[32]⟩))]⟩,
 mt 2 43]
 .ret))))))⟩
theorem VJ:aC Tryz.prog 252 PO=true:=by kernel_rfl
def SN:Fn:=⟨48,2,[.tmp 2],
 (.sr [ii 1 (.box 0 4) [.t 0],
 ⟨some 2,none,.mov true,[.c (.p (.str ⟨#[]⟩))]⟩]
 (.seq
 (.seq
 (.regd [ii 6 (.pl (.call 260)) [],
 ii 7 (.at 0 (.load 4 true false)) [.t 1],
 ii 8 (.pl (.call 81)) [.t 6,.t 7],
 ii 9 (.un .not) [.t 8]])
 (.cond (.t 9)
 (.sr [⟨some 2,none,.mov true,[.c (.p (.str ⟨#[]⟩))]⟩]
 .ret)
 .skip))
 (.seq
 (.regd [fa 10 0 1,
 ii 11 (.at 0 (.load 1 false false)) [.t 10],
 ii 12 (.pl (.call 258)) [.t 11],
 ⟨some 13,none,.bin .add,[.t 12,.c (.p (.str ⟨#[47]⟩))]⟩,
 fa 14 1 1,
 ii 15 (.at 0 (.load 1 false false)) [.t 14],
 ii 16 (.pl (.call 258)) [.t 15],
 b2 17 .add 13 16,
 ⟨some 18,none,.bin .add,[.t 17,.c (.p (.str ⟨#[47]⟩))]⟩,
 fa 19 2 1,
 ii 20 (.at 0 (.load 1 false false)) [.t 19],
 ii 21 (.pl (.call 258)) [.t 20],
 b2 22 .add 18 21,
 mt 3 22])
 (.seq
 (.sr [fa 23 3 1,
 ld 24 23,
 ii 25 .len [.t 24],
 ii 26 (.mov false) [cI 0]]
 (.block 0
 (.loop [0,1,2,5,6,7,8,9,10,11,12,13,14,15,16,17,18,19,20,21,22,23,27,28,29,30,31,32,33,34,35,36,37,38,39,40,41,42,43,44,45,46,47] [1]
 (.sr [b2 27 .lss 26 25]
 (.seq
 (.cond (.t 27)
 .skip
 (.exit 0))
 (.seq
 (.block 1
 (.seq
 (.gp (.reg [ii 28 (.iad 3) [.t 24,.t 26],
 ii 29 (.load 3 true false) [.t 28],
 ⟨some 5,none,.alloc 1 3 [Z0,Z0,Z0],[]⟩,
 ⟨none,none,.store 3,[.t 5,.t 29]⟩]) (.lay 1 3))
 (.regd [mv 30 3,
 fa 31 0 5,
 ii 32 (.at 1 (.load 1 false false)) [.t 31],
 ii 33 (.pl (.call 258)) [.t 32],
 ⟨some 34,none,.bin .add,[.c (.p (.str ⟨#[32]⟩)),.t 33]⟩,
 ⟨some 35,none,.bin .add,[.t 34,.c (.p (.str ⟨#[64]⟩))]⟩,
 fa 36 1 5,
 ii 37 (.at 1 (.load 1 false false)) [.t 36],
 ii 38 (.pl (.call 258)) [.t 37],
 b2 39 .add 35 38,
 ⟨some 40,none,.bin .add,[.t 39,.c (.p (.str ⟨#[43]⟩))]⟩,
 fa 41 2 5,
 ii 42 (.at 1 (.load 1 false false)) [.t 41],
 ii 43 (.pl (.call 258)) [.t 42],
 b2 44 .add 40 43,
 b2 45 .add 30 44,
 mt 3 45])))
 (.reg [b1 46 .add 26 (.int .i64 1),
 mv 26 46])))))))
 (.sr [mv 47 3,
 mt 2 47]
 .ret)))))⟩
theorem XQ:aC Tryz.prog 253 SN=true:=by kernel_rfl
def R9:Fn:=⟨55,2,[.cell 2 5,.tmp 3],
 (.sr [⟨some 2,none,.alloc 0 5 [Z0,Z0,Z0,Z0,.ow 1 true []],[]⟩,
 mc 3 (.int .i64 0)]
 (.sr [mv 8 0,
 ⟨some 9,none,.call 261,[.t 8,.c (.p (.str ⟨#[32]⟩))]⟩,
 mt 4 9]
 (.seq
 (.sr [mv 10 4,
 ii 11 .len [.t 10],
 b1 12 .lss 11 (.int .i64 8)]
 (.cond (.t 12)
 (.seq
 (.gp (.reg [⟨some 13,none,.build [.int .i64 0,.int .i64 0,.int .i64 0,.int .i64 0,.sl 1 true []] [],[]⟩,
 ⟨none,none,.store 5,[.t 2,.t 13]⟩,
 mc 3 (.int .i64 1)]) (.lay 0 5))
 .ret)
 .skip))
 (.seq
 (.gp (.pre [5,41,47] [] [1] (.rega [mv 14 4,
 ii 15 (.iad 1) [.t 14,cI 1],
 ii 16 (.loadp 1 false) [.t 15],
 ii 17 (.pl (.call 262)) [.t 16],
 mv 18 4,
 ii 19 (.iad 1) [.t 18,cI 3],
 ii 20 (.loadp 1 false) [.t 19],
 ii 21 (.pl (.call 262)) [.t 20],
 mv 22 4,
 ii 23 (.iad 1) [.t 22,cI 5],
 ii 24 (.loadp 1 false) [.t 23],
 ii 25 (.pl (.call 262)) [.t 24],
 mv 26 4,
 ii 27 (.iad 1) [.t 26,cI 7],
 ii 28 (.loadp 1 false) [.t 27],
 ii 29 (.pl (.call 262)) [.t 28],
 ⟨some 30,none,.build [.int .i64 0,.int .i64 0,.int .i64 0,.int .i64 0,.sl 1 true []] [(0,1),(1,1),(2,1),(3,1)],[.t 17,.t 21,.t 25,.t 29]⟩,
 ⟨some 5,none,.alloc 1 5 [Z0,Z0,Z0,Z0,.ow 1 true []],[]⟩,
 ⟨none,none,.at 1 (.store 5),[.t 5,.t 30]⟩])) (.lay 1 5))
 (.seq
 (.sr [mv 31 4,
 mv 32 4,
 ii 33 .len [.t 32],
 ii 34 .mn [cI 9,.t 33],
 ii 35 (.slc 1 true false) [.t 31,.t 34],
 ii 36 .len [.t 35],
 ii 37 (.mov false) [cI 0]]
 (.block 0
 (.loop [3,4,7,8,9,10,11,12,13,14,15,16,17,18,19,20,21,22,23,24,25,26,27,28,29,30,31,32,33,34,38,39,40,41,42,43,44,45,46,47,48,49,50,51,52,53,54] []
 (.sr [b2 38 .lss 37 36]
 (.seq
 (.cond (.t 38)
 .skip
 (.exit 0))
 (.seq
 (.block 1
 (.sr [ii 39 (.iad 1) [.t 35,.t 37],
 ld 40 39,
 mt 7 40]
 (.gp (.regd [fa 41 4 5,
 ii 42 (.at 1 (.load 1 false true)) [.t 41],
 mv 43 7,
 ii 44 (.pl (.call 262)) [.t 43],
 ii 45 (.bsl 1 1) [.t 44],
 ii 46 (.pl (.app 1 8)) [.t 42,.t 45],
 fa 47 4 5,
 ⟨none,none,.at 1 (.store 1),[.t 47,.t 46]⟩]) (.lay 1 5))))
 (.reg [b1 48 .add 37 (.int .i64 1),
 mv 37 48])))))))
 (.seq
 (.sr [ii 49 (.load 5 true false) [.t 5],
 ii 50 (.call 252) [.t 49],
 mv 51 0,
 b2 52 .neq 50 51]
 (.cond (.t 52)
 (.seq
 (.gp (.reg [⟨some 53,none,.build [.int .i64 0,.int .i64 0,.int .i64 0,.int .i64 0,.sl 1 true []] [],[]⟩,
 ⟨none,none,.store 5,[.t 2,.t 53]⟩,
 mc 3 (.int .i64 1)]) (.lay 0 5))
 .ret)
 .skip))
 (.seq
 (.gp (.reg [ii 54 (.load 5 true false) [.t 5],
 ⟨none,none,.store 5,[.t 2,.t 54]⟩,
 mc 3 (.int .i64 0)]) (.lay 0 5))
 .ret)))))))⟩
theorem UE:aC Tryz.prog 254 R9=true:=by kernel_rfl
end Go.Proofs.YtnjphclbpgajpaaGreatDoor.Vc
namespace Go.Proofs.YtnjphclbpgajpaaGreatDoor.Ma
structure Ld where
 c:Int
 d:Int
 t:Int
deriving DecidableEq
def Ld.ok(x:Ld):Bool:=decide (1<=x.c)&&decide (x.c<=20000)&&(decide (1<=x.d)&&decide (x.d<=x.t)&&decide (x.t<=200))
theorem Ld.ok_iff{x:Ld}:x.ok=true↔(1<=x.c/\x.c<=20000)/\(1<=x.d/\x.d<=x.t)/\x.t<=200:=by simp[Ld.ok,and_assoc]
def dY(l:List Ld):Bool:=decide (l.length<=24)&&l.all Ld.ok
theorem cW{l:List Ld}:dY l=true↔l.length<=24/\∀x,x∈l->x.ok=true:=by simp[dY]
def cS(f:Ld->Int):List Ld->Int
 |[]=>0
 |x ::xs=>f x+cS f xs
theorem qS(f:Ld->Int)(a b:List Ld):cS f (a++b)=cS f a+cS f b:=by
 induction a with
 |nil=>simp[cS]
 |cons x xs ih=>simp[cS,ih];omega
theorem MO{f g:Ld->Int}{l:List Ld}(h:∀x,x∈l->f x<=g x):cS f l<=cS g l:=by
 induction l with
 |nil=>exact Int.le_refl _
 |cons x xs ih=>
  have:=h x (List.mem_cons_self ..);have:=ih fun y hy=>h y (List.mem_cons_of_mem _ hy)
  simp only[cS];omega
theorem uP{f:Ld->Int}{l:List Ld}{B:Int}(h:∀x,x∈l->0<=f x/\f x<=B):0<=cS f l/\cS f l<=l.length*B:=by
 induction l with
 |nil=>simp[cS]
 |cons x xs ih=>
  have h1:=h x (List.mem_cons_self ..);have h2:=ih fun y hy=>h y (List.mem_cons_of_mem _ hy)
  simp only[cS,List.length_cons,Int.natCast_succ,Int.add_mul,Int.one_mul];omega
theorem vH{f g:Ld->Int}{l:List Ld}(h:∀x,x∈l->f x=g x):cS f l=cS g l:=by
 induction l with
 |nil=>rfl
 |cons x xs ih=>simp only[cS];rw[h x (List.mem_cons_self ..),ih fun y hy=>h y (List.mem_cons_of_mem _ hy)]
def kG(t:Int)(x:Ld):Int:=x.c*((t-1)/x.t+1)
def cT(l:List Ld)(t:Int):Int:=cS (kG t) l
def n5(t:Int)(x:Ld):Int:=if x.d>t then 0 else x.c*((t-x.d)/x.t+1)
def cY(l:List Ld)(t:Int):Int:=cS (n5 t) l
theorem kF{x:Ld}(hx:x.ok=true){t:Int}(h1:1<=t)(h2:t<=20000):1<=kG t x/\kG t x<=400000000:=by
 rw[Ld.ok_iff] at hx;have h3:0<=(t-1)/x.t:=Int.ediv_nonneg (by omega) (by omega)
 have h4:(t-1)/x.t<=t-1:=Int.ediv_le_self _ (by omega)
 unfold kG;refine⟨?_,?_⟩
 ·calc (1:Int)=1*1:=by omega
   _<=x.c*((t-1)/x.t+1):=Int.mul_le_mul (by omega) (by omega) (by omega) (by omega)
 ·calc x.c*((t-1)/x.t+1)<=20000*20000:=Int.mul_le_mul (by omega) (by omega) (by omega) (by omega)
   _=400000000:=by omega
theorem n8{x:Ld}(hx:x.ok=true){t:Int}(h2:t<=20000):0<=n5 t x/\n5 t x<=400000000:=by
 rw[Ld.ok_iff] at hx;unfold n5
 split
 ·omega
 ·have h3:0<=(t-x.d)/x.t:=Int.ediv_nonneg (by omega) (by omega)
  have h4:(t-x.d)/x.t<=t-x.d:=Int.ediv_le_self _ (by omega)
  refine⟨Int.mul_nonneg (by omega) (by omega),?_⟩
  calc x.c*((t-x.d)/x.t+1)<=20000*20000:=Int.mul_le_mul (by omega) (by omega) (by omega) (by omega)
   _=400000000:=by omega
theorem wQ{l:List Ld}(hl:dY l=true){t:Int}(h2:t<=20000):0<=cY l t/\cY l t<=9600000000:=by
 rw[cW] at hl;have h:0<=cY l t/\cY l t<=l.length*400000000:=uP (l:=l) (f:=n5 t) (B:=400000000) fun x hx=>n8 (hl.2 x hx) h2
 omega
theorem FZ{x:Ld}(hx:x.ok=true){s t:Int}(h:s<=t):kG s x<=kG t x:=by
 rw[Ld.ok_iff] at hx;have h3:(s-1)/x.t<=(t-1)/x.t:=Int.ediv_le_ediv (by omega) (by omega)
 exact Int.mul_le_mul_of_nonneg_left (by omega) (by omega)
theorem nG{l:List Ld}(hl:dY l=true){s t:Int}(h:s<=t):cT l s<=cT l t:=by
 rw[cW] at hl;exact MO fun x hx=>FZ (hl.2 x hx) h
theorem wS{l:List Ld}(hl:dY l=true)(hn:l≠[]){t:Int}(h:1<=t)(h2:t<=20000):1<=cT l t:=by
 rw[cW] at hl
 cases l with
 |nil=>exact absurd rfl hn
 |cons x xs=>
  have h1:=kF (hl.2 x (List.mem_cons_self ..)) h h2;have h3:0<=cS (kG t) xs/\cS (kG t) xs<=xs.length*400000000:=uP fun y hy=>by have:=kF (hl.2 y (List.mem_cons_of_mem _ hy)) h h2;omega
  simp only[cT,cS];omega
structure Busy (l:List Ld) (e:Int):Prop where
 lo:1<=e
 hi:e<=20000
 eq:cT l e=e
 least:∀s,1<=s->s<e->cT l s≠s
theorem Busy.uniq{l:List Ld}{e e':Int}(h:Busy l e)(h':Busy l e'):e=e':=by
 rcases Int.lt_trichotomy e e' with hlt|heq|hgt
 ·exact absurd h.eq (h'.least e h.lo hlt)
 ·exact heq
 ·exact absurd h'.eq (h.least e' h'.lo hgt)
theorem tI{l:List Ld}(hl:dY l=true)(hn:l≠[]){e:Int}(h1:1<=e)(h2:e<=20000)(h:cT l e<=e):∃e',Busy l e'/\e'<=e:=by
 obtain⟨n,rfl⟩:=Int.eq_ofNat_of_zero_le (show 0<=e by omega)
 induction n using Nat.strongRecOn with
 |ind n ih=>
  by_cases hs:∃m:Nat,1<=m/\m<n/\cT l m<=m
  ·obtain⟨m,m1,m2,m3⟩:=hs
   obtain⟨e',he,hle⟩:=ih m m2 (by omega) (by omega) m3
   exact⟨e',he,by omega⟩
  ·have hno:∀s:Int,1<=s->s<n->¬cT l s<=s:=fun s s1 s2 hle=>by
    obtain⟨m,rfl⟩:=Int.eq_ofNat_of_zero_le (show 0<=s by omega)
    exact hs ⟨m,by omega,by omega,hle⟩
   refine⟨n,⟨h1,h2,?_,fun s s1 s2 e=>hno s s1 s2 (by omega)⟩,Int.le_refl _⟩
   by_cases hb:(n:Int)=1
   ·have:=wS hl hn h1 h2;omega
   ·have:=hno (n-1) (by omega) (by omega)
    have:=nG hl (s:=(n:Int)-1) (t:=n) (by omega)
    omega
def FitsP(l:List Ld):Prop:=dY l=true/\(l=[]\/∃e,Busy l e/\∀t,1<=t->t<=e->cY l t<=t)
open Classical in
noncomputable def dO (l:List Ld):Bool:=decide (FitsP l)
theorem eD{l:List Ld}:dO l=true↔FitsP l:=by simp[dO]
theorem qT{l:List Ld}:dO l=false↔¬FitsP l:=by simp[dO]
theorem FitsP.less{l:List Ld}{c c' d t:Int}(hf:FitsP (l++[⟨c,d,t⟩]))(h1:1<=c')(h2:c'<=c):FitsP (l++[⟨c',d,t⟩]):=by
 obtain⟨hm,hf⟩:=hf;have hm0:=cW.1 hm;have hc:=Ld.ok_iff.1 (hm0.2 ⟨c,d,t⟩ (by simp))
 have hm':dY (l++[⟨c',d,t⟩])=true:=by
  rw[cW];refine⟨by simpa using hm0.1,fun x hx=>?_⟩
  rcases List.mem_append.1 hx with hx|hx
  ·exact hm0.2 x (by simp[hx])
  ·simp only[List.mem_singleton] at hx
   subst hx;rw[Ld.ok_iff];simp only at hc ⊢;omega
 have ha:∀s:Int,1<=s->cT (l++[⟨c',d,t⟩]) s<=cT (l++[⟨c,d,t⟩]) s:=by
  intro s hs;simp only[cT,qS,cS,kG];have h3:0<=(s-1)/t:=Int.ediv_nonneg (by omega) (by simp only at hc;omega)
  have:=Int.mul_le_mul_of_nonneg_right h2 (show 0<=(s-1)/t+1 by omega)
  omega
 have hd:∀s:Int,cY (l++[⟨c',d,t⟩]) s<=cY (l++[⟨c,d,t⟩]) s:=by
  intro s;simp only[cY,qS,cS,n5]
  split
  ·omega
  ·have h3:0<=(s-d)/t:=Int.ediv_nonneg (by omega) (by simp only at hc;omega)
   have:=Int.mul_le_mul_of_nonneg_right h2 (show 0<=(s-d)/t+1 by omega)
   omega
 refine⟨hm',.inr ?_⟩;rcases hf with hf|⟨e,he,hdue⟩
 ·simp at hf
 ·obtain⟨e',he',hle⟩:=tI hm' (by simp) he.lo he.hi (by have:=ha e he.lo;have:=he.eq;omega)
  exact⟨e',he',fun s s1 s2=>by have:=hdue s s1 (by omega);have:=hd s;omega⟩
theorem x9{x:Ld}(hx:x.ok=true)(t:Int):n5 t x=n5 (t-1) x+if t≥x.d/\(t-x.d)%x.t=0 then x.c else 0:=by
 rw[Ld.ok_iff] at hx;unfold n5
 by_cases h1:x.d>t
 ·rw[if_pos h1,if_pos (by omega),if_neg (by omega)];omega
 ·rw[if_neg h1]
  by_cases h2:x.d>t-1
  ·have:t=x.d:=by omega
   subst this;rw[if_pos h2,if_pos ⟨by omega,by simp⟩]
   simp
  ·rw[if_neg h2]
   have e1:=Int.mul_ediv_add_emod (t-x.d) x.t
   by_cases h3:(t-x.d)%x.t=0
   ·rw[if_pos ⟨by omega,h3⟩]
    have e2:(t-1-x.d)/x.t=(t-x.d)/x.t-1:=by
     have:t-1-x.d=(x.t-1)+x.t*((t-x.d)/x.t-1):=by
      rw[Int.mul_sub];omega
     rw[this,Int.add_mul_ediv_left _ _ (by omega),Int.ediv_eq_zero_of_lt (by omega) (by omega)];omega
    rw[e2];have:(t-x.d)/x.t-1+1=(t-x.d)/x.t:=by omega
    rw[this,Int.mul_add];omega
   ·rw[if_neg fun h=>h3 h.2]
    have hlt:=Int.emod_lt_of_pos (t-x.d) (show 0<x.t by omega)
    have hge:=Int.emod_nonneg (t-x.d) (show x.t≠0 by omega)
    have e2:(t-1-x.d)/x.t=(t-x.d)/x.t:=by
     have:t-1-x.d=((t-x.d)%x.t-1)+x.t*((t-x.d)/x.t):=by omega
     rw[this,Int.add_mul_ediv_left _ _ (by omega),Int.ediv_eq_zero_of_lt (by omega) (by omega)];omega
    rw[e2];omega
theorem BR{l:List Ld}(hl:dY l=true):cY l 0=0:=by
 rw[cW] at hl
 have:cY l 0=cS (fun _=>0) l:=vH fun x hx=>by
  have:=Ld.ok_iff.1 (hl.2 x hx);unfold n5;rw[if_pos (by omega)]
 rw[this];clear this hl
 induction l with
 |nil=>rfl
 |cons x xs ih=>simp[cS,ih]
theorem GF{l:List Ld}(hl:dY l=true){F:Int}(h:∀x,x∈l->∀k:Int,0<=k->x.d+k*x.t<F->cY l (x.d+k*x.t)<=x.d+k*x.t):∀t,0<=t->t<F->cY l t<=t:=by
 intro t ht;obtain⟨n,rfl⟩:=Int.eq_ofNat_of_zero_le ht;clear ht
 induction n with
 |zero=>intro _;have:=BR hl;simp only[Int.natCast_zero] at *;omega
 |succ n ih=>
  intro hF;simp only[Int.natCast_succ] at *
  by_cases hx:∃x,x∈l/\((n:Int)+1≥x.d/\((n:Int)+1-x.d)%x.t=0)
  ·obtain⟨x,hx,h1,h2⟩:=hx
   have hok:=Ld.ok_iff.1 ((cW.1 hl).2 x hx);have e1:=Int.mul_ediv_add_emod ((n:Int)+1-x.d) x.t;have e2:(n:Int)+1=x.d+((n:Int)+1-x.d)/x.t*x.t:=by rw[Int.mul_comm];omega
   have:=h x hx (((n:Int)+1-x.d)/x.t) (Int.ediv_nonneg (by omega) (by omega)) (by omega)
   rw[<-e2] at this;exact this
  ·have:cY l ((n:Int)+1)=cY l n:=vH fun x hm=>by
    rw[x9 ((cW.1 hl).2 x hm),if_neg fun hh=>hx ⟨x,hm,hh⟩]
    have:(n:Int)+1-1=n:=by omega
    rw[this];omega
   have:=ih (by omega)
   omega
open Classical in
noncomputable def bK (l:List Ld):Int×Bool :=
 if dY l=false then (0,false) else if l=[] then (0,true) else if h:∃e,Busy l e then (h.choose,true) else (0,false)
theorem q8{l:List Ld}(h:dY l=false):bK l=(0,false):=by unfold bK;rw[if_pos h]
theorem mG:bK []=(0,true):=by
 have:dY []=true:=by decide
 unfold bK;rw[if_neg (by rw[this];decide),if_pos rfl]
theorem kI{l:List Ld}(h:dY l=true)(hn:l≠[]){e:Int}(hb:Busy l e):bK l=(e,true):=by
 have hx:∃e,Busy l e:=⟨e,hb⟩;unfold bK;rw[if_neg (by rw[h];decide),if_neg hn,dif_pos hx,hx.choose_spec.uniq hb]
theorem tG{l:List Ld}(h:dY l=true)(hn:l≠[])(hb:¬ ∃e,Busy l e):bK l=(0,false):=by
 unfold bK;rw[if_neg (by rw[h];decide),if_neg hn,dif_neg hb]
theorem lK{l:List Ld}(h:(bK l).2=true):dY l=true/\((l=[]/\(bK l).1=0)\/(l≠[]/\Busy l (bK l).1)):=by
 cases hm:dY l with
 |false=>rw[q8 hm] at h;cases h
 |true=>
  refine⟨rfl,?_⟩
  by_cases hn:l=[]
  ·subst hn;exact .inl ⟨rfl,by rw[mG]⟩
  ·by_cases hb:∃e,Busy l e
   ·obtain⟨e,he⟩:=hb
    rw[kI hm hn he];exact .inr ⟨hn,he⟩
   ·rw[tG hm hn hb] at h;cases h
theorem qZ(l:List Ld):0<=(bK l).1/\(bK l).1<=20000:=by
 cases h:(bK l).2 with
 |true=>
  rcases(lK h).2 with ⟨_,e⟩|⟨_,hb⟩
  ·omega
  ·have:=hb.lo;have:=hb.hi;omega
 |false=>
  unfold bK at *
  split at h<;>rename_i h1
  ·rw[if_pos h1];simp
  ·rw[if_neg h1]
   split at h<;>rename_i h2
   ·cases h
   ·rw[if_neg h2]
    split at h<;>rename_i h3
    ·cases h
    ·rw[dif_neg h3];simp
structure Seek (l:List Ld) (t:Int):Prop where
 may:dY l=true
 one:l≠[]
 lo:1<=t
 up:t<=20000->t<=cT l t
 low:∀e,Busy l e->t<=e
theorem Seek.start{l:List Ld}(h:dY l=true)(hn:l≠[]):Seek l 1:=⟨h,hn,Int.le_refl _,fun _=>wS h hn (Int.le_refl _) (by omega),fun _ he=>he.lo⟩
theorem Seek.found{l:List Ld}{t:Int}(h:Seek l t)(ht:t<=20000)(he:cT l t=t):bK l=(t,true):=by
 refine kI h.may h.one ⟨h.lo,ht,he,fun s h1 h2 hs=>?_⟩
 obtain⟨e,he,hle⟩:=tI h.may h.one h1 (by omega) (by omega)
 have:=h.low e he;omega
theorem Seek.next{l:List Ld}{t:Int}(h:Seek l t)(ht:t<=20000)(hne:cT l t≠t):Seek l (cT l t)/\t<cT l t:=by
 have h1:=h.up ht;have h2:=h.lo;exact⟨⟨h.may,h.one,by omega,fun _=>nG h.may h1,fun e he=>by have:=nG h.may (h.low e he);have:=he.eq;omega⟩,by omega⟩
theorem Seek.never{l:List Ld}{t:Int}(h:Seek l t)(ht:¬t<=20000):bK l=(0,false) :=
 tG h.may h.one fun ⟨e,he⟩=>by have:=h.low e he;have:=he.hi;omega
structure OverAt (l:List Ld) (e t:Int):Prop where
 lo:1<=t
 hi:t<=e
 over:t<cY l t
 first:∀s,1<=s->s<t->cY l s<=s
theorem OverAt.uniq{l:List Ld}{e t t':Int}(h:OverAt l e t)(h':OverAt l e t'):t=t':=by
 rcases Int.lt_trichotomy t t' with hlt|heq|hgt
 ·have:=h'.first t h.lo hlt;have:=h.over;omega
 ·exact heq
 ·have:=h.first t' h'.lo hgt;have:=h'.over;omega
open Classical in
noncomputable def cQ (l:List Ld) (e:Int):Int:=if h:∃t,OverAt l e t then h.choose else 0
theorem qC{l:List Ld}{e t:Int}(h:OverAt l e t):cQ l e=t:=by
 have hx:∃t,OverAt l e t:=⟨t,h⟩;unfold cQ;rw[dif_pos hx];exact hx.choose_spec.uniq h
theorem fI{l:List Ld}{e:Int}(h:∀t,1<=t->t<=e->cY l t<=t):cQ l e=0:=by
 unfold cQ;rw[dif_neg fun ⟨t,ht⟩=>by have:=h t ht.lo ht.hi;have:=ht.over;omega]
theorem yI(l:List Ld)(e:Int):OverAt l e (cQ l e)\/(cQ l e=0/\∀t,1<=t->t<=e->cY l t<=t):=by
 by_cases hx:∃t,OverAt l e t
 ·obtain⟨t,ht⟩:=hx;rw[qC ht];exact .inl ht
 ·refine .inr ⟨by unfold cQ;rw[dif_neg hx],fun t h1 h2=>?_⟩
  obtain⟨n,rfl⟩:=Int.eq_ofNat_of_zero_le (show 0<=t by omega)
  induction n using Nat.strongRecOn with
  |ind n ih=>
   refine Int.not_lt.1 fun hlt=>hx ⟨n,h1,h2,hlt,fun s s1 s2=>?_⟩
   obtain⟨m,rfl⟩:=Int.eq_ofNat_of_zero_le (show 0<=s by omega)
   exact ih m (by omega) s1 (by omega)
theorem CQ(l:List Ld):dO l=((bK l).2&&decide (cQ l (bK l).1=0)):=by
 rw[Bool.eq_iff_iff,eD,aY,decide_eq_true_eq]
 constructor
 ·rintro⟨h1,rfl|⟨e,he,hd⟩⟩
  ·rw[mG];exact⟨rfl,fI fun t h1 h2=>by simp only at h2;omega⟩
  ·have hn:l≠[]:=fun e0=>by
    subst e0;have h2:=he.eq;have:=he.lo;simp only[cT,cS] at h2;omega
   rw[kI h1 hn he];exact⟨rfl,fI hd⟩
 ·rintro⟨h1,h2⟩
  obtain⟨h3,h4⟩:=lK h1;refine⟨h3,?_⟩;rcases h4 with ⟨rfl,_⟩|⟨_,hb⟩
  ·exact .inl rfl
  ·refine .inr ⟨_,hb,?_⟩
   rcases yI l (bK l).1 with h|h
   ·have:=h.lo;omega
   ·exact h.2
structure Look (l:List Ld) (e first:Int) (seen:Ld->Int->Prop):Prop where
 may:dY l=true
 fst:first=e+1\/(1<=first/\first<=e/\first<cY l first)
 ok:∀x,x∈l->∀k:Int,0<=k->seen x k->x.d+k*x.t<first->cY l (x.d+k*x.t)<=x.d+k*x.t
theorem Look.end{l:List Ld}{e first:Int}{seen:Ld->Int->Prop}(h:Look l e first seen)(hs:∀x,x∈l->∀k,0<=k->x.d+k*x.t<first->seen x k):cQ l e=if first>e then 0 else first:=by
 have hd:∀t,0<=t->t<first->cY l t<=t:=GF h.may fun x hx k hk hlt=>h.ok x hx k hk (hs x hx k hk hlt) hlt
 rcases h.fst with h1|⟨h1,h2,h3⟩
 ·rw[if_pos (by omega)]
  exact fI fun t t1 t2=>hd t (by omega) (by omega)
 ·rw[if_neg (by omega)]
  exact qC ⟨h1,h2,h3,fun s s1 s2=>hd s (by omega) s2⟩
noncomputable def iP (l:List Ld) (c d t:Int):Bool:=dO (l++[⟨c,d,t⟩])
theorem GQ{l:List Ld}{c c' d t:Int}(h:iP l c d t=true)(h1:1<=c')(h2:c'<=c):iP l c' d t=true:=by
 unfold iP at *;rw[eD] at *;exact h.less h1 h2
noncomputable def vJ (l:List Ld) (d t:Int):Bool:=decide (l.length<=23)&&(decide (1<=d)&&(decide (d<=t)&&(decide (t<=200)&&dO l)))
noncomputable def dD (l:List Ld) (d t:Int):Nat->Int
 |0=>0
 |n+1=>if iP l (n+1:Int) d t then (n+1:Int) else dD l d t n
theorem vK(l:List Ld)(d t:Int)(n:Nat):0<=dD l d t n/\dD l d t n<=n/\(dD l d t n≠0->iP l (dD l d t n) d t=true)/\∀c,dD l d t n<c->c<=n->iP l c d t=false:=by
 induction n with
 |zero=>simp only[dD];exact⟨by omega,by omega,fun h=>absurd rfl h,fun c h1 h2=>by omega⟩
 |succ n ih=>
  simp only[dD]
  split
  ·rename_i h
   exact⟨by omega,by omega,fun _=>h,fun c h1 h2=>by omega⟩
  ·rename_i h
   refine⟨ih.1,by omega,ih.2.2.1,fun c h1 h2=>?_⟩
   by_cases hc:c=(n+1:Int)
   ·subst hc;simpa using h
   ·exact ih.2.2.2 c h1 (by omega)
noncomputable def FV (l:List Ld) (d t m:Int):Int:=if vJ l d t then dD l d t (min m d).toNat else 0
noncomputable def jJ (l:List Ld) (t:Int):Nat->Int->Int
 |0,c=>c
 |n+1,c=>if iP l (c+1) (c+1) t then jJ l t n (c+1) else c
noncomputable def z8 (l:List Ld) (t m:Int):Int:=if vJ l t t then jJ l t (min m t).toNat 0 else 0
end Go.Proofs.YtnjphclbpgajpaaGreatDoor.Ma
namespace Go.Proofs.YtnjphclbpgajpaaGreatDoor.Vc
open Go.RowKit Ma
def eL(x:Ld):PV:=.agg [.int .i64 x.c,.int .i64 x.d,.int .i64 x.t]
def sL(nl:Bool)(l:List Ld):PV:=.sl 3 nl (l.map eL)
theorem aO{a b:Bool}(h:a=b):cN [TV.p (.bool a)]=DV.p (.bool b):=by subst h;rfl
theorem dA{a b:Int}(h:a=b):cN [TV.p (.int .i64 a)]=DV.p (.int .i64 b):=by subst h;rfl
theorem l8{i n:Nat}(h:i<n):decide ((i:Int)<(n:Int))=true:=by simp[h]
theorem nA{i n:Nat}(h:¬i<n):decide ((i:Int)<(n:Int))=false:=by simp;omega
theorem fY{i:Nat}{n:Nat}(h:i<n)(hn:n<=maxLen):IntKind.wrap .i64 ((i:Int)+1)=((i+1:Nat):Int):=by
 have:maxLen=9223372036854775807:=by decide
 rw[aJ (by omega) (by omega)];omega
theorem yE(n a b:Int):aB Tryz.prog 77 [.int .i64 n,.int .i64 a,.int .i64 b] (.p (.bool (decide (a<=n)&&decide (n<=b)))):=by
 refine Fn.run k77 rfl ?_;generalize Tryz.prog=P
 (repeat'((conv=>whnf);first|exact trivial|(with_reducible first|refine zX ?_|refine zP ?_|refine zL ?_)|refine⟨rfl,?_⟩|refine⟨_,rfl,?_⟩|refine⟨fun _=>?_,fun _=>?_⟩|refine zn ?_|refine zb rfl ?_|refine zX ?_|refine zo rfl ?_|refine zs ?_|intro _));all_goals(try(conv=>whnf))
 all_goals (refine aO (Bool.eq_iff_iff.2 ?_);simp only[aY,Bool.or_eq_true,Bool.and_eq_false_iff,Bool.or_eq_false_iff,decide_eq_true_eq,decide_eq_false_iff_not,Bool.not_eq_true',Bool.not_eq_false',Bool.false_eq_true,Bool.true_eq_false,Bool.not_true,Bool.not_false,ge_iff_le,gt_iff_lt] at *;first|done|omega|(simp only[false_iff];omega)|(simp only[true_iff];omega)|grind)
theorem JU(n a b:Int):aB Tryz.prog 126 [.int .i64 n,.int .i64 a,.int .i64 b] (.p (.bool (decide (a<=n)&&decide (n<=b)))):=by
 refine Fn.run S2 rfl ?_;generalize Tryz.prog=P
 (repeat'((conv=>whnf);first|exact trivial|(with_reducible first|refine zX ?_|refine zP ?_|refine zL ?_)|refine⟨rfl,?_⟩|refine⟨_,rfl,?_⟩|refine⟨fun _=>?_,fun _=>?_⟩|refine zn ?_|refine zb rfl ?_|refine zX ?_|refine zo rfl ?_|refine zs ?_|intro _));all_goals(try(conv=>whnf))
 all_goals (refine aO (Bool.eq_iff_iff.2 ?_);simp only[aY,Bool.or_eq_true,Bool.and_eq_false_iff,Bool.or_eq_false_iff,decide_eq_true_eq,decide_eq_false_iff_not,Bool.not_eq_true',Bool.not_eq_false',Bool.false_eq_true,Bool.true_eq_false,Bool.not_true,Bool.not_false,ge_iff_le,gt_iff_lt] at *;first|done|omega|(simp only[false_iff];omega)|(simp only[true_iff];omega)|grind)
theorem F0(x:Ld):aB Tryz.prog 234 [eL x] (.p (.bool x.ok)):=by
 have h:=JU x.c 1 20000;refine Fn.run QT rfl ?_;generalize Tryz.prog=P at *
 (repeat'((conv=>whnf);first|exact trivial|(with_reducible first|refine zX ?_|refine zP ?_|refine zL ?_)|refine⟨rfl,?_⟩|refine⟨_,rfl,?_⟩|refine⟨fun _=>?_,fun _=>?_⟩|refine zn ?_|refine zb rfl ?_|refine zX ?_|refine zo rfl ?_|refine zs ?_|intro _));all_goals(try(conv=>whnf))
 all_goals (refine aO (Bool.eq_iff_iff.2 ?_);simp only[Ld.ok_iff,aY,Bool.or_eq_true,Bool.and_eq_false_iff,Bool.or_eq_false_iff,decide_eq_true_eq,decide_eq_false_iff_not,Bool.not_eq_true',Bool.not_eq_false',Bool.false_eq_true,Bool.true_eq_false,Bool.not_true,Bool.not_false,ge_iff_le,gt_iff_lt] at *;first|done|omega|(simp only[false_iff];omega)|(simp only[true_iff];omega)|grind)
theorem M3(x:Ld):aB Tryz.prog 74 [eL x] (.p (.bool x.ok)):=by
 have h:=yE x.c 1 20000;refine Fn.run k74 rfl ?_;generalize Tryz.prog=P at *
 (repeat'((conv=>whnf);first|exact trivial|(with_reducible first|refine zX ?_|refine zP ?_|refine zL ?_)|refine⟨rfl,?_⟩|refine⟨_,rfl,?_⟩|refine⟨fun _=>?_,fun _=>?_⟩|refine zn ?_|refine zb rfl ?_|refine zX ?_|refine zo rfl ?_|refine zs ?_|intro _));all_goals(try(conv=>whnf))
 all_goals (refine aO (Bool.eq_iff_iff.2 ?_);simp only[Ld.ok_iff,aY,Bool.or_eq_true,Bool.and_eq_false_iff,Bool.or_eq_false_iff,decide_eq_true_eq,decide_eq_false_iff_not,Bool.not_eq_true',Bool.not_eq_false',Bool.false_eq_true,Bool.true_eq_false,Bool.not_true,Bool.not_false,ge_iff_le,gt_iff_lt] at *;first|done|omega|(simp only[false_iff];omega)|(simp only[true_iff];omega)|grind)
theorem T3(x:Ld):aB Tryz.prog 233 [eL x] (.p (.bool !x.ok)):=by
 have h:=F0 x;refine Fn.run QE rfl ?_;generalize Tryz.prog=P at *
 (repeat'((conv=>whnf);first|exact trivial|(with_reducible first|refine zX ?_|refine zP ?_|refine zL ?_)|refine⟨rfl,?_⟩|refine⟨_,rfl,?_⟩|refine⟨fun _=>?_,fun _=>?_⟩|refine zn ?_|refine zb rfl ?_|refine zX ?_|refine zo rfl ?_|refine zs ?_|intro _));all_goals(try(conv=>whnf))
 all_goals exact aO rfl
theorem Q5(x:Ld):aB Tryz.prog 235 [eL x] (.p (.bool !x.ok)):=by
 have h:=F0 x;refine Fn.run PW rfl ?_;generalize Tryz.prog=P at *
 (repeat'((conv=>whnf);first|exact trivial|(with_reducible first|refine zX ?_|refine zP ?_|refine zL ?_)|refine⟨rfl,?_⟩|refine⟨_,rfl,?_⟩|refine⟨fun _=>?_,fun _=>?_⟩|refine zn ?_|refine zb rfl ?_|refine zX ?_|refine zo rfl ?_|refine zs ?_|intro _));all_goals(try(conv=>whnf))
 all_goals exact aO rfl
def iE{α:Type}(p : α->Bool):List α->Int->Int
 |[],_ => -1
 |x ::xs,k=>if p x then k else iE p xs (k+1)
theorem B7{α:Type}{p : α->Bool}{l:List α}:∀{k:Int},0<=k->(decide (0<=iE p l k)=l.any p):=by
 induction l with
 |nil=>intro k _;simp[iE]
 |cons x xs ih=>
  intro k hk;simp only[iE,List.any_cons]
  split
  ·rename_i h;simp[h,hk]
  ·rename_i h;simp[h,ih (show 0<=k+1 by omega)]
theorem K4(nl:Bool)(l:List Ld)(f:FuncId)(caps:List PV)(p:Ld->Bool)(hp:∀x,x∈l->aB Tryz.prog f ([eL x]++caps) (.p (.bool (p x)))) :
  aB Tryz.prog 247 [sL nl l,.fn f caps] (.p (.int .i64 (iE p l 0))):=by
 refine Fn.run PT rfl ?_;generalize Tryz.prog=P at *
 (repeat'((conv=>whnf);first|exact trivial|(with_reducible first|refine zX ?_|refine zP ?_|refine zL ?_)|refine⟨rfl,?_⟩|refine⟨_,rfl,?_⟩|refine⟨fun _=>?_,fun _=>?_⟩|refine zn ?_|refine zb rfl ?_|refine zX ?_|refine zo rfl ?_|refine zs ?_|intro _));all_goals(try(conv=>whnf))
 rename_i hlen;refine aX (fun n s=>∃i:Nat,n+i=l.length/\iE p (l.drop i) i=iE p l 0/\s=⟨gM 19 [(0,.p (sL nl l)),(1,.p (.fn f caps)),(7,.p (.int .i64 (l.map eL).length)),(8,.p (.int .i64 i))],[]⟩) l.length ?_ ?_
 ·conv=>whnf
  exact⟨0,rfl,rfl,rfl⟩
 ·rintro n t b N ⟨i,hi,hI,e⟩ hN
  cases e
  by_cases hlt:i<l.length
  ·have hrow:(l.map eL)[i]?=some (eL l[i]):=by simp[hlt]
   have hb:=l8 (n:=(l.map eL).length) (by simpa using hlt)
   have hc:=hp l[i] (List.getElem_mem _);rw[List.drop_eq_getElem_cons hlt] at hI;simp only[iE] at hI
   (repeat'((conv=>whnf);first|exact trivial|(with_reducible first|refine zX ?_|refine zP ?_|refine zL ?_)|refine⟨rfl,?_⟩|refine⟨_,rfl,?_⟩|refine⟨fun _=>?_,fun _=>?_⟩|refine zn ?_|refine zb rfl ?_|refine zX ?_|refine zo rfl ?_|refine zs ?_|intro _));all_goals(try(conv=>whnf))
   ·rename_i e;rw[if_pos e] at hI;exact dA hI
   ·rename_i e
    rw[fY (by simpa using hlt) hlen]
    rw[if_neg (by rw[e];decide)] at hI
    exact hN (n-1) _ (by omega) ⟨i+1,by omega,hI,rfl⟩
  ·have hb:=nA (n:=(l.map eL).length) (by simpa using hlt)
   (repeat'((conv=>whnf);first|exact trivial|(with_reducible first|refine zX ?_|refine zP ?_|refine zL ?_)|refine⟨rfl,?_⟩|refine⟨_,rfl,?_⟩|refine⟨fun _=>?_,fun _=>?_⟩|refine zn ?_|refine zb rfl ?_|refine zX ?_|refine zo rfl ?_|refine zs ?_|intro _));all_goals(try(conv=>whnf))
   rw[List.drop_of_length_le (by omega)] at hI
   exact dA hI
theorem J8(nl:Bool)(l:List Ld)(f:FuncId)(caps:List PV)(p:Ld->Bool)(hp:∀x,x∈l->aB Tryz.prog f ([eL x]++caps) (.p (.bool (p x)))) :
  aB Tryz.prog 232 [sL nl l,.fn f caps] (.p (.bool (l.any p))):=by
 have h:=K4 nl l f caps p hp;refine Fn.run SE rfl ?_;generalize Tryz.prog=P at *
 (repeat'((conv=>whnf);first|exact trivial|(with_reducible first|refine zX ?_|refine zP ?_|refine zL ?_)|refine⟨rfl,?_⟩|refine⟨_,rfl,?_⟩|refine⟨fun _=>?_,fun _=>?_⟩|refine zn ?_|refine zb rfl ?_|refine zX ?_|refine zo rfl ?_|refine zs ?_|intro _));all_goals(try(conv=>whnf))
 all_goals exact aO (B7 (Int.le_refl 0))
theorem NS(nl:Bool)(l:List Ld):aB Tryz.prog 209 [sL nl l] (.p (.bool (dY l))):=by
 have h:=J8 nl l 233 [] (fun x => !x.ok) fun x _=>T3 x
 refine Fn.run T7 rfl ?_;generalize Tryz.prog=P at *
 (repeat'((conv=>whnf);first|exact trivial|(with_reducible first|refine zX ?_|refine zP ?_|refine zL ?_)|refine⟨rfl,?_⟩|refine⟨_,rfl,?_⟩|refine⟨fun _=>?_,fun _=>?_⟩|refine zn ?_|refine zb rfl ?_|refine zX ?_|refine zo rfl ?_|refine zs ?_|intro _));all_goals(try(conv=>whnf))
 ·rename_i e
  refine aO ?_;unfold dY;simp only[List.length_map,decide_eq_true_eq] at e;have e':l.length<=24:=by omega
  simp[e',List.all_eq_not_any_not]
 ·rename_i e
  refine aO ?_;unfold dY;simp only[List.length_map,Bool.not_true,decide_eq_false_iff_not] at e;have e':¬l.length<=24:=by omega
  simp[e']
theorem PG{a b:Int}(ha:1<=a)(hb:1<=b):(if 0<a.tmod b then a.tdiv b+1 else a.tdiv b)=(a-1)/b+1:=by
 rw[Int.tdiv_eq_ediv_of_nonneg (by omega),Int.tmod_eq_emod_of_nonneg (by omega)]
 have e1:=Int.mul_ediv_add_emod a b;have h1:=Int.emod_nonneg a (show b≠0 by omega)
 have h2:=Int.emod_lt_of_pos a (show 0<b by omega)
 split
 ·have:a-1=(a%b-1)+b*(a/b):=by omega
  rw[this,Int.add_mul_ediv_left _ _ (by omega),Int.ediv_eq_zero_of_lt (a:=a%b-1) (b:=b) (by omega) (by omega)];omega
 ·have:a-1=(b-1)+b*(a/b-1):=by rw[Int.mul_sub];omega
  rw[this,Int.add_mul_ediv_left _ _ (by omega),Int.ediv_eq_zero_of_lt (a:=b-1) (b:=b) (by omega) (by omega)];omega
theorem VB(a b:Int)(ha:1<=a)(ha2:a<=20000)(hb:1<=b):aB Tryz.prog 196 [.int .i64 a,.int .i64 b] (.p (.int .i64 ((a-1)/b+1))):=by
 have hl:=PG ha hb
 have hq:0<=a.tdiv b/\a.tdiv b<=a:=by
  rw[Int.tdiv_eq_ediv_of_nonneg (by omega)]
  exact⟨Int.ediv_nonneg (by omega) (by omega),Int.ediv_le_self _ (by omega)⟩
 have hb0:decide (b<=0)=false:=decide_eq_false (by omega)
 have hbn:b≠0:=by omega
 refine Fn.run P0 rfl ?_;generalize Tryz.prog=P at *
 (repeat'((conv=>whnf);first|exact trivial|(with_reducible first|refine zX ?_|refine zP ?_|refine zL ?_)|refine⟨rfl,?_⟩|refine⟨_,rfl,?_⟩|refine⟨fun _=>?_,fun _=>?_⟩|refine zn ?_|refine zb rfl ?_|refine zX ?_|refine zo rfl ?_|refine zs ?_|intro _));all_goals(try(conv=>whnf))
 ·rename_i e
  refine dA ?_;rw[aJ (n:=a.tdiv b) (by omega) (by omega),aJ (by omega) (by omega), <-hl,if_pos (of_decide_eq_true e)]
 ·rename_i e
  refine dA ?_;rw[aJ (n:=a.tdiv b) (by omega) (by omega), <-hl,if_neg (of_decide_eq_false e)]
theorem MN(nl:Bool)(l:List Ld)(t:Int)(hl:dY l=true)(h1:1<=t)(h2:t<=20000):aB Tryz.prog 210 [sL nl l,.int .i64 t] (.p (.int .i64 (cT l t))):=by
 have hm:=NS nl l;rw[hl] at hm;have hup:=fun b hb=>VB t b h1 h2 hb
 have ht0:decide (t<0)=false:=decide_eq_false (by omega)
 have ht1:decide (t>20000)=false:=decide_eq_false (by omega)
 have hl':=cW.1 hl;refine Fn.run RZ rfl ?_;generalize Tryz.prog=P at *
 (repeat'((conv=>whnf);first|exact trivial|(with_reducible first|refine zX ?_|refine zP ?_|refine zL ?_)|refine⟨rfl,?_⟩|refine⟨_,rfl,?_⟩|refine⟨fun _=>?_,fun _=>?_⟩|refine zn ?_|refine zb rfl ?_|refine zX ?_|refine zo rfl ?_|refine zs ?_|intro _));all_goals(try(conv=>whnf))
 rename_i hlen
 refine aX (fun n s=>∃(i:Nat) (acc:Int),n+i=l.length/\acc+cS (kG t) (l.drop i)=cT l t/\0<=acc/\acc<=i*400000000 /\
  s=⟨gM 36 [(1,.p (.int .i64 t)),(5,.p (.int .i64 acc)),(19,.p (sL nl l)),(20,.p (.int .i64 (l.map eL).length)),(21,.p (.int .i64 i))],[none]⟩) l.length ?_ ?_
 ·conv=>whnf
  exact⟨0,0,rfl,by simp[cT],Int.le_refl _,by omega,rfl⟩
 ·rintro n st b N ⟨i,acc,hi,hI,ha1,ha2,e⟩ hN
  cases e
  by_cases hlt:i<l.length
  ·have hrow:(l.map eL)[i]?=some (eL l[i]):=by simp[hlt]
   have hb:=l8 (n:=(l.map eL).length) (by simpa using hlt)
   have hok:=hl'.2 l[i] (List.getElem_mem _);have hc:=hup l[i].t (by have:=Ld.ok_iff.1 hok;omega)
   have hbd:=kF hok h1 h2;rw[List.drop_eq_getElem_cons hlt] at hI;simp only[cS] at hI
   (repeat'((conv=>whnf);first|exact trivial|(with_reducible first|refine zX ?_|refine zP ?_|refine zL ?_)|refine⟨rfl,?_⟩|refine⟨_,rfl,?_⟩|refine⟨fun _=>?_,fun _=>?_⟩|refine zn ?_|refine zb rfl ?_|refine zX ?_|refine zo rfl ?_|refine zs ?_|intro _));all_goals(try(conv=>whnf))
   rw[fY (by simpa using hlt) hlen]
   have e1:IntKind.wrap .i64 (l[i].c*((t-1)/l[i].t+1))=kG t l[i]:=aJ (by unfold kG at hbd;omega) (by unfold kG at hbd;omega)
   rw[e1,aJ (by omega) (by omega)]
   exact hN (n-1) _ (by omega) ⟨i+1,acc+kG t l[i],by omega,by omega,by omega,by omega,rfl⟩
  ·have hb:=nA (n:=(l.map eL).length) (by simpa using hlt)
   (repeat'((conv=>whnf);first|exact trivial|(with_reducible first|refine zX ?_|refine zP ?_|refine zL ?_)|refine⟨rfl,?_⟩|refine⟨_,rfl,?_⟩|refine⟨fun _=>?_,fun _=>?_⟩|refine zn ?_|refine zb rfl ?_|refine zX ?_|refine zo rfl ?_|refine zs ?_|intro _));all_goals(try(conv=>whnf))
   rw[List.drop_of_length_le (by omega)] at hI
   simp only[cS] at hI;exact dA (by omega)
theorem KC(nl:Bool)(l:List Ld):aB Tryz.prog 174 [sL nl l] (.tup [.p (.int .i64 (bK l).1),.p (.bool (bK l).2)]):=by
 have hm:=NS nl l
 cases hl:dY l with
 |false=>
  rw[hl] at hm;rw[q8 hl];refine Fn.run J7 rfl ?_;generalize Tryz.prog=P at *
  (repeat'((conv=>whnf);first|exact trivial|(with_reducible first|refine zX ?_|refine zP ?_|refine zL ?_)|refine⟨rfl,?_⟩|refine⟨_,rfl,?_⟩|refine⟨fun _=>?_,fun _=>?_⟩|refine zn ?_|refine zb rfl ?_|refine zX ?_|refine zo rfl ?_|refine zs ?_|intro _));all_goals(try(conv=>whnf))
  rfl
 |true=>
  rw[hl] at hm
  by_cases hn:l=[]
  ·subst hn
   rw[mG];have hz:((([]:List Ld).map eL).length:Int) ==0:=rfl;refine Fn.run J7 rfl ?_;generalize Tryz.prog=P at *
   (repeat'((conv=>whnf);first|exact trivial|(with_reducible first|refine zX ?_|refine zP ?_|refine zL ?_)|refine⟨rfl,?_⟩|refine⟨_,rfl,?_⟩|refine⟨fun _=>?_,fun _=>?_⟩|refine zn ?_|refine zb rfl ?_|refine zX ?_|refine zo rfl ?_|refine zs ?_|intro _));all_goals(try(conv=>whnf))
   rfl
  ·have hask:=fun t h1 h2=>MN nl l t hl h1 h2
   have hz:(((l.map eL).length:Int) ==0)=false:=by
    cases l with
    |nil=>exact absurd rfl hn
    |cons x xs=>simp;omega
   refine Fn.run J7 rfl ?_;generalize Tryz.prog=P at *
   (repeat'((conv=>whnf);first|exact trivial|(with_reducible first|refine zX ?_|refine zP ?_|refine zL ?_)|refine⟨rfl,?_⟩|refine⟨_,rfl,?_⟩|refine⟨fun _=>?_,fun _=>?_⟩|refine zn ?_|refine zb rfl ?_|refine zX ?_|refine zo rfl ?_|refine zs ?_|intro _));all_goals(try(conv=>whnf))
   refine aX (fun n s=>∃t:Int,n=(20001-t).toNat/\Seek l t/\s=⟨gM 22 [(0,.p (sL nl l)),(4,.p (.int .i64 t))],[]⟩) 20000 ?_ ?_
   ·conv=>whnf
    exact⟨1,rfl,Seek.start hl hn,rfl⟩
   ·rintro n st b N ⟨t,hnn,hs,e⟩ hN
    cases e
    by_cases ht:t<=20000
    ·have hc:=hask t hs.lo ht
     have hb:decide (t<=20000)=true:=decide_eq_true ht
     (repeat'((conv=>whnf);first|exact trivial|(with_reducible first|refine zX ?_|refine zP ?_|refine zL ?_)|refine⟨rfl,?_⟩|refine⟨_,rfl,?_⟩|refine⟨fun _=>?_,fun _=>?_⟩|refine zn ?_|refine zb rfl ?_|refine zX ?_|refine zo rfl ?_|refine zs ?_|intro _));all_goals(try(conv=>whnf))
     ·rename_i e
      rw[hs.found ht (by simpa using e)];rfl
     ·rename_i e
      have hx:=hs.next ht (by simpa using e)
      exact hN _ _ (by omega) ⟨cT l t,rfl,hx.1,rfl⟩
    ·have hb:decide (t<=20000)=false:=decide_eq_false ht
     (repeat'((conv=>whnf);first|exact trivial|(with_reducible first|refine zX ?_|refine zP ?_|refine zL ?_)|refine⟨rfl,?_⟩|refine⟨_,rfl,?_⟩|refine⟨fun _=>?_,fun _=>?_⟩|refine zn ?_|refine zb rfl ?_|refine zX ?_|refine zo rfl ?_|refine zs ?_|intro _));all_goals(try(conv=>whnf))
     rw[hs.never ht];rfl
theorem JE{a b:Int}(hb:1<=b):(if a.tmod b<0 then a.tdiv b-1 else a.tdiv b)=a/b:=by
 have e1:=Int.mul_tdiv_add_tmod a b;have h2:=Int.tmod_lt_of_pos a (show 0<b by omega)
 have h3 : -b<a.tmod b:=by
  have:=Int.lt_tmod_of_pos a (show 0<b by omega)
  omega
 split
 ·have:a=(a.tmod b+b)+b*(a.tdiv b-1):=by rw[Int.mul_sub];omega
  conv=>rhs;rw[this]
  rw[Int.add_mul_ediv_left _ _ (by omega),Int.ediv_eq_zero_of_lt (a:=a.tmod b+b) (b:=b) (by omega) (by omega)];omega
 ·have:a=a.tmod b+b*a.tdiv b:=by omega
  conv=>rhs;rw[this]
  rw[Int.add_mul_ediv_left _ _ (by omega),Int.ediv_eq_zero_of_lt (a:=a.tmod b) (b:=b) (by omega) (by omega)];omega
theorem DX{a b:Int}(hb:1<=b)(h1 : -1000000<=a)(h2:a<=1000000) : -1000000<=a.tdiv b/\a.tdiv b<=1000000:=by
 have:=Int.natAbs_tdiv_le_natAbs a b;omega
theorem SQ(a b:Int)(h1 : -1000000<=a)(h2:a<=1000000)(hb:1<=b):aB Tryz.prog 129 [.int .i64 a,.int .i64 b] (.p (.int .i64 (a/b))):=by
 have hl:=JE (a:=a) hb;have hq:=DX hb h1 h2;have hb0:decide (b<=0)=false:=decide_eq_false (by omega)
 have hbn:b≠0:=by omega
 refine Fn.run Q0 rfl ?_;generalize Tryz.prog=P at *
 (repeat'((conv=>whnf);first|exact trivial|(with_reducible first|refine zX ?_|refine zP ?_|refine zL ?_)|refine⟨rfl,?_⟩|refine⟨_,rfl,?_⟩|refine⟨fun _=>?_,fun _=>?_⟩|refine zn ?_|refine zb rfl ?_|refine zX ?_|refine zo rfl ?_|refine zs ?_|intro _));all_goals(try(conv=>whnf))
 ·rename_i e
  refine dA ?_;rw[aJ (n:=a.tdiv b) (by omega) (by omega),aJ (by omega) (by omega), <-hl,if_pos (of_decide_eq_true e)]
 ·rename_i e
  refine dA ?_;rw[aJ (n:=a.tdiv b) (by omega) (by omega), <-hl,if_neg (of_decide_eq_false e)]
theorem OE(x:Ld)(hx:x.ok=true)(t:Int)(h1:0<=t)(h2:t<=20000):aB Tryz.prog 236 [eL x,.int .i64 t] (.p (.int .i64 (n5 t x))):=by
 have hok:=Ld.ok_iff.1 hx;have hbd:=n8 hx h2
 by_cases hd:x.d>t
 ·have hb:decide (x.d>t)=true:=decide_eq_true hd
  refine Fn.run LV rfl ?_;generalize Tryz.prog=P at *
  (repeat'((conv=>whnf);first|exact trivial|(with_reducible first|refine zX ?_|refine zP ?_|refine zL ?_)|refine⟨rfl,?_⟩|refine⟨_,rfl,?_⟩|refine⟨fun _=>?_,fun _=>?_⟩|refine zn ?_|refine zb rfl ?_|refine zX ?_|refine zo rfl ?_|refine zs ?_|intro _));all_goals(try(conv=>whnf))
  exact dA (by unfold n5;rw[if_pos hd])
 ·have hb:decide (x.d>t)=false:=decide_eq_false hd
  have ht:IntKind.wrap .i64 (t-x.d)=t-x.d:=aJ (by omega) (by omega)
  have hdn:=SQ (t-x.d) x.t (by omega) (by omega) (by omega)
  rw[<-ht] at hdn;have hq:0<=(t-x.d)/x.t/\(t-x.d)/x.t<=t-x.d:=⟨Int.ediv_nonneg (by omega) (by omega),Int.ediv_le_self _ (by omega)⟩
  unfold n5 at hbd ⊢;rw[if_neg hd] at hbd ⊢;refine Fn.run LV rfl ?_;generalize Tryz.prog=P at *
  (repeat'((conv=>whnf);first|exact trivial|(with_reducible first|refine zX ?_|refine zP ?_|refine zL ?_)|refine⟨rfl,?_⟩|refine⟨_,rfl,?_⟩|refine⟨fun _=>?_,fun _=>?_⟩|refine zn ?_|refine zb rfl ?_|refine zX ?_|refine zo rfl ?_|refine zs ?_|intro _));all_goals(try(conv=>whnf))
  refine dA ?_;rw[ht,aJ (n:=(t-x.d)/x.t+1) (by omega) (by omega),aJ (by omega) (by omega)]
theorem MA(nl:Bool)(l:List Ld)(t:Int)(hl:dY l=true)(h1:0<=t)(h2:t<=20000):aB Tryz.prog 211 [sL nl l,.int .i64 t] (.p (.int .i64 (cY l t))):=by
 have hm:=J8 nl l 235 [] (fun x => !x.ok) fun x _=>Q5 x
 have hl':=cW.1 hl;have ha:(l.any fun x => !x.ok)=false:=by simpa using hl'.2
 rw[ha] at hm;have hb24:decide (((l.map eL).length:Int)>24)=false:=decide_eq_false (by simp;omega)
 have ht0:decide (t<0)=false:=decide_eq_false (by omega)
 have ht1:decide (t>20000)=false:=decide_eq_false (by omega)
 have hdue:=fun x (hx:x.ok=true)=>OE x hx t h1 h2
 refine Fn.run OZ rfl ?_;generalize Tryz.prog=P at *
 (repeat'((conv=>whnf);first|exact trivial|(with_reducible first|refine zX ?_|refine zP ?_|refine zL ?_)|refine⟨rfl,?_⟩|refine⟨_,rfl,?_⟩|refine⟨fun _=>?_,fun _=>?_⟩|refine zn ?_|refine zb rfl ?_|refine zX ?_|refine zo rfl ?_|refine zs ?_|intro _));all_goals(try(conv=>whnf))
 rename_i hlen
 refine aX (fun n s=>∃(i:Nat) (acc:Int),n+i=l.length/\acc+cS (n5 t) (l.drop i)=cY l t/\0<=acc/\acc<=i*400000000 /\
  s=⟨gM 38 [(1,.p (.int .i64 t)),(6,.p (.int .i64 acc)),(25,.p (sL nl l)),(26,.p (.int .i64 (l.map eL).length)),(27,.p (.int .i64 i))],[none]⟩) l.length ?_ ?_
 ·conv=>whnf
  exact⟨0,0,rfl,by simp[cY],Int.le_refl _,by omega,rfl⟩
 ·rintro n st b N ⟨i,acc,hi,hI,ha1,ha2,e⟩ hN
  cases e
  by_cases hlt:i<l.length
  ·have hrow:(l.map eL)[i]?=some (eL l[i]):=by simp[hlt]
   have hb:=l8 (n:=(l.map eL).length) (by simpa using hlt)
   have hok:=hl'.2 l[i] (List.getElem_mem _);have hc:=hdue l[i] hok;have hbd:=n8 hok h2;rw[List.drop_eq_getElem_cons hlt] at hI;simp only[cS] at hI
   (repeat'((conv=>whnf);first|exact trivial|(with_reducible first|refine zX ?_|refine zP ?_|refine zL ?_)|refine⟨rfl,?_⟩|refine⟨_,rfl,?_⟩|refine⟨fun _=>?_,fun _=>?_⟩|refine zn ?_|refine zb rfl ?_|refine zX ?_|refine zo rfl ?_|refine zs ?_|intro _));all_goals(try(conv=>whnf))
   rw[fY (by simpa using hlt) hlen,aJ (by omega) (by omega)]
   exact hN (n-1) _ (by omega) ⟨i+1,acc+n5 t l[i],by omega,by omega,by omega,by omega,rfl⟩
  ·have hb:=nA (n:=(l.map eL).length) (by simpa using hlt)
   (repeat'((conv=>whnf);first|exact trivial|(with_reducible first|refine zX ?_|refine zP ?_|refine zL ?_)|refine⟨rfl,?_⟩|refine⟨_,rfl,?_⟩|refine⟨fun _=>?_,fun _=>?_⟩|refine zn ?_|refine zb rfl ?_|refine zX ?_|refine zo rfl ?_|refine zs ?_|intro _));all_goals(try(conv=>whnf))
   rw[List.drop_of_length_le (by omega)] at hI
   simp only[cS] at hI;exact dA (by omega)
theorem MH(nl:Bool)(l:List Ld):aB Tryz.prog 175 [sL nl l] (.tup [.p (.int .i64 (if (bK l).2 then cQ l (bK l).1 else 0)),.p (.bool ((bK l).2&&decide (cQ l (bK l).1≠0)))]):=by
 have htm:=KC nl l;have hrange:=qZ l;generalize hT:bK l=T at *;obtain⟨e0,ok⟩:=T
 cases ok with
 |false=>
  refine Fn.run LA rfl ?_;generalize Tryz.prog=P at *
  (repeat'((conv=>whnf);first|exact trivial|(with_reducible first|refine zX ?_|refine zP ?_|refine zL ?_)|refine⟨rfl,?_⟩|refine⟨_,rfl,?_⟩|refine⟨fun _=>?_,fun _=>?_⟩|refine zn ?_|refine zb rfl ?_|refine zX ?_|refine zo rfl ?_|refine zs ?_|intro _));all_goals(try(conv=>whnf))
  rfl
 |true=>
  have hl:=(lK (by rw[hT])).1
  have hl':=cW.1 hl;have hbnd:=fun t h1 h2=>MA nl l t hl h1 h2
  simp only at hrange;refine Fn.run LA rfl ?_;generalize Tryz.prog=P at *
  (repeat'((conv=>whnf);first|exact trivial|(with_reducible first|refine zX ?_|refine zP ?_|refine zL ?_)|refine⟨rfl,?_⟩|refine⟨_,rfl,?_⟩|refine⟨fun _=>?_,fun _=>?_⟩|refine zn ?_|refine zb rfl ?_|refine zX ?_|refine zo rfl ?_|refine zs ?_|intro _));all_goals(try(conv=>whnf))
  rename_i hlen
  refine aX (fun n s=>∃(i:Nat) (f:Int),n+i=l.length/\Look l e0 f (fun x _=>x∈l.take i)/\f<=e0+1 /\
   s=⟨gM 45 [(0,.p (sL nl l)),(4,.p (.int .i64 e0)),(6,.p (.int .i64 f)),(19,.p (sL nl l)),(20,.p (.int .i64 (l.map eL).length)),(21,.p (.int .i64 i))],[none]⟩) l.length ?_ ?_
  ·conv=>whnf
   refine⟨0,e0+1,rfl,⟨hl,.inl rfl,fun x _ k _ hx=>by simp at hx⟩,Int.le_refl _,?_⟩
   have hw:IntKind.wrap .i64 (e0+1)=e0+1:=aJ (by omega) (by omega)
   rw[hw];rfl
  ·rintro n st b N ⟨i,f,hi,hI,hf,e⟩ hN
   cases e
   by_cases hlt:i<l.length
   ·have hrow:(l.map eL)[i]?=some (eL l[i]):=by simp[hlt]
    have hb:=l8 (n:=(l.map eL).length) (by simpa using hlt)
    have hok:=Ld.ok_iff.1 (hl'.2 l[i] (List.getElem_mem _))
    (repeat'((conv=>whnf);first|exact trivial|(with_reducible first|refine zX ?_|refine zP ?_|refine zL ?_)|refine⟨rfl,?_⟩|refine⟨_,rfl,?_⟩|refine⟨fun _=>?_,fun _=>?_⟩|refine zn ?_|refine zb rfl ?_|refine zX ?_|refine zo rfl ?_|refine zs ?_|intro _));all_goals(try(conv=>whnf))
    refine aX (fun n s=>∃(k f t:Int),n=(e0+1-t).toNat/\0<=k/\t=l[i].d+k*l[i].t/\Look l e0 f (fun x j=>x∈l.take i\/(x=l[i]/\j<k))/\f<=e0+1 /\
     s=⟨gM 45 [(0,.p (sL nl l)),(4,.p (.int .i64 e0)),(6,.p (.int .i64 f)),(8,.addr 0 3 0 0),(9,.p (.int .i64 t)),(19,.p (sL nl l)),(20,.p (.int .i64 (l.map eL).length)),(21,.p (.int .i64 i))],
      [some ⟨true,3,[[.p (.int .i64 l[i].c),.p (.int .i64 l[i].d),.p (.int .i64 l[i].t)]],false⟩]⟩) (e0+1-l[i].d).toNat ?_ ?_
    ·conv=>whnf
     exact⟨0,f,l[i].d,rfl,Int.le_refl _,by omega,⟨hI.may,hI.fst,fun x hx k hk hs=>hI.ok x hx k hk (hs.resolve_right fun h=>by omega)⟩,hf,rfl⟩
    ·rintro m st2 b2 N2 ⟨k,f2,t,hm,hk,htk,hI2,hf2,e2⟩ hN2
     cases e2
     by_cases hlt2:t<f2
     ·have hb2:decide (t<f2)=true:=decide_eq_true hlt2
      have hkt:0<=k*l[i].t:=Int.mul_nonneg hk (by omega)
      have hc:=hbnd t (by omega) (by omega)
      have hkn:(k+1)*l[i].t=k*l[i].t+l[i].t:=by rw[Int.add_mul,Int.one_mul]
      (repeat'((conv=>whnf);first|exact trivial|(with_reducible first|refine zX ?_|refine zP ?_|refine zL ?_)|refine⟨rfl,?_⟩|refine⟨_,rfl,?_⟩|refine⟨fun _=>?_,fun _=>?_⟩|refine zn ?_|refine zb rfl ?_|refine zX ?_|refine zo rfl ?_|refine zs ?_|intro _));all_goals(try(conv=>whnf))
      ·rename_i ov
       have ov:=of_decide_eq_true ov;rw[aJ (by omega) (by omega)]
       refine hN2 _ _ (by omega) ⟨k+1,t,t+l[i].t,rfl,by omega,by omega,⟨hI2.may,.inr ⟨by omega,by omega,ov⟩,fun x hx j hj hs hlt3=>?_⟩,by omega,rfl⟩
       refine hI2.ok x hx j hj ?_ (by omega)
       rcases hs with hs|⟨rfl,hs⟩
       ·exact .inl hs
       ·refine .inr ⟨rfl,?_⟩
        by_cases e:j=k
        ·subst e;omega
        ·omega
      ·rename_i ov
       have ov:=of_decide_eq_false ov;rw[aJ (by omega) (by omega)]
       refine hN2 _ _ (by omega) ⟨k+1,f2,t+l[i].t,rfl,by omega,by omega,⟨hI2.may,hI2.fst,fun x hx j hj hs hlt3=>?_⟩,hf2,rfl⟩
       rcases hs with hs|⟨rfl,hs⟩
       ·exact hI2.ok x hx j hj (.inl hs) hlt3
       ·by_cases e:j=k
        ·subst e;rw[<-htk];omega
        ·exact hI2.ok _ hx j hj (.inr ⟨rfl,by omega⟩) hlt3
     ·have hb2:decide (t<f2)=false:=decide_eq_false hlt2
      (repeat'((conv=>whnf);first|exact trivial|(with_reducible first|refine zX ?_|refine zP ?_|refine zL ?_)|refine⟨rfl,?_⟩|refine⟨_,rfl,?_⟩|refine⟨fun _=>?_,fun _=>?_⟩|refine zn ?_|refine zb rfl ?_|refine zX ?_|refine zo rfl ?_|refine zs ?_|intro _));all_goals(try(conv=>whnf))
      rw[fY (by simpa using hlt) hlen]
      refine hN (n-1) _ (by omega) ⟨i+1,f2,by omega,⟨hI2.may,hI2.fst,fun x hx j hj hs hlt3=>?_⟩,hf2,rfl⟩
      refine hI2.ok x hx j hj ?_ hlt3;rw[List.take_add_one,List.getElem?_eq_getElem hlt] at hs;rcases List.mem_append.1 hs with hs|hs
      ·exact .inl hs
      ·simp only[Option.toList_some,List.mem_singleton] at hs
       subst hs;refine .inr ⟨rfl,Int.not_le.1 fun hle=>?_⟩
       have:=Int.mul_le_mul_of_nonneg_right hle (show 0<=l[i].t by omega)
       omega
   ·have hb:=nA (n:=(l.map eL).length) (by simpa using hlt)
    have hend:=hI.end fun x hx k _ _=>by rw[List.take_of_length_le (by omega)];exact hx
    by_cases hfe:f>e0
    ·have hb3:decide (f>e0)=true:=decide_eq_true hfe
     rw[if_pos hfe] at hend
     (repeat'((conv=>whnf);first|exact trivial|(with_reducible first|refine zX ?_|refine zP ?_|refine zL ?_)|refine⟨rfl,?_⟩|refine⟨_,rfl,?_⟩|refine⟨fun _=>?_,fun _=>?_⟩|refine zn ?_|refine zb rfl ?_|refine zX ?_|refine zo rfl ?_|refine zs ?_|intro _));all_goals(try(conv=>whnf))
     show cN _=DV.tup [TV.p (.int .i64 (cQ l e0)),TV.p (.bool (true&&decide (cQ l e0≠0)))]
     rw[hend]
     rfl
    ·have hb3:decide (f>e0)=false:=decide_eq_false hfe
     rw[if_neg hfe] at hend;have hf1:f≠0:=by rcases hI.fst with h|h<;>omega
     (repeat'((conv=>whnf);first|exact trivial|(with_reducible first|refine zX ?_|refine zP ?_|refine zL ?_)|refine⟨rfl,?_⟩|refine⟨_,rfl,?_⟩|refine⟨fun _=>?_,fun _=>?_⟩|refine zn ?_|refine zb rfl ?_|refine zX ?_|refine zo rfl ?_|refine zs ?_|intro _));all_goals(try(conv=>whnf))
     show cN _=DV.tup [TV.p (.int .i64 (cQ l e0)),TV.p (.bool (true&&decide (cQ l e0≠0)))]
     rw[hend,decide_eq_true hf1]
     rfl
theorem CT(nl:Bool)(l:List Ld):aB Tryz.prog 136 [sL nl l] (.p (.bool (dO l))):=by
 have h1:=KC nl l;have h2:=MH nl l
 rw[CQ];generalize bK l=T at *;obtain⟨e0,ok⟩:=T;refine Fn.run a0S rfl ?_;generalize Tryz.prog=P at *
 (repeat'((conv=>whnf);first|exact trivial|(with_reducible first|refine zX ?_|refine zP ?_|refine zL ?_)|refine⟨rfl,?_⟩|refine⟨_,rfl,?_⟩|refine⟨fun _=>?_,fun _=>?_⟩|refine zn ?_|refine zb rfl ?_|refine zX ?_|refine zo rfl ?_|refine zs ?_|intro _));all_goals(try(conv=>whnf))
 ·rename_i e
  exact aO (by simp only at e;subst e;simp)
 ·rename_i e
  exact aO (by simp only[Bool.not_true] at e;subst e;simp)
end Go.Proofs.YtnjphclbpgajpaaGreatDoor.Vc
