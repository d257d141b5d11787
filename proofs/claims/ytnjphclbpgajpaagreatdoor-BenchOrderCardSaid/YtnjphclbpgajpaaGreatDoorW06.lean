/- Part of a proof over a Go program: VcNew. No condition. -/
import Derived.Test.YtnjphclbpgajpaaGreatDoorW05
set_option linter.unnecessarySimpa false
set_option linter.unusedSectionVars false
set_option linter.unusedSimpArgs false
set_option linter.unusedVariables false
namespace Go.Proofs.YtnjphclbpgajpaaGreatDoor.Vc
open Go.RowKit
variable {P:Program}
theorem fW{k:Nat}{t:List DV}:bL k t=true↔∀d,d∈t->d.ment k=false:=by
 induction t with
 |nil=>simp[bL]
 |cons d ds ih=>simp[bL,ih]
theorem qC{k:Nat}{rs:List (List DV)}:cS k rs=true↔∀r,r∈rs->∀d,d∈r->d.ment k=false:=by
 induction rs with
 |nil=>simp[cS]
 |cons r rs ih=>simp[cS,ih,fW]
theorem pG{k:Nat}:∀{i:Nat} {b:List (Option Box)},aG k i b=true↔∀(j:Nat) bx,b[j]?=some (some bx)->i+j≠k->cS k bx.rows=true:=by
 intro i b
 induction b generalizing i with
 |nil=>simp[aG]
 |cons x xs ih=>
  simp only[aG,b6,Bool.or_eq_true,beq_iff_eq,ih]
  constructor
  ·rintro⟨h1,h2⟩ j bx hj hne
   cases j with
   |zero=>
    simp at hj;subst hj;rcases h1 with h1|h1
    ·exact absurd h1 (by simpa using hne)
    ·exact h1
   |succ j=>exact h2 j bx (by simpa using hj) (by omega)
  ·intro h
   refine⟨?_,fun j bx hj hne=>h (j+1) bx (by simpa using hj) (by omega)⟩
   by_cases hik:i=k
   ·exact .inl hik
   ·right
    cases x with
    |none=>rfl
    |some bx=>exact h 0 bx rfl (by simpa using hik)
structure NoK (k:Nat) (s:St):Prop where
 t:∀d,d∈s.t->d.ment k=false
 b:∀(j:Nat) bx,s.b[j]?=some (some bx)->j≠k->∀r,r∈bx.rows->∀d,d∈r->d.ment k=false
theorem NoK.get{k:Nat}{s:St}(h:NoK k s)(n:Nat):(aW s.t n).ment k=false:=by
 rw[c5]
 cases hn:s.t[n]? with
 |none=>rfl
 |some d=>exact h.t d (bR hn)
def AW:Kd->Bool
 | .mov _ | .pick | .fad _ | .iad _ | .nilchk=>true
 |_=>false
theorem FE(d:TV):d.dv.plain=true:=by cases d<;>rfl
theorem C5(d:TV):d.dv.copy.plain=true:=by cases d<;>rfl
theorem iK{k:Nat}{d:DV}(h:d.plain=true):d.ment k=false:=by cases d<;>first|rfl|cases h
theorem yG{κ:Kd}(hκ:tZ κ=true)(ha:AW κ=false){vs:List DV}{b b':List (Option Box)}{v:DV}(h:aF P κ vs b (fun v1 b1=>v1=v/\b1=b')):v.plain=true:=by
 cases κ<;>simp[tZ] at hκ<;>simp[AW] at ha
 all_goals
  unfold aF at h
  (repeat' split at h)<;>(try contradiction)
 all_goals first
  |(rw[fE] at h;obtain⟨z,h1,h2,h3⟩:=h;subst h2;rfl)
  |(obtain⟨_,_,_,_,_,rfl,_⟩:=h;rfl)
  |(rw[fJ] at h;obtain⟨z,h1,h2,h3⟩:=h;subst h2;rfl)
  |(obtain⟨rfl,_⟩:=h;first|rfl|exact FE _|exact C5 _)
  |(obtain⟨_,rfl,_⟩:=h;rfl)
  |(obtain⟨_,_,rfl,_⟩:=h;rfl)
  |(obtain⟨_,_,_,rfl,_⟩:=h;rfl)
  |(obtain⟨_,_,_,_,rfl,_⟩:=h;rfl)
  |exact h.2.elim
theorem fF{k:Nat}{d:DV}(h:d.ment k=false):d.copy.ment k=false:=by rw[hG];exact h
theorem rA{κ:Kd}(hκ:tZ κ=true){k:Nat}{vs:List DV}(hv:∀d,d∈vs->d.ment k=false){b b':List (Option Box)}{v:DV}(h:aF P κ vs b (fun v1 b1=>v1=v/\b1=b')):v.ment k=false:=by
 cases ha:AW κ with
 |false=>exact iK (yG hκ ha h)
 |true=>
  cases κ<;>simp[AW] at ha
  case mov take=>
   unfold aF at h
   split at h<;>(try contradiction)
   rename_i x heq;obtain⟨h1,_⟩:=h;subst h1;have hx:=hv x (by simp)
   split
   ·exact hx
   ·exact fF hx
  case pick=>
   unfold aF at h
   split at h<;>(try contradiction)
   rename_i c x y heq;have hx:=hv x (by simp)
   have hy:=hv y (by simp)
   cases c with
   |true=>rw[<-(h.1 rfl).1];exact fF hx
   |false=>rw[<-(h.2 rfl).1];exact fF hy
  case fad off=>
   unfold aF at h
   split at h<;>(try contradiction)
   ·rename_i k' size r o heq
    rw[<-h.1];exact hv (.addr k' size r o) (by simp)
   ·rw[<-h.1];rfl
  case iad size=>
   unfold aF at h
   split at h<;>(try contradiction)
   rename_i x k' i heq;have hx:=hv x (by simp)
   split at h
   ·obtain⟨_,_,row,_,e,_⟩:=h;rw[<-e];rfl
   ·obtain⟨_,_,row,_,e,_⟩:=h;rw[<-e];rfl
   ·obtain⟨_,_,_,e,_⟩:=h;rw[<-e];exact hx
   ·exact h.elim
  case nilchk=>
   unfold aF at h
   split at h<;>(try contradiction)
   rename_i x heq;have hx:=hv x (by simp)
   split at h
   ·rw[<-h.1];exact hx
   ·rw[<-h.1];rfl
   ·rw[<-h.1];rfl
   ·exact h.elim
theorem eD{α:Type}{x v : α}:∀{l:List α} {n:Nat},x∈aJ l n v->x∈l\/x=v
 |[],_,h=>by simp[aJ] at h
 |y ::ys,0,h=>by
  simp only[aJ] at h;rcases List.mem_cons.1 h with h|h
  ·exact .inr h
  ·exact .inl (List.mem_cons_of_mem _ h)
 |y ::ys,n+1,h=>by
  simp only[aJ] at h;rcases List.mem_cons.1 h with h|h
  ·exact .inl (h▸List.mem_cons_self)
  ·rcases eD h with h|h
   ·exact .inl (List.mem_cons_of_mem _ h)
   ·exact .inr h
theorem qX{x:DV}:∀{cs:List DV} {l:List DV} {o:Nat},x∈gF l o cs->x∈l\/x∈cs
 |[],_,_,h=>.inl h
 |c ::cs,l,o,h=>by
  simp only[gF] at h;rcases qX h with h|h
  ·rcases eD h with h|h
   ·exact .inl h
   ·exact .inr (h▸List.mem_cons_self)
  ·exact .inr (List.mem_cons_of_mem _ h)
theorem rZ{k:Nat}{y:DV}{cs:List DV}(h:aS y=some cs)(hy:y.ment k=false):∀d,d∈cs->d.ment k=false:=by
 intro d hd
 cases y with
 |agd rs=>
  simp only[aS,bG,mC] at h;subst h;obtain⟨c,hc,rfl⟩:=List.mem_map.1 hd
  cases hm:c.dv.ment k with
  |false=>rfl
  |true=>
   have:(DV.agd rs).ment k=true:=by
    simp only[DV.ment,List.any_eq_true];exact⟨c,hc,by cases c<;>exact hm⟩
   rw[this] at hy;cases hy
 |p x=>
  simp only[aS,bG] at h;subst h;obtain⟨c,_,rfl⟩:=List.mem_map.1 hd
  rfl
 |top=>simp[aS] at h
 |tup ds=>simp[aS] at h
 |ob T=>simp[aS] at h
 |pk o=>simp[aS] at h
 |_=>simp only[aS,bG] at h;subst h;simp at hd;subst hd;exact hy
def FreeB(k:Nat)(b:List (Option Box)):Prop:=∀(j:Nat) bx,b[j]?=some (some bx)->j≠k->∀r,r∈bx.rows->∀d,d∈r->d.ment k=false
theorem FreeB.set{k j:Nat}{b:List (Option Box)}(h:FreeB k b){bx:Box}(hb:j≠k->∀r,r∈bx.rows->∀d,d∈r->d.ment k=false):FreeB k (aJ b j (some bx)):=by
 intro i bx' hi hne r hr d hd;rw[getElem?_setL] at hi
 by_cases hij:i=j
 ·subst hij
  rw[if_pos rfl] at hi
  cases hx:b[i]? with
  |none=>rw[hx] at hi;simp at hi
  |some y=>rw[hx] at hi;simp at hi;subst hi;exact hb hne r hr d hd
 ·rw[if_neg hij] at hi
  exact h i bx' hi hne r hr d hd
theorem yQ{κ:Kd}(hκ:(kL κ||(CH κ).isSome)=true){k:Nat}{vs:List DV}(hv:∀d,d∈vs->d.ment k=false){b b':List (Option Box)}(hb:FreeB k b){v:DV}
  (h:bV P κ vs b (fun v1 b1=>v1=v/\b1=b')):v.ment k=false/\FreeB k b':=by
 rw[Bool.or_eq_true] at hκ;rcases hκ with hκ|hκ
 ·have hk:=eB (xC hκ) h
  subst hk;refine⟨?_,hb⟩;unfold bV at h
  split at h
  ·cases hκ
  ·simp only[kL,Bool.or_eq_true] at hκ
   rcases hκ with hκ|hκ
   ·exact rA hκ hv h.2
   ·replace h:=h.2
    rename_i κ';cases κ'<;>simp[vF] at hκ
    case call f=>
     simp only[aF] at h
     split at h
     ·obtain⟨r,h1,h2,_⟩:=h;subst h2;exact iK h1.1
     ·exact h.elim
    case callv=>
     unfold aF at h
     split at h<;>(try contradiction)
     split at h
     ·obtain⟨r,h1,h2,_⟩:=h;subst h2;exact iK h1.1
     ·exact h.elim
    case mkfn f=>
     simp only[aF] at h
     split at h
     ·rw[<-h.1];rfl
     ·exact h.elim
    case app size bytes=>
     unfold aF at h
     split at h<;>(try contradiction)
     all_goals
      split at h
      ·obtain⟨_,_,_,_,e,_⟩:=h;rw[<-e];rfl
      ·exact h.elim
  ·rename_i n1 n2
   refine rA ?_ hv h;cases κ<;>first|exact hκ|exact(n1 _ _ rfl).elim|exact(n2 _ rfl).elim
 ·obtain⟨j,hj⟩:=Option.isSome_iff_exists.1 hκ
  unfold CH at hj
  split at hj
  ·rename_i k' n ag take
   simp only[bV] at h
   split at h
   ·obtain⟨rfl,h⟩:=h
    rename_i k2 sz r off rest;have hk2:k2≠k:=by have:=hv (.addr k2 sz r off) (by simp);simpa [DV.ment] using this
    cases rest with
    |cons _ _=>simp[aF] at h
    |nil=>
     simp only[aF] at h
     cases hbk:bB b k2 with
     |none=>simp[hbk] at h
     |some bx=>
      simp only[hbk] at h;obtain⟨h1,row,h2,h3,h4⟩:=h;have hrow:=hb k2 bx (b7 hbk) hk2 row (bR h2)
      cases ag with
      |true=>
       simp only[if_true] at h4
       split at h4
       ·obtain⟨e1,e2⟩:=h4;subst e2;exact⟨by rw[<-e1];rfl,hb⟩
       ·exact h4.elim
      |false=>
       simp only[Bool.false_eq_true,if_false] at h4;obtain⟨d,h5,h6,h7⟩:=h4;have hd:=hrow d (bR h5)
       cases take with
       |false=>
        simp only[Bool.false_eq_true,if_false] at h6 h7;subst h7;exact⟨by rw[<-h6];exact fF hd,hb⟩
       |true=>
        simp only[if_true] at h6 h7;subst h7;refine⟨by rw[<-h6];exact hd,hb.set fun _ r' hr' d' hd'=>?_⟩
        rcases eD hr' with hr'|hr'
        ·exact hb k2 bx (b7 hbk) hk2 r' hr' d' hd'
        ·subst hr'
         rcases eD hd' with hd'|hd'
         ·exact hrow d' hd'
         ·subst hd';exact fF hd
   ·exact h.elim
  ·rename_i k' n
   simp only[bV] at h
   split at h
   ·obtain⟨rfl,h⟩:=h
    rename_i k2 sz r off rest;have hk2:k2≠k:=by have:=hv (.addr k2 sz r off) (by simp);simpa [DV.ment] using this
    match rest,h,hv with
    |[],h,_=>simp[aF] at h
    |_ ::_ ::_,h,_=>simp[aF] at h
    |[y],h,hv=>
     simp only[aF] at h
     cases hbk:bB b k2 with
     |none=>simp[hbk] at h
     |some bx=>
      cases hc:aS y with
      |none=>simp[hbk,hc] at h
      |some cs=>
       simp only[hbk,hc] at h;obtain⟨h1,h2,h3,row,h4,h5,h6,h7⟩:=h;subst h7;have hrow:=hb k2 bx (b7 hbk) hk2 row (bR h4);have hcs:=rZ hc (hv y (by simp))
       refine⟨by rw[<-h6];rfl,hb.set fun _ r' hr' d' hd'=>?_⟩
       rcases eD hr' with hr'|hr'
       ·exact hb k2 bx (b7 hbk) hk2 r' hr' d' hd'
       ·subst hr'
        rcases qX hd' with hd'|hd'
        ·exact hrow d' hd'
        ·exact hcs d' hd'
   ·exact h.elim
  ·cases hj
theorem D9{a:Ins}{k size d:Nat}{zero:List DV}(hk:a.k=.alloc k size zero)(hg:a.g=none)(hx:a.xs=[])(hd:a.d=some d){s:St}(hN:NoK k s)(hlt:k<s.b.length){K:St->Prop} :
  b5 P a s K↔(zero.length=size/\K ⟨aJ s.t d (.addr k size 0 0),aJ s.b k (some ⟨true,size,[zero],false⟩)⟩):=by
 unfold b5;rw[hg];simp only[kU,fresh,hk,aH,hx,hd,List.map_nil,bV,aF,Kd.core,dW,aP]
 constructor
 ·exact fun h=>h.2
 ·refine fun h=>⟨⟨hlt,fW.2 fun x hx=>?_,pG.2 fun j bx hj hne=>qC.2 (hN.b j bx hj (by simpa using hne))⟩,h⟩
  rcases eD hx with hx|hx
  ·exact hN.t x hx
  ·subst hx;rfl
theorem DE{κ:Kd}{j k:Nat}(hj:CH κ=some j){vs:List DV}(hv:∀d,d∈vs->d.ment k=false){b:List (Option Box)}{K:DV->List (Option Box)->Prop}(h:bV P κ vs b K):j≠k:=by
 unfold CH at hj
 split at hj
 ·injection hj with hj
  subst hj;simp only[bV] at h
  split at h
  ·rename_i k2 sz r off rest
   have:=hv (.addr k2 sz r off) (by simp)
   rw[<-h.1]
   simpa [DV.ment] using this
  ·exact h.elim
 ·injection hj with hj
  subst hj;simp only[bV] at h
  split at h
  ·rename_i k2 sz r off rest
   have:=hv (.addr k2 sz r off) (by simp)
   rw[<-h.1]
   simpa [DV.ment] using this
  ·exact h.elim
 ·cases hj
theorem E3{κ:Kd}(hκ:(kL κ||(CH κ).isSome)=true){k:Nat}{vs:List DV}(hv:∀d,d∈vs->d.ment k=false){b b':List (Option Box)}{v:DV}(x:Option Box)
  (h:bV P κ vs b (fun v1 b1=>v1=v/\b1=b')):bV P κ vs (aJ b k x) (fun v1 b1=>v1=v/\b1=aJ b' k x)/\b'.length=b.length:=by
 rw[Bool.or_eq_true] at hκ;rcases hκ with hκ|hκ
 ·have hk:=eB (xC hκ) h
  subst hk;exact⟨lP hκ h _,rfl⟩
 ·obtain⟨j,hj⟩:=Option.isSome_iff_exists.1 hκ
  have hne:=DE hj hv h;obtain⟨l1,l2⟩:=mD hj h;have:=l2 (aJ b k x) (cZ _ _ _ _ (fun e=>hne e.symm))
  rw[fH _ _ _ _ _ (fun e=>hne e.symm), <-l1] at this
  exact⟨this,by rw[l1,aR]⟩
theorem xS{κ:Kd}(hκ:(kL κ||(CH κ).isSome)=true){k:Nat}{vs:List DV}(hv:∀d,d∈vs->d.ment k=false){b b2:List (Option Box)}{v:DV}(x:Option Box)
  (h:bV P κ vs (aJ b k x) (fun v1 b1=>v1=v/\b1=b2)):∃b',bV P κ vs b (fun v1 b1=>v1=v/\b1=b')/\b2=aJ b' k x/\b'.length=b.length:=by
 rw[Bool.or_eq_true] at hκ;rcases hκ with hκ|hκ
 ·have hk:=eB (xC hκ) h
  subst hk;exact⟨b,lP hκ h _,rfl,rfl⟩
 ·obtain⟨j,hj⟩:=Option.isSome_iff_exists.1 hκ
  have hne:=DE hj hv h;obtain⟨l1,l2⟩:=mD hj h;refine⟨_,l2 b (cZ _ _ _ _ (fun e=>hne e.symm)).symm,?_,by rw[aR]⟩
  rw[fH _ _ _ _ _ hne, <-l1]
theorem p9{b:List (Option Box)}{k q:Nat}{x:Option Box}(h:q≠k):bB (aJ b k x) q=bB b q:=by
 rw[cJ,cJ,cZ _ _ _ _ (fun e=>h e.symm)]
theorem AQ{b:List (Option Box)}{k:Nat}{x:Option Box}{d:DV}(h:d.ment k=false):d.frz (aJ b k x)=d.frz b:=by
 have cap:∀{c:CapV},(∀j sz r o,c=.addr j sz r o->j≠k)->c.frz (aJ b k x)=c.frz b:=by
  intro c hc
  cases c with
  |p y=>rfl
  |addr j sz r o=>simp only[CapV.frz,p9 (hc j sz r o rfl)]
 cases d with
 |addr j sz r o=>exact cap (c:=.addr j sz r o) fun j' _ _ _ e=>by injection e with e;subst e;intro e;subst e;simp[DV.ment] at h
 |bs j sz ag lo n=>simp only[DV.frz];rw[p9 (fun e=>by subst e;simp[DV.ment] at h)]
 |fn f caps=>
  have:∀(l:List CapV),(∀c,c∈l->∀j sz r o,c=.addr j sz r o->j≠k)->kF (aJ b k x) l=kF b l:=by
   intro l
   induction l with
   |nil=>intro _;rfl
   |cons c l ih=>intro hl;simp only[kF];rw[cap (hl c (by simp)),ih (fun c hc=>hl c (by simp[hc]))]
  simp only[DV.frz];rw[this caps fun c hc j sz r o e ej=>?_]
  subst e;subst ej;have:(DV.fn f caps).ment j=true:=by simp only[DV.ment,List.any_eq_true];exact⟨_,hc,by simp⟩
  rw[this] at h;cases h
 |agd cs=>
  have:∀(l:List RfV),(∀c,c∈l->c.ment k=false)->s8 (aJ b k x) l=s8 b l:=by
   intro l
   induction l with
   |nil=>intro _;rfl
   |cons c l ih=>
    intro hl;have hc:=hl c (by simp)
    have e:c.frz (aJ b k x)=c.frz b:=by
     cases c with
     |p y=>rfl
     |addr j sz r o=>exact cap (c:=.addr j sz r o) fun j' _ _ _ e=>by injection e with e;subst e;intro e;subst e;simp[RfV.ment] at hc
     |bs j sz ag lo n=>simp only[RfV.frz,UZ];rw[p9 (fun e=>by subst e;simp[RfV.ment] at hc)]
     |mh j=>rfl
    simp only[s8,e,ih (fun c hc=>hl c (by simp[hc]))]
  simp only[DV.frz];rw[this cs fun c hc=>?_]
  simp only[DV.ment] at h
  cases hm:c.ment k with
  |false=>rfl
  |true=>rw[List.any_eq_true.2 ⟨c,hc,hm⟩] at h;cases h
 |_=>rfl
theorem j6{q:Nat}:∀{cs:List CapV} {l:List Nat},q∈mE cs l->(∃sz r o,CapV.addr q sz r o∈cs)\/q∈l
 |[],l,h=>.inr h
 | .p x ::cs,l,h=>by
  rcases j6 (cs:=cs) h with ⟨sz,r,o,h⟩|h
  ·exact .inl ⟨sz,r,o,by simp[h]⟩
  ·exact .inr h
 | .addr k sz r o ::cs,l,h=>by
  simp only[mE] at h;rcases List.mem_cons.1 h with rfl|h
  ·exact .inl ⟨sz,r,o,by simp⟩
  ·rcases j6 (cs:=cs) h with ⟨sz,r,o,h⟩|h
   ·exact .inl ⟨sz,r,o,by simp[h]⟩
   ·exact .inr h
theorem sT{q:Nat}{d:DV}{l:List Nat}(h:q∈lE d l):d.ment q=true\/q∈l:=by
 cases d with
 |addr k sz r o=>simp only[lE] at h;rcases List.mem_cons.1 h with rfl|h;exact .inl (by simp[DV.ment]);exact .inr h
 |bs k sz ag lo n=>simp only[lE] at h;rcases List.mem_cons.1 h with rfl|h;exact .inl (by simp[DV.ment]);exact .inr h
 |mh k=>simp only[lE] at h;rcases List.mem_cons.1 h with rfl|h;exact .inl (by simp[DV.ment]);exact .inr h
 |fn f caps=>
  rcases j6 h with ⟨sz,r,o,h⟩|h
  ·exact .inl (by simp only[DV.ment,List.any_eq_true];exact⟨_,h,by simp⟩)
  ·exact .inr h
 |_=>exact .inr h
theorem tC{q:Nat}:∀{ds:List DV} {l:List Nat},q∈DU ds l->(∃d,d∈ds/\d.ment q=true)\/q∈l
 |[],l,h=>.inr h
 |d ::ds,l,h=>by
  rcases sT h with h|h
  ·exact .inl ⟨d,by simp,h⟩
  ·rcases tC h with ⟨d',h1,h2⟩|h
   ·exact .inl ⟨d',by simp[h1],h2⟩
   ·exact .inr h
theorem rC{q:Nat}:∀{rs:List (List DV)} {l:List Nat},q∈n7 rs l->(∃r,r∈rs/\∃d,d∈r/\d.ment q=true)\/q∈l
 |[],l,h=>.inr h
 |r ::rs,l,h=>by
  rcases tC h with ⟨d,h1,h2⟩|h
  ·exact .inl ⟨r,by simp,d,h1,h2⟩
  ·rcases rC h with ⟨r',h1,h2⟩|h
   ·exact .inl ⟨r',by simp[h1],h2⟩
   ·exact .inr h
theorem pC{b:List (Option Box)}{k:Nat}{x:Option Box}:∀{vs:List DV},(∀d,d∈vs->d.ment k=false)->gG (aJ b k x) vs=gG b vs/\k∉gG b vs
 |[],_=>⟨rfl,by simp[gG]⟩
 |d ::ds,h=>by
  obtain⟨h1,h2⟩:=pC (b:=b) (k:=k) (x:=x) (vs:=ds) (fun d hd=>h d (by simp[hd]))
  simp only[gG,AQ (h d (by simp)),h1]
  refine⟨trivial,?_⟩
  split
  ·exact h2
  ·intro hm
   rcases sT hm with hm|hm
   ·rw[h d (by simp)] at hm;cases hm
   ·exact h2 hm
theorem fR{b:List (Option Box)}{k:Nat}{x:Option Box}(hb:FreeB k b):∀{n:Nat} {ws ks:List Nat},k∉ws->k∉ks->d9 (aJ b k x) n ws ks=d9 b n ws ks/\k∉d9 b n ws ks
 |0,_,_,_,h=>⟨rfl,h⟩
 |_+1,[],_,_,h=>⟨rfl,h⟩
 |n+1,q ::ws,ks,hw,hk=>by
  have hq:q≠k:=fun e=>hw (by simp[e])
  have hws:k∉ws:=fun h=>hw (by simp[h])
  simp only[d9,f6 hq]
  split
  ·exact fR hb hws hk
  ·cases hg:dK b q with
   |none=>exact fR hb hws hk
   |some bx=>
    simp only
    split
    ·refine fR hb ?_ (by simp[hk,Ne.symm hq])
     cases bS bx.rows with
     |true=>exact hws
     |false=>
      intro hm;rcases rC hm with ⟨r,h1,d,h2,h3⟩|hm
      ·rw[hb q bx (bK.1 hg) hq r h1 d h2] at h3;cases h3
      ·exact hws hm
    ·exact fR hb hws hk
theorem vI{b:List (Option Box)}{k:Nat}{x:Option Box}(hb:FreeB k b){vs:List DV}(hv:∀d,d∈vs->d.ment k=false):oY (aJ b k x) vs=oY b vs/\k∉oY b vs:=by
 obtain⟨h1,h2⟩:=pC (b:=b) (x:=x) hv;unfold oY;rw[h1];exact fR hb h2 (by simp)
theorem nA{b:List (Option Box)}{k:Nat}{x:Option Box}{ν:Nat->Option Nat}:∀{vs:List DV},(∀d,d∈vs->d.ment k=false)->jB (aJ b k x) ν vs=jB b ν vs
 |[],_=>rfl
 |d ::ds,h=>by simp only[jB,AQ (h d (by simp)),nA (vs:=ds) (fun d hd=>h d (by simp[hd]))]
theorem nL{b:List (Option Box)}{k:Nat}{x:Option Box}{ν:Nat->Option Nat}:∀{ks:List Nat},k∉ks->iP (aJ b k x) ν ks=iP b ν ks
 |[],_=>rfl
 |q ::ks,h=>by
  simp only[iP,wG];rw[f6 (fun e=>h (by simp[e])),nL (fun hm=>h (by simp[hm]))]
theorem nG{k:Nat}{x:Option Box}{ν:Nat->Option Nat}:∀{ks:List Nat} {bs b:List (Option Box)},k∉ks->bs.length=ks.length->eE ν ks bs (aJ b k x)=aJ (eE ν ks bs b) k x/\(eE ν ks bs b).length=b.length
 |[],[],b,_,_=>by simp[eE,s7]
 |[],_ ::_,b,_,h=>by simp at h
 |_ ::_,[],b,_,h=>by simp at h
 |q ::ks,y ::l,b,hk,hl=>by
  have hq:q≠k:=fun e=>hk (by simp[e])
  have ho:nN (aJ b k x) q=nN b q:=by unfold nN;rw[f6 hq]
  simp only[eE,ho];rw[fH _ _ _ _ _ (fun e=>hq e.symm)]
  obtain⟨h1,h2⟩:=nG (ks:=ks) (bs:=l) (b:=aJ b q (lI ν (nN b q) y)) (fun h=>hk (List.mem_cons_of_mem _ h)) (by simpa using hl)
  exact⟨h1,by rw[h2,aR]⟩
theorem qF{f:FuncId}{k:Nat}{vs:List DV}(hv:∀d,d∈vs->d.ment k=false){b b':List (Option Box)}(hb:FreeB k b){v:DV}(x:Option Box)
  (h:callO P f false vs b (fun v1 b1=>v1=v/\b1=b')):callO P f false vs (aJ b k x) (fun v1 b1=>v1=v/\b1=aJ b' k x)/\b'.length=b.length:=by
 unfold callO at h ⊢;obtain⟨k1,k2⟩:=vI (x:=x) hb hv;rw[k1,nA hv]
 split at h
 ·obtain⟨bs',r,h1,h2,h3,h4⟩:=h
  have hl:bs'.length=(oY b vs).length:=by simpa using h2
  obtain⟨e1,e2⟩:=nG (x:=x) (ν:=y5 (oY b vs) b.length bs'.length) (b:=b) k2 hl;refine⟨⟨bs',r,by rw[nL k2];exact h1,h2,by rw[aR];exact h3,by rw[aR,e1,h4]⟩,by rw[<-h4,e2]⟩
 ·exact h.elim
theorem FreeB.off{k:Nat}{b:List (Option Box)}(hb:FreeB k b)(x:Option Box):FreeB k (aJ b k x):=by
 intro j bx hj hne;rw[getElem?_setL,if_neg hne] at hj;exact hb j bx hj hne
theorem l9{α:Type}:∀(l:List α) (n:Nat) (x y : α),aJ (aJ l n x) n y=aJ l n y
 |[],_,_,_=>rfl
 |_ ::_,0,_,_=>rfl
 |_ ::xs,n+1,x,y=>by simp only[aJ];rw[l9 xs n x y]
theorem r6{f:FuncId}{k:Nat}{vs:List DV}(hv:∀d,d∈vs->d.ment k=false){b b2:List (Option Box)}(hb:FreeB k b){v:DV}(x:Option Box)
  (h:callO P f false vs (aJ b k x) (fun v1 b1=>v1=v/\b1=b2)):∃b',callO P f false vs b (fun v1 b1=>v1=v/\b1=b')/\b2=aJ b' k x/\b'.length=b.length:=by
 unfold callO at h ⊢;obtain⟨k1,k2⟩:=vI (x:=x) hb hv;rw[k1,nA hv] at h
 split at h
 ·obtain⟨bs',r,h1,h2,h3,h4⟩:=h
  have hl:bs'.length=(oY b vs).length:=by simpa using h2
  rw[aR] at h3 h4;obtain⟨e1,e2⟩:=nG (x:=x) (ν:=y5 (oY b vs) b.length bs'.length) (b:=b) k2 hl;exact⟨_,⟨bs',r,by rw[nL k2] at h1;exact h1,h2,h3,rfl⟩,by rw[<-h4,e1],e2⟩
 ·exact h.elim
theorem qN{ν:Nat->Option Nat}{k:Nat}(hν:∀i, ν i≠some k)(d:DV):(bQ ν d).ment k=false:=by
 cases d with
 |addr j sz r o=>simp only[bQ];split<;>first|rfl|(rename_i k' hk;simp only[DV.ment,beq_eq_false_iff_ne];intro e;subst e;exact hν _ hk)
 |bs j sz ag lo n=>simp only[bQ];split<;>first|rfl|(rename_i k' hk;simp only[DV.ment,beq_eq_false_iff_ne];intro e;subst e;exact hν _ hk)
 |mh j=>simp only[bQ];split<;>first|rfl|(rename_i k' hk;simp only[DV.ment,beq_eq_false_iff_ne];intro e;subst e;exact hν _ hk)
 |fn f caps=>
  simp only[bQ]
  split
  ·rename_i l hl
   cases hm:(DV.fn f l).ment k with
   |false=>rfl
   |true=>
    exfalso
    simp only[DV.ment,List.any_eq_true] at hm;obtain⟨c,hc,hk⟩:=hm;obtain⟨e1,e2⟩:=jM hl;obtain⟨j,hj⟩:=List.getElem?_of_mem hc;have hjl:j<caps.length:=by rw[<-e1];exact(bH.1 hj).1
    rcases e2 j caps[j] c (by simp[hjl]) hj with ⟨y,_,rfl⟩|⟨q,q',sz,r,o,h1,_,rfl⟩
    ·simp at hk
    ·simp at hk;subst hk;exact hν q h1
  ·rfl
 |_=>rfl
theorem pU{k:Nat}{ν:Nat->Option Nat}(hν:∀i, ν i≠some k):∀{ks:List Nat} {bs b:List (Option Box)},bs.length=ks.length->FreeB k b->FreeB k (eE ν ks bs b)
 |[],[],b,_,h=>by simpa [eE,s7] using h
 |[],_ ::_,b,h,_=>by simp at h
 |_ ::_,[],b,h,_=>by simp at h
 |q ::ks,y ::l,b,hl,hb=>by
  simp only[eE];refine pU hν (by simpa using hl) ?_
  cases y with
  |none=>
   intro j bx hj hne;simp only[lI] at hj;rw[getElem?_setL] at hj
   split at hj
   ·cases hx:b[j]?<;>rw[hx] at hj<;>simp at hj
   ·exact hb j bx hj hne
  |some bx=>
   refine hb.set fun _ r hr d hd=>?_
   simp only[fC] at hr;obtain⟨r0,_,rfl⟩:=List.mem_map.1 hr;obtain⟨d0,_,rfl⟩:=List.mem_map.1 hd;exact qN hν d0
theorem qK{f:FuncId}{k:Nat}{vs:List DV}(hv:∀d,d∈vs->d.ment k=false){b b':List (Option Box)}(hb:FreeB k b){v:DV}
  (h:callO P f false vs b (fun v1 b1=>v1=v/\b1=b')):v.ment k=false/\FreeB k b':=by
 unfold callO at h;obtain⟨_,k2⟩:=vI (x:=none) hb hv
 split at h
 ·obtain⟨bs',r,h1,h2,h3,h4⟩:=h
  have hl:bs'.length=(oY b vs).length:=by simpa using h2
  have hν:∀i,y5 (oY b vs) b.length bs'.length i≠some k:=fun i e=>by
   obtain⟨e1,e2⟩:=xI e;rw[hl] at e1;have hi:(oY b vs)[i]?=some (oY b vs)[i]:=by simp[e1]
   rw[mP hi] at e2;exact k2 (by rw[e2];exact List.getElem_mem _)
  refine⟨?_,by rw[<-h4];exact pU hν hl hb⟩
  rw[<-h3];unfold pN
  split
  ·exact iK (by assumption)
  ·exact qN hν r
 ·exact h.elim
def NW:Kd->Bool
 | .ob (.callo _ false) | .ob (.callr _)=>true
 |_=>false
theorem vL{κ:Kd}(h:NW κ=true):∃f, κ=.ob (.callo f false) \/ κ=.ob (.callr f):=by
 unfold NW at h
 split at h
 ·exact⟨_,.inl rfl⟩
 ·exact⟨_,.inr rfl⟩
 ·cases h
theorem pK{f:FuncId}{vs:List DV}{b b':List (Option Box)}{v:DV}(h:bV P (.ob (.callr f)) vs b (fun v1 b1=>v1=v/\b1=b')):b'=b/\callO P f false vs b (fun v1 b1=>v1=v/\b1=b):=by
 have h:callO P f false vs b (fun v1 b1=>b1=b/\(v1=v/\b=b')):=h
 obtain⟨_,_,_,_,_,e⟩:=jY h;exact⟨e.symm,cU (fun v1 b1 h=>⟨h.2.1,h.1⟩) h⟩
theorem wN{f:FuncId}{vs:List DV}{b:List (Option Box)}{v:DV}(h:callO P f false vs b (fun v1 b1=>v1=v/\b1=b)):bV P (.ob (.callr f)) vs b (fun v1 b1=>v1=v/\b1=b) :=
 show callO P f false vs b (fun v1 b1=>b1=b/\(v1=v/\b=b)) from cU (fun v1 b1 h=>⟨h.2,h.1,rfl⟩) h
def P4(κ:Kd):Bool:=kL κ||(CH κ).isSome||NW κ
def zV(b:List (Option Box))(k:Nat):Option Box:=(b[k]?).getD none
theorem sE(b:List (Option Box))(k:Nat):aJ b k (zV b k)=b:=by
 refine List.ext_getElem? fun j=>?_
 rw[getElem?_setL]
 split
 ·rename_i e
  subst e
  cases h:b[j]? with
  |none=>rfl
  |some x=>simp[zV,h]
 ·rfl
theorem BK{κ:Kd}(hκ:P4 κ=true){k:Nat}{vs:List DV}(hv:∀d,d∈vs->d.ment k=false){b b':List (Option Box)}(hb:FreeB k b){v:DV}
  (h:bV P κ vs b (fun v1 b1=>v1=v/\b1=b')):v.ment k=false/\FreeB k b':=by
 unfold P4 at hκ;rw[Bool.or_eq_true] at hκ;rcases hκ with hκ|hκ
 ·exact yQ hκ hv hb h
 ·obtain⟨f,rfl|rfl⟩:=vL hκ
  ·exact qK hv hb h
  ·obtain⟨rfl,h⟩:=pK h
   exact qK hv hb h
theorem AG{κ:Kd}(hκ:P4 κ=true){k:Nat}{vs:List DV}(hv:∀d,d∈vs->d.ment k=false){b b':List (Option Box)}(hb:FreeB k b){v:DV}(x:Option Box)
  (h:bV P κ vs b (fun v1 b1=>v1=v/\b1=b')):bV P κ vs (aJ b k x) (fun v1 b1=>v1=v/\b1=aJ b' k x)/\b'.length=b.length:=by
 unfold P4 at hκ;rw[Bool.or_eq_true] at hκ;rcases hκ with hκ|hκ
 ·exact E3 hκ hv x h
 ·obtain⟨f,rfl|rfl⟩:=vL hκ
  ·exact qF hv hb x h
  ·obtain⟨rfl,h⟩:=pK h
   exact⟨wN (qF hv hb x h).1,rfl⟩
theorem D3{κ:Kd}(hκ:P4 κ=true){k:Nat}{vs:List DV}(hv:∀d,d∈vs->d.ment k=false){b b2:List (Option Box)}(hb:FreeB k b){v:DV}(x:Option Box)
  (h:bV P κ vs (aJ b k x) (fun v1 b1=>v1=v/\b1=b2)):∃b',bV P κ vs b (fun v1 b1=>v1=v/\b1=b')/\b2=aJ b' k x/\b'.length=b.length:=by
 unfold P4 at hκ;rw[Bool.or_eq_true] at hκ;rcases hκ with hκ|hκ
 ·exact xS hκ hv x h
 ·obtain⟨f,rfl|rfl⟩:=vL hκ
  ·exact r6 hv hb x h
  ·obtain⟨e0,h0⟩:=pK h
   subst e0;obtain⟨b',h1,h2,h3⟩:=r6 hv hb x h0;have h4:=(qF hv hb (zV b k) h1).1;rw[sE,show aJ b' k (zV b k)=b from by rw[<-l9 b' k x, <-h2,l9,sE]] at h4
   exact⟨b,wN h4,rfl,rfl⟩
def oF:List O->Bool
 |[]=>true
 | .c (.p _) ::os | .c (.ow _ _ _) ::os | .c .top ::os=>oF os
 | .t _ ::os=>oF os
 |_=>false
theorem eA{k:Nat}{s:St}(hN:NoK k s):∀{xs:List O},oF xs=true->∀d,d∈xs.map (O.val s.t)->d.ment k=false
 |[],_,d,hd=>by simp at hd
 | .t n ::os,h,d,hd=>by
  rcases List.mem_cons.1 hd with hd|hd
  ·subst hd;exact hN.get n
  ·exact eA hN (by simpa [oF] using h) d hd
 | .c (.p x) ::os,h,d,hd=>by
  rcases List.mem_cons.1 hd with hd|hd
  ·subst hd;rfl
  ·exact eA hN (by simpa [oF] using h) d hd
 | .c (.ow a b c) ::os,h,d,hd=>by
  rcases List.mem_cons.1 hd with hd|hd
  ·subst hd;rfl
  ·exact eA hN (by simpa [oF] using h) d hd
 | .c .top ::os,h,d,hd=>by
  rcases List.mem_cons.1 hd with hd|hd
  ·subst hd;rfl
  ·exact eA hN (by simpa [oF] using h) d hd
 | .c (.tup _) ::_,h,_,_=>by simp[oF] at h
 | .c (.addr _ _ _ _) ::_,h,_,_=>by simp[oF] at h
 | .c (.bs _ _ _ _ _) ::_,h,_,_=>by simp[oF] at h
 | .c (.fn _ _) ::_,h,_,_=>by simp[oF] at h
def rQ(i:Ins):Bool:=P4 i.k&&((aH i.k).isNone&&(gV i.k.core&&oF i.xs))
theorem CS{k:Nat}{κ:Kd}{d:DV}(h:d.ment k=false):(uI κ d).ment k=false:=by
 unfold uI
 split
 ·split
  ·split
   ·rfl
   ·exact h
  ·exact h
 ·exact fF h
theorem NoK.step{k:Nat}{i:Ins}(hi:rQ i=true){s s':St}(hN:NoK k s)(h:StepK P i s s'):NoK k s'/\s'.b.length=s.b.length:=by
 simp only[rQ,b6] at hi;obtain⟨h1,_,_,h4⟩:=hi
 cases h with
 |ex v g m e=>
  have hv:=eA hN h4;obtain⟨m1,m2⟩:=BK h1 hv hN.b m;refine⟨⟨fun d hd=>?_,m2⟩,(AG h1 hv hN.b none m).2⟩
  rw[e] at hd;obtain⟨n,hn⟩:=List.getElem?_of_mem hd;rw[iV] at hn
  split at hn
  ·cases hx:s.t[n]? with
   |none=>rw[hx] at hn;simp at hn
   |some y=>rw[hx] at hn;simp at hn;subst hn;exact m1
  ·split at hn
   ·cases hx:s.t[n]? with
    |none=>rw[hx] at hn;simp at hn
    |some y=>rw[hx] at hn;simp at hn;subst hn;exact CS (hN.t y (bR hx))
   ·exact hN.t d (bR hn)
 |sk g e=>
  subst e;refine⟨⟨fun d hd=>?_,hN.b⟩,rfl⟩
  cases hdd:i.d with
  |none=>rw[hdd] at hd;exact hN.t d hd
  |some n=>
   rw[hdd] at hd;rcases eD hd with hd|hd
   ·exact hN.t d hd
   ·subst hd;rfl
def al(k size d:Nat)(zero:List DV)(s:St):St:=⟨aJ s.t d (.addr k size 0 0),aJ s.b k (some ⟨true,size,[zero],false⟩)⟩
theorem uK{i:Ins}{d:Nat}(h:d∉looks i)(t:List DV)(x:DV):∀n,n∈looks i->aW (aJ t d x) n=aW t n:=by
 intro n hn;rw[c5,c5,getElem?_setL,if_neg (fun e=>h (by subst e;exact hn))]
theorem EH{i:Ins}{d:Nat}(h:d∉looks i)(hd:i.d≠some d)(v x:DV)(t:List DV):U i v (aJ t d x)=aJ (U i v t) d x:=by
 apply List.ext_getElem?
 intro n;rw[iV,getElem?_setL,getElem?_setL,iV]
 by_cases e:n=d
 ·subst e
  have a2:hO i.k.core i.xs≠some n:=fun e'=>h (fV (j7 e'))
  simp[hd,a2]
 ·simp[e]
theorem A7{i:Ins}{d:Nat}(hd:i.d≠some d)(x:DV)(t:List DV):aP (aJ t d x) i.d (.tup [])=aJ (aP t i.d (.tup [])) d x:=by
 cases hi:i.d with
 |none=>rfl
 |some e=>
  have hne:d≠e:=fun e'=>hd (by rw[hi,e'])
  simp only[aP]
  apply List.ext_getElem?
  intro n;simp only[getElem?_setL]
  by_cases h1:n=d
  ·subst h1;simp[hne]
  ·by_cases h2:n=e
   ·subst h2;simp[h1]
   ·simp[h1,h2]
theorem FD{k size d:Nat}{zero:List DV}{i:Ins}(hi:rQ i=true)(hl:d∉looks i)(hd:i.d≠some d){s s':St}(hN:NoK k s)(h:StepK P i s s'):StepK P i (al k size d zero s) (al k size d zero s'):=by
 simp only[rQ,b6] at hi;obtain⟨h1,_,_,h4⟩:=hi;have g:=uK hl s.t (.addr k size 0 0)
 cases h with
 |ex v g1 m e=>
  refine .ex v ((fD (t:=s.t) (t':=(al k size d zero s).t) g).2 g1) ?_ ?_
  ·rw[dC (t:=s.t) (t':=(al k size d zero s).t) g]
   exact(AG h1 (eA hN h4) hN.b _ m).1
  ·simp only[al];rw[e,EH hl hd]
 |sk g1 e=>
  subst e;refine .sk ((fG (t:=s.t) (t':=(al k size d zero s).t) g).2 g1) ?_;simp only[al];rw[A7 hd]
theorem JA{k size d:Nat}{zero:List DV}{i:Ins}(hi:rQ i=true)(hl:d∉looks i)(hd:i.d≠some d){s s2:St}(hN:NoK k s)(h:StepK P i (al k size d zero s) s2):∃s',StepK P i s s'/\s2=al k size d zero s':=by
 simp only[rQ,b6] at hi;obtain⟨h1,_,_,h4⟩:=hi;have g:=uK hl s.t (.addr k size 0 0)
 cases h with
 |ex v g1 m e=>
  rw[fD (t:=s.t) (t':=(al k size d zero s).t) g] at g1;rw[dC (t:=s.t) (t':=(al k size d zero s).t) g] at m;obtain⟨b',m1,m2,_⟩:=D3 h1 (eA hN h4) hN.b _ m;refine⟨⟨U i v s.t,b'⟩,.ex v g1 m1 rfl,?_⟩;obtain⟨t2,b2⟩:=s2;simp only[al] at e m2 ⊢;rw[e,m2,EH hl hd]
 |sk g1 e=>
  rw[fG (t:=s.t) (t':=(al k size d zero s).t) g] at g1;refine⟨⟨aP s.t i.d (.tup []),s.b⟩,.sk g1 rfl,?_⟩;rw[e];simp only[al];rw[A7 hd]
theorem NoK.al{k k' size d:Nat}{zero:List DV}(hne:k'≠k)(hz:∀x,x∈zero->x.ment k=false){s:St}(hN:NoK k s):NoK k (Vc.al k' size d zero s):=by
 refine⟨fun x hx=>?_,FreeB.set hN.b fun _ r hr x hx=>?_⟩
 ·rcases eD hx with hx|hx
  ·exact hN.t x hx
  ·subst hx;simp[DV.ment,hne]
 ·simp at hr;subst hr;exact hz x hx
theorem RI{k k' size size' d d':Nat}{zero zero':List DV}(hk:k≠k')(hd:d≠d')(s:St):al k size d zero (al k' size' d' zero' s)=al k' size' d' zero' (al k size d zero s):=by
 simp only[al];rw[fH _ _ _ _ _ hk.symm]
 congr 1
 apply List.ext_getElem?
 intro n;simp only[getElem?_setL]
 by_cases h1:n=d
 ·subst h1;simp[hd]
 ·by_cases h2:n=d'
  ·subst h2;simp[h1]
  ·simp[h1,h2]
end Go.Proofs.YtnjphclbpgajpaaGreatDoor.Vc
