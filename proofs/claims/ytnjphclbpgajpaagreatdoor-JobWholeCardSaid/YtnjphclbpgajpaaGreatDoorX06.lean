/- Part of a proof over a Go program: VcNew. No condition. -/
import Derived.Test.YtnjphclbpgajpaaGreatDoorX05
set_option linter.unnecessarySimpa false
set_option linter.unusedSectionVars false
set_option linter.unusedSimpArgs false
set_option linter.unusedVariables false
namespace Go.Proofs.YtnjphclbpgajpaaGreatDoor.Vc
open Go.RowKit
variable {P:Program}
theorem i5{k:Nat}{t:List DV}:c8 k t=true↔∀d,d∈t->d.ment k=false:=by
 induction t with
 |nil=>simp[c8]
 |cons d ds ih=>simp[c8,ih]
theorem uX{k:Nat}{rs:List (List DV)}:cZ k rs=true↔∀r,r∈rs->∀d,d∈r->d.ment k=false:=by
 induction rs with
 |nil=>simp[cZ]
 |cons r rs ih=>simp[cZ,ih,i5]
theorem t8{k:Nat}:∀{i:Nat} {b:List (Option Box)},cK k i b=true↔∀(j:Nat) bx,b[j]?=some (some bx)->i+j≠k->cZ k bx.rows=true:=by
 intro i b
 induction b generalizing i with
 |nil=>simp[cK]
 |cons x xs ih=>
  simp only[cK,aY,Bool.or_eq_true,beq_iff_eq,ih]
  constructor
  ·rintro⟨h1,h2⟩ j bx hj hne
   cases j with
   |zero=>
    simp at hj;subst hj;rcases h1 with h1|h1
    ·exact absurd h1 (by simpa using hne)
    ·exact h1
   |succ j=>exact h2 j bx (by simpa using hj) (by omega)
  ·intro h
   refine⟨?_,fun j bx hj hne=>h (j+1) bx (by simpa using hj) (by omega)⟩
   by_cases hik:i=k
   ·exact .inl hik
   ·right
    cases x with
    |none=>rfl
    |some bx=>exact h 0 bx rfl (by simpa using hik)
structure NoK (k:Nat) (s:St):Prop where
 t:∀d,d∈s.t->d.ment k=false
 b:∀(j:Nat) bx,s.b[j]?=some (some bx)->j≠k->∀r,r∈bx.rows->∀d,d∈r->d.ment k=false
theorem NoK.get{k:Nat}{s:St}(h:NoK k s)(n:Nat):(aT s.t n).ment k=false:=by
 rw[cL]
 cases hn:s.t[n]? with
 |none=>rfl
 |some d=>exact h.t d (cD hn)
def EL:Kd->Bool
 | .mov _ | .pick | .fad _ | .iad _ | .nilchk=>true
 |_=>false
theorem JO(d:TV):d.dv.plain=true:=by cases d<;>rfl
theorem H6(d:TV):d.dv.copy.plain=true:=by cases d<;>rfl
theorem kK{k:Nat}{d:DV}(h:d.plain=true):d.ment k=false:=by cases d<;>first|rfl|cases h
theorem CV{κ:Kd}(hκ:yZ κ=true)(ha:EL κ=false){vs:List DV}{b b':List (Option Box)}{v:DV}(h:aD P κ vs b (fun v1 b1=>v1=v/\b1=b')):v.plain=true:=by
 cases κ<;>simp[yZ] at hκ<;>simp[EL] at ha
 all_goals
  unfold aD at h
  (repeat' split at h)<;>(try contradiction)
 all_goals first
  |(rw[gV] at h;obtain⟨z,h1,h2,h3⟩:=h;subst h2;rfl)
  |(obtain⟨_,_,_,_,_,rfl,_⟩:=h;rfl)
  |(rw[gS] at h;obtain⟨z,h1,h2,h3⟩:=h;subst h2;rfl)
  |(obtain⟨rfl,_⟩:=h;first|rfl|exact JO _|exact H6 _)
  |(obtain⟨_,rfl,_⟩:=h;rfl)
  |(obtain⟨_,_,rfl,_⟩:=h;rfl)
  |(obtain⟨_,_,_,rfl,_⟩:=h;rfl)
  |(obtain⟨_,_,_,_,rfl,_⟩:=h;rfl)
  |exact h.2.elim
theorem gR{k:Nat}{d:DV}(h:d.ment k=false):d.copy.ment k=false:=by rw[jA];exact h
theorem tF{κ:Kd}(hκ:yZ κ=true){k:Nat}{vs:List DV}(hv:∀d,d∈vs->d.ment k=false){b b':List (Option Box)}{v:DV}(h:aD P κ vs b (fun v1 b1=>v1=v/\b1=b')):v.ment k=false:=by
 cases ha:EL κ with
 |false=>exact kK (CV hκ ha h)
 |true=>
  cases κ<;>simp[EL] at ha
  case mov take=>
   unfold aD at h
   split at h<;>(try contradiction)
   rename_i x heq;obtain⟨h1,_⟩:=h;subst h1;have hx:=hv x (by simp)
   split
   ·exact hx
   ·exact gR hx
  case pick=>
   unfold aD at h
   split at h<;>(try contradiction)
   rename_i c x y heq;have hx:=hv x (by simp)
   have hy:=hv y (by simp)
   cases c with
   |true=>rw[<-(h.1 rfl).1];exact gR hx
   |false=>rw[<-(h.2 rfl).1];exact gR hy
  case fad off=>
   unfold aD at h
   split at h<;>(try contradiction)
   ·rename_i k' size r o heq
    rw[<-h.1];exact hv (.addr k' size r o) (by simp)
   ·rw[<-h.1];rfl
  case iad size=>
   unfold aD at h
   split at h<;>(try contradiction)
   rename_i x k' i heq;have hx:=hv x (by simp)
   split at h
   ·obtain⟨_,_,row,_,e,_⟩:=h;rw[<-e];rfl
   ·obtain⟨_,_,row,_,e,_⟩:=h;rw[<-e];rfl
   ·obtain⟨_,_,_,e,_⟩:=h;rw[<-e];exact hx
   ·exact h.elim
  case nilchk=>
   unfold aD at h
   split at h<;>(try contradiction)
   rename_i x heq;have hx:=hv x (by simp)
   split at h
   ·rw[<-h.1];exact hx
   ·rw[<-h.1];rfl
   ·rw[<-h.1];rfl
   ·exact h.elim
theorem fJ{α:Type}{x v : α}:∀{l:List α} {n:Nat},x∈aF l n v->x∈l\/x=v
 |[],_,h=>by simp[aF] at h
 |y ::ys,0,h=>by
  simp only[aF] at h;rcases List.mem_cons.1 h with h|h
  ·exact .inr h
  ·exact .inl (List.mem_cons_of_mem _ h)
 |y ::ys,n+1,h=>by
  simp only[aF] at h;rcases List.mem_cons.1 h with h|h
  ·exact .inl (h▸List.mem_cons_self)
  ·rcases fJ h with h|h
   ·exact .inl (List.mem_cons_of_mem _ h)
   ·exact .inr h
theorem uW{x:DV}:∀{cs:List DV} {l:List DV} {o:Nat},x∈iR l o cs->x∈l\/x∈cs
 |[],_,_,h=>.inl h
 |c ::cs,l,o,h=>by
  simp only[iR] at h;rcases uW h with h|h
  ·rcases fJ h with h|h
   ·exact .inl h
   ·exact .inr (h▸List.mem_cons_self)
  ·exact .inr (List.mem_cons_of_mem _ h)
theorem vS{k:Nat}{y:DV}{cs:List DV}(h:aK y=some cs)(hy:y.ment k=false):∀d,d∈cs->d.ment k=false:=by
 intro d hd
 cases y with
 |agd rs=>
  simp only[aK,bQ,nZ] at h;subst h;obtain⟨c,hc,rfl⟩:=List.mem_map.1 hd
  cases hm:c.dv.ment k with
  |false=>rfl
  |true=>
   have:(DV.agd rs).ment k=true:=by
    simp only[DV.ment,List.any_eq_true];exact⟨c,hc,by cases c<;>exact hm⟩
   rw[this] at hy;cases hy
 |p x=>
  simp only[aK,bQ] at h;subst h;obtain⟨c,_,rfl⟩:=List.mem_map.1 hd
  rfl
 |top=>simp[aK] at h
 |tup ds=>simp[aK] at h
 |ob T=>simp[aK] at h
 |pk o=>simp[aK] at h
 |_=>simp only[aK,bQ] at h;subst h;simp at hd;subst hd;exact hy
def FreeB(k:Nat)(b:List (Option Box)):Prop:=∀(j:Nat) bx,b[j]?=some (some bx)->j≠k->∀r,r∈bx.rows->∀d,d∈r->d.ment k=false
theorem FreeB.set{k j:Nat}{b:List (Option Box)}(h:FreeB k b){bx:Box}(hb:j≠k->∀r,r∈bx.rows->∀d,d∈r->d.ment k=false):FreeB k (aF b j (some bx)):=by
 intro i bx' hi hne r hr d hd;rw[getElem?_setL] at hi
 by_cases hij:i=j
 ·subst hij
  rw[if_pos rfl] at hi
  cases hx:b[i]? with
  |none=>rw[hx] at hi;simp at hi
  |some y=>rw[hx] at hi;simp at hi;subst hi;exact hb hne r hr d hd
 ·rw[if_neg hij] at hi
  exact h i bx' hi hne r hr d hd
theorem DB{κ:Kd}(hκ:(mM κ||(G5 κ).isSome)=true){k:Nat}{vs:List DV}(hv:∀d,d∈vs->d.ment k=false){b b':List (Option Box)}(hb:FreeB k b){v:DV}
  (h:cJ P κ vs b (fun v1 b1=>v1=v/\b1=b')):v.ment k=false/\FreeB k b':=by
 rw[Bool.or_eq_true] at hκ;rcases hκ with hκ|hκ
 ·have hk:=fB (CP hκ) h
  subst hk;refine⟨?_,hb⟩;unfold cJ at h
  split at h
  ·cases hκ
  ·simp only[mM,Bool.or_eq_true] at hκ
   rcases hκ with hκ|hκ
   ·exact tF hκ hv h.2
   ·replace h:=h.2
    rename_i κ';cases κ'<;>simp[y7] at hκ
    case call f=>
     simp only[aD] at h
     split at h
     ·obtain⟨r,h1,h2,_⟩:=h;subst h2;exact kK h1.1
     ·exact h.elim
    case callv=>
     unfold aD at h
     split at h<;>(try contradiction)
     split at h
     ·obtain⟨r,h1,h2,_⟩:=h;subst h2;exact kK h1.1
     ·exact h.elim
    case mkfn f=>
     simp only[aD] at h
     split at h
     ·rw[<-h.1];rfl
     ·exact h.elim
    case app size bytes=>
     unfold aD at h
     split at h<;>(try contradiction)
     all_goals
      split at h
      ·obtain⟨_,_,_,_,e,_⟩:=h;rw[<-e];rfl
      ·exact h.elim
  ·rename_i n1 n2
   refine tF ?_ hv h;cases κ<;>first|exact hκ|exact(n1 _ _ rfl).elim|exact(n2 _ rfl).elim
 ·obtain⟨j,hj⟩:=Option.isSome_iff_exists.1 hκ
  unfold G5 at hj
  split at hj
  ·rename_i k' n ag take
   simp only[cJ] at h
   split at h
   ·obtain⟨rfl,h⟩:=h
    rename_i k2 sz r off rest;have hk2:k2≠k:=by have:=hv (.addr k2 sz r off) (by simp);simpa [DV.ment] using this
    cases rest with
    |cons _ _=>simp[aD] at h
    |nil=>
     simp only[aD] at h
     cases hbk:bF b k2 with
     |none=>simp[hbk] at h
     |some bx=>
      simp only[hbk] at h;obtain⟨h1,row,h2,h3,h4⟩:=h;have hrow:=hb k2 bx (b8 hbk) hk2 row (cD h2)
      cases ag with
      |true=>
       simp only[if_true] at h4
       split at h4
       ·obtain⟨e1,e2⟩:=h4;subst e2;exact⟨by rw[<-e1];rfl,hb⟩
       ·exact h4.elim
      |false=>
       simp only[Bool.false_eq_true,if_false] at h4;obtain⟨d,h5,h6,h7⟩:=h4;have hd:=hrow d (cD h5)
       cases take with
       |false=>
        simp only[Bool.false_eq_true,if_false] at h6 h7;subst h7;exact⟨by rw[<-h6];exact gR hd,hb⟩
       |true=>
        simp only[if_true] at h6 h7;subst h7;refine⟨by rw[<-h6];exact hd,hb.set fun _ r' hr' d' hd'=>?_⟩
        rcases fJ hr' with hr'|hr'
        ·exact hb k2 bx (b8 hbk) hk2 r' hr' d' hd'
        ·subst hr'
         rcases fJ hd' with hd'|hd'
         ·exact hrow d' hd'
         ·subst hd';exact gR hd
   ·exact h.elim
  ·rename_i k' n
   simp only[cJ] at h
   split at h
   ·obtain⟨rfl,h⟩:=h
    rename_i k2 sz r off rest;have hk2:k2≠k:=by have:=hv (.addr k2 sz r off) (by simp);simpa [DV.ment] using this
    match rest,h,hv with
    |[],h,_=>simp[aD] at h
    |_ ::_ ::_,h,_=>simp[aD] at h
    |[y],h,hv=>
     simp only[aD] at h
     cases hbk:bF b k2 with
     |none=>simp[hbk] at h
     |some bx=>
      cases hc:aK y with
      |none=>simp[hbk,hc] at h
      |some cs=>
       simp only[hbk,hc] at h;obtain⟨h1,h2,h3,row,h4,h5,h6,h7⟩:=h;subst h7;have hrow:=hb k2 bx (b8 hbk) hk2 row (cD h4);have hcs:=vS hc (hv y (by simp))
       refine⟨by rw[<-h6];rfl,hb.set fun _ r' hr' d' hd'=>?_⟩
       rcases fJ hr' with hr'|hr'
       ·exact hb k2 bx (b8 hbk) hk2 r' hr' d' hd'
       ·subst hr'
        rcases uW hd' with hd'|hd'
        ·exact hrow d' hd'
        ·exact hcs d' hd'
   ·exact h.elim
  ·cases hj
theorem JG{a:Ins}{k size d:Nat}{zero:List DV}(hk:a.k=.alloc k size zero)(hg:a.g=none)(hx:a.xs=[])(hd:a.d=some d){s:St}(hN:NoK k s)(hlt:k<s.b.length){K:St->Prop} :
  b7 P a s K↔(zero.length=size/\K ⟨aF s.t d (.addr k size 0 0),aF s.b k (some ⟨true,size,[zero],false⟩)⟩):=by
 unfold b7;rw[hg];simp only[mX,fresh,hk,fF,hx,hd,List.map_nil,cJ,aD,Kd.core,fE,aH]
 constructor
 ·exact fun h=>h.2
 ·refine fun h=>⟨⟨hlt,i5.2 fun x hx=>?_,t8.2 fun j bx hj hne=>uX.2 (hN.b j bx hj (by simpa using hne))⟩,h⟩
  rcases fJ hx with hx|hx
  ·exact hN.t x hx
  ·subst hx;rfl
theorem HJ{κ:Kd}{j k:Nat}(hj:G5 κ=some j){vs:List DV}(hv:∀d,d∈vs->d.ment k=false){b:List (Option Box)}{K:DV->List (Option Box)->Prop}(h:cJ P κ vs b K):j≠k:=by
 unfold G5 at hj
 split at hj
 ·injection hj with hj
  subst hj;simp only[cJ] at h
  split at h
  ·rename_i k2 sz r off rest
   have:=hv (.addr k2 sz r off) (by simp)
   rw[<-h.1]
   simpa [DV.ment] using this
  ·exact h.elim
 ·injection hj with hj
  subst hj;simp only[cJ] at h
  split at h
  ·rename_i k2 sz r off rest
   have:=hv (.addr k2 sz r off) (by simp)
   rw[<-h.1]
   simpa [DV.ment] using this
  ·exact h.elim
 ·cases hj
theorem K7{κ:Kd}(hκ:(mM κ||(G5 κ).isSome)=true){k:Nat}{vs:List DV}(hv:∀d,d∈vs->d.ment k=false){b b':List (Option Box)}{v:DV}(x:Option Box)
  (h:cJ P κ vs b (fun v1 b1=>v1=v/\b1=b')):cJ P κ vs (aF b k x) (fun v1 b1=>v1=v/\b1=aF b' k x)/\b'.length=b.length:=by
 rw[Bool.or_eq_true] at hκ;rcases hκ with hκ|hκ
 ·have hk:=fB (CP hκ) h
  subst hk;exact⟨nR hκ h _,rfl⟩
 ·obtain⟨j,hj⟩:=Option.isSome_iff_exists.1 hκ
  have hne:=HJ hj hv h;obtain⟨l1,l2⟩:=oL hj h;have:=l2 (aF b k x) (dT _ _ _ _ (fun e=>hne e.symm))
  rw[gN _ _ _ _ _ (fun e=>hne e.symm), <-l1] at this
  exact⟨this,by rw[l1,aI]⟩
theorem DN{κ:Kd}(hκ:(mM κ||(G5 κ).isSome)=true){k:Nat}{vs:List DV}(hv:∀d,d∈vs->d.ment k=false){b b2:List (Option Box)}{v:DV}(x:Option Box)
  (h:cJ P κ vs (aF b k x) (fun v1 b1=>v1=v/\b1=b2)):∃b',cJ P κ vs b (fun v1 b1=>v1=v/\b1=b')/\b2=aF b' k x/\b'.length=b.length:=by
 rw[Bool.or_eq_true] at hκ;rcases hκ with hκ|hκ
 ·have hk:=fB (CP hκ) h
  subst hk;exact⟨b,nR hκ h _,rfl,rfl⟩
 ·obtain⟨j,hj⟩:=Option.isSome_iff_exists.1 hκ
  have hne:=HJ hj hv h;obtain⟨l1,l2⟩:=oL hj h;refine⟨_,l2 b (dT _ _ _ _ (fun e=>hne e.symm)).symm,?_,by rw[aI]⟩
  rw[gN _ _ _ _ _ hne, <-l1]
theorem tP{b:List (Option Box)}{k q:Nat}{x:Option Box}(h:q≠k):bF (aF b k x) q=bF b q:=by
 rw[dB,dB,dT _ _ _ _ (fun e=>h e.symm)]
theorem FQ{b:List (Option Box)}{k:Nat}{x:Option Box}{d:DV}(h:d.ment k=false):d.frz (aF b k x)=d.frz b:=by
 have cap:∀{c:CapV},(∀j sz r o,c=.addr j sz r o->j≠k)->c.frz (aF b k x)=c.frz b:=by
  intro c hc
  cases c with
  |p y=>rfl
  |addr j sz r o=>simp only[CapV.frz,tP (hc j sz r o rfl)]
 cases d with
 |addr j sz r o=>exact cap (c:=.addr j sz r o) fun j' _ _ _ e=>by injection e with e;subst e;intro e;subst e;simp[DV.ment] at h
 |bs j sz ag lo n=>simp only[DV.frz];rw[tP (fun e=>by subst e;simp[DV.ment] at h)]
 |fn f caps=>
  have:∀(l:List CapV),(∀c,c∈l->∀j sz r o,c=.addr j sz r o->j≠k)->mR (aF b k x) l=mR b l:=by
   intro l
   induction l with
   |nil=>intro _;rfl
   |cons c l ih=>intro hl;simp only[mR];rw[cap (hl c (by simp)),ih (fun c hc=>hl c (by simp[hc]))]
  simp only[DV.frz];rw[this caps fun c hc j sz r o e ej=>?_]
  subst e;subst ej;have:(DV.fn f caps).ment j=true:=by simp only[DV.ment,List.any_eq_true];exact⟨_,hc,by simp⟩
  rw[this] at h;cases h
 |agd cs=>
  have:∀(l:List RfV),(∀c,c∈l->c.ment k=false)->wD (aF b k x) l=wD b l:=by
   intro l
   induction l with
   |nil=>intro _;rfl
   |cons c l ih=>
    intro hl;have hc:=hl c (by simp)
    have e:c.frz (aF b k x)=c.frz b:=by
     cases c with
     |p y=>rfl
     |addr j sz r o=>exact cap (c:=.addr j sz r o) fun j' _ _ _ e=>by injection e with e;subst e;intro e;subst e;simp[RfV.ment] at hc
     |bs j sz ag lo n=>simp only[RfV.frz,YU];rw[tP (fun e=>by subst e;simp[RfV.ment] at hc)]
     |mh j=>rfl
    simp only[wD,e,ih (fun c hc=>hl c (by simp[hc]))]
  simp only[DV.frz];rw[this cs fun c hc=>?_]
  simp only[DV.ment] at h
  cases hm:c.ment k with
  |false=>rfl
  |true=>rw[List.any_eq_true.2 ⟨c,hc,hm⟩] at h;cases h
 |_=>rfl
theorem kT{q:Nat}:∀{cs:List CapV} {l:List Nat},q∈oB cs l->(∃sz r o,CapV.addr q sz r o∈cs)\/q∈l
 |[],l,h=>.inr h
 | .p x ::cs,l,h=>by
  rcases kT (cs:=cs) h with ⟨sz,r,o,h⟩|h
  ·exact .inl ⟨sz,r,o,by simp[h]⟩
  ·exact .inr h
 | .addr k sz r o ::cs,l,h=>by
  simp only[oB] at h;rcases List.mem_cons.1 h with rfl|h
  ·exact .inl ⟨sz,r,o,by simp⟩
  ·rcases kT (cs:=cs) h with ⟨sz,r,o,h⟩|h
   ·exact .inl ⟨sz,r,o,by simp[h]⟩
   ·exact .inr h
theorem wN{q:Nat}{d:DV}{l:List Nat}(h:q∈nT d l):d.ment q=true\/q∈l:=by
 cases d with
 |addr k sz r o=>simp only[nT] at h;rcases List.mem_cons.1 h with rfl|h;exact .inl (by simp[DV.ment]);exact .inr h
 |bs k sz ag lo n=>simp only[nT] at h;rcases List.mem_cons.1 h with rfl|h;exact .inl (by simp[DV.ment]);exact .inr h
 |mh k=>simp only[nT] at h;rcases List.mem_cons.1 h with rfl|h;exact .inl (by simp[DV.ment]);exact .inr h
 |fn f caps=>
  rcases kT h with ⟨sz,r,o,h⟩|h
  ·exact .inl (by simp only[DV.ment,List.any_eq_true];exact⟨_,h,by simp⟩)
  ·exact .inr h
 |_=>exact .inr h
theorem wP{q:Nat}:∀{ds:List DV} {l:List Nat},q∈IK ds l->(∃d,d∈ds/\d.ment q=true)\/q∈l
 |[],l,h=>.inr h
 |d ::ds,l,h=>by
  rcases wN h with h|h
  ·exact .inl ⟨d,by simp,h⟩
  ·rcases wP h with ⟨d',h1,h2⟩|h
   ·exact .inl ⟨d',by simp[h1],h2⟩
   ·exact .inr h
theorem uY{q:Nat}:∀{rs:List (List DV)} {l:List Nat},q∈pM rs l->(∃r,r∈rs/\∃d,d∈r/\d.ment q=true)\/q∈l
 |[],l,h=>.inr h
 |r ::rs,l,h=>by
  rcases wP h with ⟨d,h1,h2⟩|h
  ·exact .inl ⟨r,by simp,d,h1,h2⟩
  ·rcases uY h with ⟨r',h1,h2⟩|h
   ·exact .inl ⟨r',by simp[h1],h2⟩
   ·exact .inr h
theorem vG{b:List (Option Box)}{k:Nat}{x:Option Box}:∀{vs:List DV},(∀d,d∈vs->d.ment k=false)->iM (aF b k x) vs=iM b vs/\k∉iM b vs
 |[],_=>⟨rfl,by simp[iM]⟩
 |d ::ds,h=>by
  obtain⟨h1,h2⟩:=vG (b:=b) (k:=k) (x:=x) (vs:=ds) (fun d hd=>h d (by simp[hd]))
  simp only[iM,FQ (h d (by simp)),h1]
  refine⟨trivial,?_⟩
  split
  ·exact h2
  ·intro hm
   rcases wN hm with hm|hm
   ·rw[h d (by simp)] at hm;cases hm
   ·exact h2 hm
theorem i4{b:List (Option Box)}{k:Nat}{x:Option Box}(hb:FreeB k b):∀{n:Nat} {ws ks:List Nat},k∉ws->k∉ks->dU (aF b k x) n ws ks=dU b n ws ks/\k∉dU b n ws ks
 |0,_,_,_,h=>⟨rfl,h⟩
 |_+1,[],_,_,h=>⟨rfl,h⟩
 |n+1,q ::ws,ks,hw,hk=>by
  have hq:q≠k:=fun e=>hw (by simp[e])
  have hws:k∉ws:=fun h=>hw (by simp[h])
  simp only[dU,gI hq]
  split
  ·exact i4 hb hws hk
  ·cases hg:eH b q with
   |none=>exact i4 hb hws hk
   |some bx=>
    simp only
    split
    ·refine i4 hb ?_ (by simp[hk,Ne.symm hq])
     cases c9 bx.rows with
     |true=>exact hws
     |false=>
      intro hm;rcases uY hm with ⟨r,h1,d,h2,h3⟩|hm
      ·rw[hb q bx (cA.1 hg) hq r h1 d h2] at h3;cases h3
      ·exact hws hm
    ·exact i4 hb hws hk
theorem yB{b:List (Option Box)}{k:Nat}{x:Option Box}(hb:FreeB k b){vs:List DV}(hv:∀d,d∈vs->d.ment k=false):sJ (aF b k x) vs=sJ b vs/\k∉sJ b vs:=by
 obtain⟨h1,h2⟩:=vG (b:=b) (x:=x) hv;unfold sJ;rw[h1];exact i4 hb h2 (by simp)
theorem qJ{b:List (Option Box)}{k:Nat}{x:Option Box}{ν:Nat->Option Nat}:∀{vs:List DV},(∀d,d∈vs->d.ment k=false)->lD (aF b k x) ν vs=lD b ν vs
 |[],_=>rfl
 |d ::ds,h=>by simp only[lD,FQ (h d (by simp)),qJ (vs:=ds) (fun d hd=>h d (by simp[hd]))]
theorem qI{b:List (Option Box)}{k:Nat}{x:Option Box}{ν:Nat->Option Nat}:∀{ks:List Nat},k∉ks->kO (aF b k x) ν ks=kO b ν ks
 |[],_=>rfl
 |q ::ks,h=>by
  simp only[kO,CM];rw[gI (fun e=>h (by simp[e])),qI (fun hm=>h (by simp[hm]))]
theorem qP{k:Nat}{x:Option Box}{ν:Nat->Option Nat}:∀{ks:List Nat} {bs b:List (Option Box)},k∉ks->bs.length=ks.length->fR ν ks bs (aF b k x)=aF (fR ν ks bs b) k x/\(fR ν ks bs b).length=b.length
 |[],[],b,_,_=>by simp[fR,vT]
 |[],_ ::_,b,_,h=>by simp at h
 |_ ::_,[],b,_,h=>by simp at h
 |q ::ks,y ::l,b,hk,hl=>by
  have hq:q≠k:=fun e=>hk (by simp[e])
  have ho:qB (aF b k x) q=qB b q:=by unfold qB;rw[gI hq]
  simp only[fR,ho];rw[gN _ _ _ _ _ (fun e=>hq e.symm)]
  obtain⟨h1,h2⟩:=qP (ks:=ks) (bs:=l) (b:=aF b q (oC ν (qB b q) y)) (fun h=>hk (List.mem_cons_of_mem _ h)) (by simpa using hl)
  exact⟨h1,by rw[h2,aI]⟩
theorem t7{f:FuncId}{k:Nat}{vs:List DV}(hv:∀d,d∈vs->d.ment k=false){b b':List (Option Box)}(hb:FreeB k b){v:DV}(x:Option Box)
  (h:callO P f false vs b (fun v1 b1=>v1=v/\b1=b')):callO P f false vs (aF b k x) (fun v1 b1=>v1=v/\b1=aF b' k x)/\b'.length=b.length:=by
 unfold callO at h ⊢;obtain⟨k1,k2⟩:=yB (x:=x) hb hv;rw[k1,qJ hv]
 split at h
 ·obtain⟨bs',r,h1,h2,h3,h4⟩:=h
  have hl:bs'.length=(sJ b vs).length:=by simpa using h2
  obtain⟨e1,e2⟩:=qP (x:=x) (ν:=DK (sJ b vs) b.length bs'.length) (b:=b) k2 hl;refine⟨⟨bs',r,by rw[qI k2];exact h1,h2,by rw[aI];exact h3,by rw[aI,e1,h4]⟩,by rw[<-h4,e2]⟩
 ·exact h.elim
theorem FreeB.off{k:Nat}{b:List (Option Box)}(hb:FreeB k b)(x:Option Box):FreeB k (aF b k x):=by
 intro j bx hj hne;rw[getElem?_setL,if_neg hne] at hj;exact hb j bx hj hne
theorem mY{α:Type}:∀(l:List α) (n:Nat) (x y : α),aF (aF l n x) n y=aF l n y
 |[],_,_,_=>rfl
 |_ ::_,0,_,_=>rfl
 |_ ::xs,n+1,x,y=>by simp only[aF];rw[mY xs n x y]
theorem tC{f:FuncId}{k:Nat}{vs:List DV}(hv:∀d,d∈vs->d.ment k=false){b b2:List (Option Box)}(hb:FreeB k b){v:DV}(x:Option Box)
  (h:callO P f false vs (aF b k x) (fun v1 b1=>v1=v/\b1=b2)):∃b',callO P f false vs b (fun v1 b1=>v1=v/\b1=b')/\b2=aF b' k x/\b'.length=b.length:=by
 unfold callO at h ⊢;obtain⟨k1,k2⟩:=yB (x:=x) hb hv;rw[k1,qJ hv] at h
 split at h
 ·obtain⟨bs',r,h1,h2,h3,h4⟩:=h
  have hl:bs'.length=(sJ b vs).length:=by simpa using h2
  rw[aI] at h3 h4;obtain⟨e1,e2⟩:=qP (x:=x) (ν:=DK (sJ b vs) b.length bs'.length) (b:=b) k2 hl;exact⟨_,⟨bs',r,by rw[qI k2] at h1;exact h1,h2,h3,rfl⟩,by rw[<-h4,e1],e2⟩
 ·exact h.elim
theorem uB{ν:Nat->Option Nat}{k:Nat}(hν:∀i, ν i≠some k)(d:DV):(cF ν d).ment k=false:=by
 cases d with
 |addr j sz r o=>simp only[cF];split<;>first|rfl|(rename_i k' hk;simp only[DV.ment,beq_eq_false_iff_ne];intro e;subst e;exact hν _ hk)
 |bs j sz ag lo n=>simp only[cF];split<;>first|rfl|(rename_i k' hk;simp only[DV.ment,beq_eq_false_iff_ne];intro e;subst e;exact hν _ hk)
 |mh j=>simp only[cF];split<;>first|rfl|(rename_i k' hk;simp only[DV.ment,beq_eq_false_iff_ne];intro e;subst e;exact hν _ hk)
 |fn f caps=>
  simp only[cF]
  split
  ·rename_i l hl
   cases hm:(DV.fn f l).ment k with
   |false=>rfl
   |true=>
    exfalso
    simp only[DV.ment,List.any_eq_true] at hm;obtain⟨c,hc,hk⟩:=hm;obtain⟨e1,e2⟩:=lP hl;obtain⟨j,hj⟩:=List.getElem?_of_mem hc;have hjl:j<caps.length:=by rw[<-e1];exact(bM.1 hj).1
    rcases e2 j caps[j] c (by simp[hjl]) hj with ⟨y,_,rfl⟩|⟨q,q',sz,r,o,h1,_,rfl⟩
    ·simp at hk
    ·simp at hk;subst hk;exact hν q h1
  ·rfl
 |_=>rfl
theorem tV{k:Nat}{ν:Nat->Option Nat}(hν:∀i, ν i≠some k):∀{ks:List Nat} {bs b:List (Option Box)},bs.length=ks.length->FreeB k b->FreeB k (fR ν ks bs b)
 |[],[],b,_,h=>by simpa [fR,vT] using h
 |[],_ ::_,b,h,_=>by simp at h
 |_ ::_,[],b,h,_=>by simp at h
 |q ::ks,y ::l,b,hl,hb=>by
  simp only[fR];refine tV hν (by simpa using hl) ?_
  cases y with
  |none=>
   intro j bx hj hne;simp only[oC] at hj;rw[getElem?_setL] at hj
   split at hj
   ·cases hx:b[j]?<;>rw[hx] at hj<;>simp at hj
   ·exact hb j bx hj hne
  |some bx=>
   refine hb.set fun _ r hr d hd=>?_
   simp only[gU] at hr;obtain⟨r0,_,rfl⟩:=List.mem_map.1 hr;obtain⟨d0,_,rfl⟩:=List.mem_map.1 hd;exact uB hν d0
theorem uT{f:FuncId}{k:Nat}{vs:List DV}(hv:∀d,d∈vs->d.ment k=false){b b':List (Option Box)}(hb:FreeB k b){v:DV}
  (h:callO P f false vs b (fun v1 b1=>v1=v/\b1=b')):v.ment k=false/\FreeB k b':=by
 unfold callO at h;obtain⟨_,k2⟩:=yB (x:=none) hb hv
 split at h
 ·obtain⟨bs',r,h1,h2,h3,h4⟩:=h
  have hl:bs'.length=(sJ b vs).length:=by simpa using h2
  have hν:∀i,DK (sJ b vs) b.length bs'.length i≠some k:=fun i e=>by
   obtain⟨e1,e2⟩:=CB e;rw[hl] at e1;have hi:(sJ b vs)[i]?=some (sJ b vs)[i]:=by simp[e1]
   rw[o7 hi] at e2;exact k2 (by rw[e2];exact List.getElem_mem _)
  refine⟨?_,by rw[<-h4];exact tV hν hl hb⟩
  rw[<-h3];unfold t6
  split
  ·exact kK (by assumption)
  ·exact uB hν r
 ·exact h.elim
def OW:Kd->Bool
 | .ob (.callo _ false) | .ob (.callr _)=>true
 |_=>false
theorem yL{κ:Kd}(h:OW κ=true):∃f, κ=.ob (.callo f false) \/ κ=.ob (.callr f):=by
 unfold OW at h
 split at h
 ·exact⟨_,.inl rfl⟩
 ·exact⟨_,.inr rfl⟩
 ·cases h
theorem sP{f:FuncId}{vs:List DV}{b b':List (Option Box)}{v:DV}(h:cJ P (.ob (.callr f)) vs b (fun v1 b1=>v1=v/\b1=b')):b'=b/\callO P f false vs b (fun v1 b1=>v1=v/\b1=b):=by
 have h:callO P f false vs b (fun v1 b1=>b1=b/\(v1=v/\b=b')):=h
 obtain⟨_,_,_,_,_,e⟩:=mH h;exact⟨e.symm,dJ (fun v1 b1 h=>⟨h.2.1,h.1⟩) h⟩
theorem BT{f:FuncId}{vs:List DV}{b:List (Option Box)}{v:DV}(h:callO P f false vs b (fun v1 b1=>v1=v/\b1=b)):cJ P (.ob (.callr f)) vs b (fun v1 b1=>v1=v/\b1=b) :=
 show callO P f false vs b (fun v1 b1=>b1=b/\(v1=v/\b=b)) from dJ (fun v1 b1 h=>⟨h.2,h.1,rfl⟩) h
def RQ(κ:Kd):Bool:=mM κ||(G5 κ).isSome||OW κ
def EG(b:List (Option Box))(k:Nat):Option Box:=(b[k]?).getD none
theorem wV(b:List (Option Box))(k:Nat):aF b k (EG b k)=b:=by
 refine List.ext_getElem? fun j=>?_
 rw[getElem?_setL]
 split
 ·rename_i e
  subst e
  cases h:b[j]? with
  |none=>rfl
  |some x=>simp[EG,h]
 ·rfl
theorem GE{κ:Kd}(hκ:RQ κ=true){k:Nat}{vs:List DV}(hv:∀d,d∈vs->d.ment k=false){b b':List (Option Box)}(hb:FreeB k b){v:DV}
  (h:cJ P κ vs b (fun v1 b1=>v1=v/\b1=b')):v.ment k=false/\FreeB k b':=by
 unfold RQ at hκ;rw[Bool.or_eq_true] at hκ;rcases hκ with hκ|hκ
 ·exact DB hκ hv hb h
 ·obtain⟨f,rfl|rfl⟩:=yL hκ
  ·exact uT hv hb h
  ·obtain⟨rfl,h⟩:=sP h
   exact uT hv hb h
theorem EI{κ:Kd}(hκ:RQ κ=true){k:Nat}{vs:List DV}(hv:∀d,d∈vs->d.ment k=false){b b':List (Option Box)}(hb:FreeB k b){v:DV}(x:Option Box)
  (h:cJ P κ vs b (fun v1 b1=>v1=v/\b1=b')):cJ P κ vs (aF b k x) (fun v1 b1=>v1=v/\b1=aF b' k x)/\b'.length=b.length:=by
 unfold RQ at hκ;rw[Bool.or_eq_true] at hκ;rcases hκ with hκ|hκ
 ·exact K7 hκ hv x h
 ·obtain⟨f,rfl|rfl⟩:=yL hκ
  ·exact t7 hv hb x h
  ·obtain⟨rfl,h⟩:=sP h
   exact⟨BT (t7 hv hb x h).1,rfl⟩
theorem G6{κ:Kd}(hκ:RQ κ=true){k:Nat}{vs:List DV}(hv:∀d,d∈vs->d.ment k=false){b b2:List (Option Box)}(hb:FreeB k b){v:DV}(x:Option Box)
  (h:cJ P κ vs (aF b k x) (fun v1 b1=>v1=v/\b1=b2)):∃b',cJ P κ vs b (fun v1 b1=>v1=v/\b1=b')/\b2=aF b' k x/\b'.length=b.length:=by
 unfold RQ at hκ;rw[Bool.or_eq_true] at hκ;rcases hκ with hκ|hκ
 ·exact DN hκ hv x h
 ·obtain⟨f,rfl|rfl⟩:=yL hκ
  ·exact tC hv hb x h
  ·obtain⟨e0,h0⟩:=sP h
   subst e0;obtain⟨b',h1,h2,h3⟩:=tC hv hb x h0;have h4:=(t7 hv hb (EG b k) h1).1;rw[wV,show aF b' k (EG b k)=b from by rw[<-mY b' k x, <-h2,mY,wV]] at h4
   exact⟨b,BT h4,rfl,rfl⟩
def rK:List O->Bool
 |[]=>true
 | .c (.p _) ::os | .c (.ow _ _ _) ::os | .c .top ::os=>rK os
 | .t _ ::os=>rK os
 |_=>false
theorem eZ{k:Nat}{s:St}(hN:NoK k s):∀{xs:List O},rK xs=true->∀d,d∈xs.map (O.val s.t)->d.ment k=false
 |[],_,d,hd=>by simp at hd
 | .t n ::os,h,d,hd=>by
  rcases List.mem_cons.1 hd with hd|hd
  ·subst hd;exact hN.get n
  ·exact eZ hN (by simpa [rK] using h) d hd
 | .c (.p x) ::os,h,d,hd=>by
  rcases List.mem_cons.1 hd with hd|hd
  ·subst hd;rfl
  ·exact eZ hN (by simpa [rK] using h) d hd
 | .c (.ow a b c) ::os,h,d,hd=>by
  rcases List.mem_cons.1 hd with hd|hd
  ·subst hd;rfl
  ·exact eZ hN (by simpa [rK] using h) d hd
 | .c .top ::os,h,d,hd=>by
  rcases List.mem_cons.1 hd with hd|hd
  ·subst hd;rfl
  ·exact eZ hN (by simpa [rK] using h) d hd
 | .c (.tup _) ::_,h,_,_=>by simp[rK] at h
 | .c (.addr _ _ _ _) ::_,h,_,_=>by simp[rK] at h
 | .c (.bs _ _ _ _ _) ::_,h,_,_=>by simp[rK] at h
 | .c (.fn _ _) ::_,h,_,_=>by simp[rK] at h
def wC(i:Ins):Bool:=RQ i.k&&((fF i.k).isNone&&(j5 i.k.core&&rK i.xs))
theorem GN{k:Nat}{κ:Kd}{d:DV}(h:d.ment k=false):(yS κ d).ment k=false:=by
 unfold yS
 split
 ·split
  ·split
   ·rfl
   ·exact h
  ·exact h
 ·exact gR h
theorem NoK.step{k:Nat}{i:Ins}(hi:wC i=true){s s':St}(hN:NoK k s)(h:StepK P i s s'):NoK k s'/\s'.b.length=s.b.length:=by
 simp only[wC,aY] at hi;obtain⟨h1,_,_,h4⟩:=hi
 cases h with
 |ex v g m e=>
  have hv:=eZ hN h4;obtain⟨m1,m2⟩:=GE h1 hv hN.b m;refine⟨⟨fun d hd=>?_,m2⟩,(EI h1 hv hN.b none m).2⟩
  rw[e] at hd;obtain⟨n,hn⟩:=List.getElem?_of_mem hd;rw[kV] at hn
  split at hn
  ·cases hx:s.t[n]? with
   |none=>rw[hx] at hn;simp at hn
   |some y=>rw[hx] at hn;simp at hn;subst hn;exact m1
  ·split at hn
   ·cases hx:s.t[n]? with
    |none=>rw[hx] at hn;simp at hn
    |some y=>rw[hx] at hn;simp at hn;subst hn;exact GN (hN.t y (cD hx))
   ·exact hN.t d (cD hn)
 |sk g e=>
  subst e;refine⟨⟨fun d hd=>?_,hN.b⟩,rfl⟩
  cases hdd:i.d with
  |none=>rw[hdd] at hd;exact hN.t d hd
  |some n=>
   rw[hdd] at hd;rcases fJ hd with hd|hd
   ·exact hN.t d hd
   ·subst hd;rfl
def al(k size d:Nat)(zero:List DV)(s:St):St:=⟨aF s.t d (.addr k size 0 0),aF s.b k (some ⟨true,size,[zero],false⟩)⟩
theorem yT{i:Ins}{d:Nat}(h:d∉looks i)(t:List DV)(x:DV):∀n,n∈looks i->aT (aF t d x) n=aT t n:=by
 intro n hn;rw[cL,cL,getElem?_setL,if_neg (fun e=>h (by subst e;exact hn))]
theorem IA{i:Ins}{d:Nat}(h:d∉looks i)(hd:i.d≠some d)(v x:DV)(t:List DV):U i v (aF t d x)=aF (U i v t) d x:=by
 apply List.ext_getElem?
 intro n;rw[kV,getElem?_setL,getElem?_setL,kV]
 by_cases e:n=d
 ·subst e
  have a2:jW i.k.core i.xs≠some n:=fun e'=>h (i7 (lG e'))
  simp[hd,a2]
 ·simp[e]
theorem FA{i:Ins}{d:Nat}(hd:i.d≠some d)(x:DV)(t:List DV):aH (aF t d x) i.d (.tup [])=aF (aH t i.d (.tup [])) d x:=by
 cases hi:i.d with
 |none=>rfl
 |some e=>
  have hne:d≠e:=fun e'=>hd (by rw[hi,e'])
  simp only[aH]
  apply List.ext_getElem?
  intro n;simp only[getElem?_setL]
  by_cases h1:n=d
  ·subst h1;simp[hne]
  ·by_cases h2:n=e
   ·subst h2;simp[h1]
   ·simp[h1,h2]
theorem IW{k size d:Nat}{zero:List DV}{i:Ins}(hi:wC i=true)(hl:d∉looks i)(hd:i.d≠some d){s s':St}(hN:NoK k s)(h:StepK P i s s'):StepK P i (al k size d zero s) (al k size d zero s'):=by
 simp only[wC,aY] at hi;obtain⟨h1,_,_,h4⟩:=hi;have g:=yT hl s.t (.addr k size 0 0)
 cases h with
 |ex v g1 m e=>
  refine .ex v ((gQ (t:=s.t) (t':=(al k size d zero s).t) g).2 g1) ?_ ?_
  ·rw[eA (t:=s.t) (t':=(al k size d zero s).t) g]
   exact(EI h1 (eZ hN h4) hN.b _ m).1
  ·simp only[al];rw[e,IA hl hd]
 |sk g1 e=>
  subst e;refine .sk ((gL (t:=s.t) (t':=(al k size d zero s).t) g).2 g1) ?_;simp only[al];rw[FA hd]
theorem M8{k size d:Nat}{zero:List DV}{i:Ins}(hi:wC i=true)(hl:d∉looks i)(hd:i.d≠some d){s s2:St}(hN:NoK k s)(h:StepK P i (al k size d zero s) s2):∃s',StepK P i s s'/\s2=al k size d zero s':=by
 simp only[wC,aY] at hi;obtain⟨h1,_,_,h4⟩:=hi;have g:=yT hl s.t (.addr k size 0 0)
 cases h with
 |ex v g1 m e=>
  rw[gQ (t:=s.t) (t':=(al k size d zero s).t) g] at g1;rw[eA (t:=s.t) (t':=(al k size d zero s).t) g] at m;obtain⟨b',m1,m2,_⟩:=G6 h1 (eZ hN h4) hN.b _ m;refine⟨⟨U i v s.t,b'⟩,.ex v g1 m1 rfl,?_⟩;obtain⟨t2,b2⟩:=s2;simp only[al] at e m2 ⊢;rw[e,m2,IA hl hd]
 |sk g1 e=>
  rw[gL (t:=s.t) (t':=(al k size d zero s).t) g] at g1;refine⟨⟨aH s.t i.d (.tup []),s.b⟩,.sk g1 rfl,?_⟩;rw[e];simp only[al];rw[FA hd]
theorem NoK.al{k k' size d:Nat}{zero:List DV}(hne:k'≠k)(hz:∀x,x∈zero->x.ment k=false){s:St}(hN:NoK k s):NoK k (Vc.al k' size d zero s):=by
 refine⟨fun x hx=>?_,FreeB.set hN.b fun _ r hr x hx=>?_⟩
 ·rcases fJ hx with hx|hx
  ·exact hN.t x hx
  ·subst hx;simp[DV.ment,hne]
 ·simp at hr;subst hr;exact hz x hx
theorem XA{k k' size size' d d':Nat}{zero zero':List DV}(hk:k≠k')(hd:d≠d')(s:St):al k size d zero (al k' size' d' zero' s)=al k' size' d' zero' (al k size d zero s):=by
 simp only[al];rw[gN _ _ _ _ _ hk.symm]
 congr 1
 apply List.ext_getElem?
 intro n;simp only[getElem?_setL]
 by_cases h1:n=d
 ·subst h1;simp[hd]
 ·by_cases h2:n=d'
  ·subst h2;simp[h1]
  ·simp[h1,h2]
end Go.Proofs.YtnjphclbpgajpaaGreatDoor.Vc
