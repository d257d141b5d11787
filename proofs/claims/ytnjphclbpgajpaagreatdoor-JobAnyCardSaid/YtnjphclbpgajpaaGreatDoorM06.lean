/- Part of a proof over a Go program: VcNew. No condition. -/
import Derived.Test.YtnjphclbpgajpaaGreatDoorM05
set_option linter.unnecessarySimpa false
set_option linter.unusedSectionVars false
set_option linter.unusedSimpArgs false
set_option linter.unusedVariables false
namespace Go.Proofs.YtnjphclbpgajpaaGreatDoor.Vc
open Go.RowKit
variable {P:Program}
theorem a2P{k:Nat}{t:List DV}:a0p k t=true↔∀d,d∈t->d.ment k=false:=by
 induction t with
 |nil=>simp[a0p]
 |cons d ds ih=>simp[a0p,ih]
theorem a7N{k:Nat}{rs:List (List DV)}:a4M k rs=true↔∀r,r∈rs->∀d,d∈r->d.ment k=false:=by
 induction rs with
 |nil=>simp[a4M]
 |cons r rs ih=>simp[a4M,ih,a2P]
theorem a7M{k:Nat}:∀{i:Nat} {b:List (Option Box)},a0v k i b=true↔∀(j:Nat) bx,b[j]?=some (some bx)->i+j≠k->a4M k bx.rows=true:=by
 intro i b
 induction b generalizing i with
 |nil=>simp[a0v]
 |cons x xs ih=>
  simp only[a0v,bAt,Bool.or_eq_true,beq_iff_eq,ih]
  constructor
  ·rintro⟨h1,h2⟩ j bx hj hne
   cases j with
   |zero=>
    simp at hj;subst hj;rcases h1 with h1|h1
    ·exact absurd h1 (by simpa using hne)
    ·exact h1
   |succ j=>exact h2 j bx (by simpa using hj) (by omega)
  ·intro h
   refine⟨?_,fun j bx hj hne=>h (j+1) bx (by simpa using hj) (by omega)⟩
   by_cases hik:i=k
   ·exact .inl hik
   ·right
    cases x with
    |none=>rfl
    |some bx=>exact h 0 bx rfl (by simpa using hik)
structure NoK (k:Nat) (s:St):Prop where
 t:∀d,d∈s.t->d.ment k=false
 b:∀(j:Nat) bx,s.b[j]?=some (some bx)->j≠k->∀r,r∈bx.rows->∀d,d∈r->d.ment k=false
theorem NoK.get{k:Nat}{s:St}(h:NoK k s)(n:Nat):(a0W s.t n).ment k=false:=by
 rw[a0s]
 cases hn:s.t[n]? with
 |none=>rfl
 |some d=>exact h.t d (mGe hn)
def b6r:Kd->Bool
 | .mov _ | .pick | .fad _ | .iad _ | .nilchk=>true
 |_=>false
theorem b6V(d:TV):d.dv.plain=true:=by cases d<;>rfl
theorem b4J(d:TV):d.dv.copy.plain=true:=by cases d<;>rfl
theorem a3c{k:Nat}{d:DV}(h:d.plain=true):d.ment k=false:=by cases d<;>first|rfl|cases h
theorem b3U{κ:Kd}(hκ:b6m κ=true)(ha:b6r κ=false){vs:List DV}{b b':List (Option Box)}{v:DV}(h:a0E P κ vs b (fun v1 b1=>v1=v/\b1=b')):v.plain=true:=by
 cases κ<;>simp[b6m] at hκ<;>simp[b6r] at ha
 all_goals
  unfold a0E at h
  (repeat' split at h)<;>(try contradiction)
 all_goals first
  |(rw[a2Y] at h;obtain⟨z,h1,h2,h3⟩:=h;subst h2;rfl)
  |(obtain⟨_,_,_,_,_,rfl,_⟩:=h;rfl)
  |(rw[a2R] at h;obtain⟨z,h1,h2,h3⟩:=h;subst h2;rfl)
  |(obtain⟨rfl,_⟩:=h;first|rfl|exact b6V _|exact b4J _)
  |(obtain⟨_,rfl,_⟩:=h;rfl)
  |(obtain⟨_,_,rfl,_⟩:=h;rfl)
  |(obtain⟨_,_,_,rfl,_⟩:=h;rfl)
  |(obtain⟨_,_,_,_,rfl,_⟩:=h;rfl)
  |exact h.2.elim
theorem a2M{k:Nat}{d:DV}(h:d.ment k=false):d.copy.ment k=false:=by rw[a3H];exact h
theorem a7P{κ:Kd}(hκ:b6m κ=true){k:Nat}{vs:List DV}(hv:∀d,d∈vs->d.ment k=false){b b':List (Option Box)}{v:DV}(h:a0E P κ vs b (fun v1 b1=>v1=v/\b1=b')):v.ment k=false:=by
 cases ha:b6r κ with
 |false=>exact a3c (b3U hκ ha h)
 |true=>
  cases κ<;>simp[b6r] at ha
  case mov take=>
   unfold a0E at h
   split at h<;>(try contradiction)
   rename_i x heq;obtain⟨h1,_⟩:=h;subst h1;have hx:=hv x (by simp)
   split
   ·exact hx
   ·exact a2M hx
  case pick=>
   unfold a0E at h
   split at h<;>(try contradiction)
   rename_i c x y heq;have hx:=hv x (by simp)
   have hy:=hv y (by simp)
   cases c with
   |true=>rw[<-(h.1 rfl).1];exact a2M hx
   |false=>rw[<-(h.2 rfl).1];exact a2M hy
  case fad off=>
   unfold a0E at h
   split at h<;>(try contradiction)
   ·rename_i k' size r o heq
    rw[<-h.1];exact hv (.addr k' size r o) (by simp)
   ·rw[<-h.1];rfl
  case iad size=>
   unfold a0E at h
   split at h<;>(try contradiction)
   rename_i x k' i heq;have hx:=hv x (by simp)
   split at h
   ·obtain⟨_,_,row,_,e,_⟩:=h;rw[<-e];rfl
   ·obtain⟨_,_,row,_,e,_⟩:=h;rw[<-e];rfl
   ·obtain⟨_,_,_,e,_⟩:=h;rw[<-e];exact hx
   ·exact h.elim
  case nilchk=>
   unfold a0E at h
   split at h<;>(try contradiction)
   rename_i x heq;have hx:=hv x (by simp)
   split at h
   ·rw[<-h.1];exact hx
   ·rw[<-h.1];rfl
   ·rw[<-h.1];rfl
   ·exact h.elim
theorem a1r{α:Type}{x v : α}:∀{l:List α} {n:Nat},x∈a0I l n v->x∈l\/x=v
 |[],_,h=>by simp[a0I] at h
 |y ::ys,0,h=>by
  simp only[a0I] at h;rcases List.mem_cons.1 h with h|h
  ·exact .inr h
  ·exact .inl (List.mem_cons_of_mem _ h)
 |y ::ys,n+1,h=>by
  simp only[a0I] at h;rcases List.mem_cons.1 h with h|h
  ·exact .inl (h▸List.mem_cons_self)
  ·rcases a1r h with h|h
   ·exact .inl (List.mem_cons_of_mem _ h)
   ·exact .inr h
theorem a7C{x:DV}:∀{cs:List DV} {l:List DV} {o:Nat},x∈a3m l o cs->x∈l\/x∈cs
 |[],_,_,h=>.inl h
 |c ::cs,l,o,h=>by
  simp only[a3m] at h;rcases a7C h with h|h
  ·rcases a1r h with h|h
   ·exact .inl h
   ·exact .inr (h▸List.mem_cons_self)
  ·exact .inr (List.mem_cons_of_mem _ h)
theorem a7z{k:Nat}{y:DV}{cs:List DV}(h:a0G y=some cs)(hy:y.ment k=false):∀d,d∈cs->d.ment k=false:=by
 intro d hd
 cases y with
 |agd rs=>
  simp only[a0G,sIj,a5u] at h;subst h;obtain⟨c,hc,rfl⟩:=List.mem_map.1 hd
  cases hm:c.dv.ment k with
  |false=>rfl
  |true=>
   have:(DV.agd rs).ment k=true:=by
    simp only[DV.ment,List.any_eq_true];exact⟨c,hc,by cases c<;>exact hm⟩
   rw[this] at hy;cases hy
 |p x=>
  simp only[a0G,sIj] at h;subst h;obtain⟨c,_,rfl⟩:=List.mem_map.1 hd
  rfl
 |top=>simp[a0G] at h
 |tup ds=>simp[a0G] at h
 |ob T=>simp[a0G] at h
 |pk o=>simp[a0G] at h
 |_=>simp only[a0G,sIj] at h;subst h;simp at hd;subst hd;exact hy
def FreeB(k:Nat)(b:List (Option Box)):Prop:=∀(j:Nat) bx,b[j]?=some (some bx)->j≠k->∀r,r∈bx.rows->∀d,d∈r->d.ment k=false
theorem FreeB.set{k j:Nat}{b:List (Option Box)}(h:FreeB k b){bx:Box}(hb:j≠k->∀r,r∈bx.rows->∀d,d∈r->d.ment k=false):FreeB k (a0I b j (some bx)):=by
 intro i bx' hi hne r hr d hd;rw[getElem?_setL] at hi
 by_cases hij:i=j
 ·subst hij
  rw[if_pos rfl] at hi
  cases hx:b[i]? with
  |none=>rw[hx] at hi;simp at hi
  |some y=>rw[hx] at hi;simp at hi;subst hi;exact hb hne r hr d hd
 ·rw[if_neg hij] at hi
  exact h i bx' hi hne r hr d hd
theorem b3P{κ:Kd}(hκ:(a6l κ||(atk κ).isSome)=true){k:Nat}{vs:List DV}(hv:∀d,d∈vs->d.ment k=false){b b':List (Option Box)}(hb:FreeB k b){v:DV}
  (h:a1q P κ vs b (fun v1 b1=>v1=v/\b1=b')):v.ment k=false/\FreeB k b':=by
 rw[Bool.or_eq_true] at hκ;rcases hκ with hκ|hκ
 ·have hk:=a1p (b5Z hκ) h
  subst hk;refine⟨?_,hb⟩;unfold a1q at h
  split at h
  ·cases hκ
  ·simp only[a6l,Bool.or_eq_true] at hκ
   rcases hκ with hκ|hκ
   ·exact a7P hκ hv h.2
   ·replace h:=h.2
    rename_i κ';cases κ'<;>simp[b1v] at hκ
    case call f=>
     simp only[a0E] at h
     split at h
     ·obtain⟨r,h1,h2,_⟩:=h;subst h2;exact a3c h1.1
     ·exact h.elim
    case callv=>
     unfold a0E at h
     split at h<;>(try contradiction)
     split at h
     ·obtain⟨r,h1,h2,_⟩:=h;subst h2;exact a3c h1.1
     ·exact h.elim
    case mkfn f=>
     simp only[a0E] at h
     split at h
     ·rw[<-h.1];rfl
     ·exact h.elim
    case app size bytes=>
     unfold a0E at h
     split at h<;>(try contradiction)
     all_goals
      split at h
      ·obtain⟨_,_,_,_,e,_⟩:=h;rw[<-e];rfl
      ·exact h.elim
  ·rename_i n1 n2
   refine a7P ?_ hv h;cases κ<;>first|exact hκ|exact(n1 _ _ rfl).elim|exact(n2 _ rfl).elim
 ·obtain⟨j,hj⟩:=Option.isSome_iff_exists.1 hκ
  unfold atk at hj
  split at hj
  ·rename_i k' n ag take
   simp only[a1q] at h
   split at h
   ·obtain⟨rfl,h⟩:=h
    rename_i k2 sz r off rest;have hk2:k2≠k:=by have:=hv (.addr k2 sz r off) (by simp);simpa [DV.ment] using this
    cases rest with
    |cons _ _=>simp[a0E] at h
    |nil=>
     simp only[a0E] at h
     cases hbk:a1A b k2 with
     |none=>simp[hbk] at h
     |some bx=>
      simp only[hbk] at h;obtain⟨h1,row,h2,h3,h4⟩:=h;have hrow:=hb k2 bx (a0P hbk) hk2 row (mGe h2)
      cases ag with
      |true=>
       simp only[if_true] at h4
       split at h4
       ·obtain⟨e1,e2⟩:=h4;subst e2;exact⟨by rw[<-e1];rfl,hb⟩
       ·exact h4.elim
      |false=>
       simp only[Bool.false_eq_true,if_false] at h4;obtain⟨d,h5,h6,h7⟩:=h4;have hd:=hrow d (mGe h5)
       cases take with
       |false=>
        simp only[Bool.false_eq_true,if_false] at h6 h7;subst h7;exact⟨by rw[<-h6];exact a2M hd,hb⟩
       |true=>
        simp only[if_true] at h6 h7;subst h7;refine⟨by rw[<-h6];exact hd,hb.set fun _ r' hr' d' hd'=>?_⟩
        rcases a1r hr' with hr'|hr'
        ·exact hb k2 bx (a0P hbk) hk2 r' hr' d' hd'
        ·subst hr'
         rcases a1r hd' with hd'|hd'
         ·exact hrow d' hd'
         ·subst hd';exact a2M hd
   ·exact h.elim
  ·rename_i k' n
   simp only[a1q] at h
   split at h
   ·obtain⟨rfl,h⟩:=h
    rename_i k2 sz r off rest;have hk2:k2≠k:=by have:=hv (.addr k2 sz r off) (by simp);simpa [DV.ment] using this
    match rest,h,hv with
    |[],h,_=>simp[a0E] at h
    |_ ::_ ::_,h,_=>simp[a0E] at h
    |[y],h,hv=>
     simp only[a0E] at h
     cases hbk:a1A b k2 with
     |none=>simp[hbk] at h
     |some bx=>
      cases hc:a0G y with
      |none=>simp[hbk,hc] at h
      |some cs=>
       simp only[hbk,hc] at h;obtain⟨h1,h2,h3,row,h4,h5,h6,h7⟩:=h;subst h7;have hrow:=hb k2 bx (a0P hbk) hk2 row (mGe h4);have hcs:=a7z hc (hv y (by simp))
       refine⟨by rw[<-h6];rfl,hb.set fun _ r' hr' d' hd'=>?_⟩
       rcases a1r hr' with hr'|hr'
       ·exact hb k2 bx (a0P hbk) hk2 r' hr' d' hd'
       ·subst hr'
        rcases a7C hd' with hd'|hd'
        ·exact hrow d' hd'
        ·exact hcs d' hd'
   ·exact h.elim
  ·cases hj
theorem b7N{a:Ins}{k size d:Nat}{zero:List DV}(hk:a.k=.alloc k size zero)(hg:a.g=none)(hx:a.xs=[])(hd:a.d=some d){s:St}(hN:NoK k s)(hlt:k<s.b.length){K:St->Prop} :
  a0U P a s K↔(zero.length=size/\K ⟨a0I s.t d (.addr k size 0 0),a0I s.b k (some ⟨true,size,[zero],false⟩)⟩):=by
 unfold a0U;rw[hg];simp only[b1K,fresh,hk,a2L,hx,hd,List.map_nil,a1q,a0E,Kd.core,a4e,a0K]
 constructor
 ·exact fun h=>h.2
 ·refine fun h=>⟨⟨hlt,a2P.2 fun x hx=>?_,a7M.2 fun j bx hj hne=>a7N.2 (hN.b j bx hj (by simpa using hne))⟩,h⟩
  rcases a1r hx with hx|hx
  ·exact hN.t x hx
  ·subst hx;rfl
theorem b7o{κ:Kd}{j k:Nat}(hj:atk κ=some j){vs:List DV}(hv:∀d,d∈vs->d.ment k=false){b:List (Option Box)}{K:DV->List (Option Box)->Prop}(h:a1q P κ vs b K):j≠k:=by
 unfold atk at hj
 split at hj
 ·injection hj with hj
  subst hj;simp only[a1q] at h
  split at h
  ·rename_i k2 sz r off rest
   have:=hv (.addr k2 sz r off) (by simp)
   rw[<-h.1]
   simpa [DV.ment] using this
  ·exact h.elim
 ·injection hj with hj
  subst hj;simp only[a1q] at h
  split at h
  ·rename_i k2 sz r off rest
   have:=hv (.addr k2 sz r off) (by simp)
   rw[<-h.1]
   simpa [DV.ment] using this
  ·exact h.elim
 ·cases hj
theorem b7A{κ:Kd}(hκ:(a6l κ||(atk κ).isSome)=true){k:Nat}{vs:List DV}(hv:∀d,d∈vs->d.ment k=false){b b':List (Option Box)}{v:DV}(x:Option Box)
  (h:a1q P κ vs b (fun v1 b1=>v1=v/\b1=b')):a1q P κ vs (a0I b k x) (fun v1 b1=>v1=v/\b1=a0I b' k x)/\b'.length=b.length:=by
 rw[Bool.or_eq_true] at hκ;rcases hκ with hκ|hκ
 ·have hk:=a1p (b5Z hκ) h
  subst hk;exact⟨a5W hκ h _,rfl⟩
 ·obtain⟨j,hj⟩:=Option.isSome_iff_exists.1 hκ
  have hne:=b7o hj hv h;obtain⟨l1,l2⟩:=a5f hj h;have:=l2 (a0I b k x) (a1H _ _ _ _ (fun e=>hne e.symm))
  rw[a2Z _ _ _ _ _ (fun e=>hne e.symm), <-l1] at this
  exact⟨this,by rw[l1,a0D]⟩
theorem b3H{κ:Kd}(hκ:(a6l κ||(atk κ).isSome)=true){k:Nat}{vs:List DV}(hv:∀d,d∈vs->d.ment k=false){b b2:List (Option Box)}{v:DV}(x:Option Box)
  (h:a1q P κ vs (a0I b k x) (fun v1 b1=>v1=v/\b1=b2)):∃b',a1q P κ vs b (fun v1 b1=>v1=v/\b1=b')/\b2=a0I b' k x/\b'.length=b.length:=by
 rw[Bool.or_eq_true] at hκ;rcases hκ with hκ|hκ
 ·have hk:=a1p (b5Z hκ) h
  subst hk;exact⟨b,a5W hκ h _,rfl,rfl⟩
 ·obtain⟨j,hj⟩:=Option.isSome_iff_exists.1 hκ
  have hne:=b7o hj hv h;obtain⟨l1,l2⟩:=a5f hj h;refine⟨_,l2 b (a1H _ _ _ _ (fun e=>hne e.symm)).symm,?_,by rw[a0D]⟩
  rw[a2Z _ _ _ _ _ hne, <-l1]
theorem a8O{b:List (Option Box)}{k q:Nat}{x:Option Box}(h:q≠k):a1A (a0I b k x) q=a1A b q:=by
 rw[a1C,a1C,a1H _ _ _ _ (fun e=>h e.symm)]
theorem b5b{b:List (Option Box)}{k:Nat}{x:Option Box}{d:DV}(h:d.ment k=false):d.frz (a0I b k x)=d.frz b:=by
 have cap:∀{c:CapV},(∀j sz r o,c=.addr j sz r o->j≠k)->c.frz (a0I b k x)=c.frz b:=by
  intro c hc
  cases c with
  |p y=>rfl
  |addr j sz r o=>simp only[CapV.frz,a8O (hc j sz r o rfl)]
 cases d with
 |addr j sz r o=>exact cap (c:=.addr j sz r o) fun j' _ _ _ e=>by injection e with e;subst e;intro e;subst e;simp[DV.ment] at h
 |bs j sz ag lo n=>simp only[DV.frz];rw[a8O (fun e=>by subst e;simp[DV.ment] at h)]
 |fn f caps=>
  have:∀(l:List CapV),(∀c,c∈l->∀j sz r o,c=.addr j sz r o->j≠k)->a6r (a0I b k x) l=a6r b l:=by
   intro l
   induction l with
   |nil=>intro _;rfl
   |cons c l ih=>intro hl;simp only[a6r];rw[cap (hl c (by simp)),ih (fun c hc=>hl c (by simp[hc]))]
  simp only[DV.frz];rw[this caps fun c hc j sz r o e ej=>?_]
  subst e;subst ej;have:(DV.fn f caps).ment j=true:=by simp only[DV.ment,List.any_eq_true];exact⟨_,hc,by simp⟩
  rw[this] at h;cases h
 |agd cs=>
  have:∀(l:List RfV),(∀c,c∈l->c.ment k=false)->b5k (a0I b k x) l=b5k b l:=by
   intro l
   induction l with
   |nil=>intro _;rfl
   |cons c l ih=>
    intro hl;have hc:=hl c (by simp)
    have e:c.frz (a0I b k x)=c.frz b:=by
     cases c with
     |p y=>rfl
     |addr j sz r o=>exact cap (c:=.addr j sz r o) fun j' _ _ _ e=>by injection e with e;subst e;intro e;subst e;simp[RfV.ment] at hc
     |bs j sz ag lo n=>simp only[RfV.frz,bsF];rw[a8O (fun e=>by subst e;simp[RfV.ment] at hc)]
     |mh j=>rfl
    simp only[b5k,e,ih (fun c hc=>hl c (by simp[hc]))]
  simp only[DV.frz];rw[this cs fun c hc=>?_]
  simp only[DV.ment] at h
  cases hm:c.ment k with
  |false=>rfl
  |true=>rw[List.any_eq_true.2 ⟨c,hc,hm⟩] at h;cases h
 |_=>rfl
theorem a3q{q:Nat}:∀{cs:List CapV} {l:List Nat},q∈a5y cs l->(∃sz r o,CapV.addr q sz r o∈cs)\/q∈l
 |[],l,h=>.inr h
 | .p x ::cs,l,h=>by
  rcases a3q (cs:=cs) h with ⟨sz,r,o,h⟩|h
  ·exact .inl ⟨sz,r,o,by simp[h]⟩
  ·exact .inr h
 | .addr k sz r o ::cs,l,h=>by
  simp only[a5y] at h;rcases List.mem_cons.1 h with rfl|h
  ·exact .inl ⟨sz,r,o,by simp⟩
  ·rcases a3q (cs:=cs) h with ⟨sz,r,o,h⟩|h
   ·exact .inl ⟨sz,r,o,by simp[h]⟩
   ·exact .inr h
theorem a9U{q:Nat}{d:DV}{l:List Nat}(h:q∈a8M d l):d.ment q=true\/q∈l:=by
 cases d with
 |addr k sz r o=>simp only[a8M] at h;rcases List.mem_cons.1 h with rfl|h;exact .inl (by simp[DV.ment]);exact .inr h
 |bs k sz ag lo n=>simp only[a8M] at h;rcases List.mem_cons.1 h with rfl|h;exact .inl (by simp[DV.ment]);exact .inr h
 |mh k=>simp only[a8M] at h;rcases List.mem_cons.1 h with rfl|h;exact .inl (by simp[DV.ment]);exact .inr h
 |fn f caps=>
  rcases a3q h with ⟨sz,r,o,h⟩|h
  ·exact .inl (by simp only[DV.ment,List.any_eq_true];exact⟨_,h,by simp⟩)
  ·exact .inr h
 |_=>exact .inr h
theorem a9r{q:Nat}:∀{ds:List DV} {l:List Nat},q∈b9W ds l->(∃d,d∈ds/\d.ment q=true)\/q∈l
 |[],l,h=>.inr h
 |d ::ds,l,h=>by
  rcases a9U h with h|h
  ·exact .inl ⟨d,by simp,h⟩
  ·rcases a9r h with ⟨d',h1,h2⟩|h
   ·exact .inl ⟨d',by simp[h1],h2⟩
   ·exact .inr h
theorem a7T{q:Nat}:∀{rs:List (List DV)} {l:List Nat},q∈a6z rs l->(∃r,r∈rs/\∃d,d∈r/\d.ment q=true)\/q∈l
 |[],l,h=>.inr h
 |r ::rs,l,h=>by
  rcases a9r h with ⟨d,h1,h2⟩|h
  ·exact .inl ⟨r,by simp,d,h1,h2⟩
  ·rcases a7T h with ⟨r',h1,h2⟩|h
   ·exact .inl ⟨r',by simp[h1],h2⟩
   ·exact .inr h
theorem a7U{b:List (Option Box)}{k:Nat}{x:Option Box}:∀{vs:List DV},(∀d,d∈vs->d.ment k=false)->a3o (a0I b k x) vs=a3o b vs/\k∉a3o b vs
 |[],_=>⟨rfl,by simp[a3o]⟩
 |d ::ds,h=>by
  obtain⟨h1,h2⟩:=a7U (b:=b) (k:=k) (x:=x) (vs:=ds) (fun d hd=>h d (by simp[hd]))
  simp only[a3o,b5b (h d (by simp)),h1]
  refine⟨trivial,?_⟩
  split
  ·exact h2
  ·intro hm
   rcases a9U hm with hm|hm
   ·rw[h d (by simp)] at hm;cases hm
   ·exact h2 hm
theorem a2Q{b:List (Option Box)}{k:Nat}{x:Option Box}(hb:FreeB k b):∀{n:Nat} {ws ks:List Nat},k∉ws->k∉ks->a1Z (a0I b k x) n ws ks=a1Z b n ws ks/\k∉a1Z b n ws ks
 |0,_,_,_,h=>⟨rfl,h⟩
 |_+1,[],_,_,h=>⟨rfl,h⟩
 |n+1,q ::ws,ks,hw,hk=>by
  have hq:q≠k:=fun e=>hw (by simp[e])
  have hws:k∉ws:=fun h=>hw (by simp[h])
  simp only[a1Z,a1v hq]
  split
  ·exact a2Q hb hws hk
  ·cases hg:a4B b q with
   |none=>exact a2Q hb hws hk
   |some bx=>
    simp only
    split
    ·refine a2Q hb ?_ (by simp[hk,Ne.symm hq])
     cases a0h bx.rows with
     |true=>exact hws
     |false=>
      intro hm;rcases a7T hm with ⟨r,h1,d,h2,h3⟩|hm
      ·rw[hb q bx (a0b.1 hg) hq r h1 d h2] at h3;cases h3
      ·exact hws hm
    ·exact a2Q hb hws hk
theorem b0W{b:List (Option Box)}{k:Nat}{x:Option Box}(hb:FreeB k b){vs:List DV}(hv:∀d,d∈vs->d.ment k=false):ksO (a0I b k x) vs=ksO b vs/\k∉ksO b vs:=by
 obtain⟨h1,h2⟩:=a7U (b:=b) (x:=x) hv;unfold ksO;rw[h1];exact a2Q hb h2 (by simp)
theorem a5o{b:List (Option Box)}{k:Nat}{x:Option Box}{ν:Nat->Option Nat}:∀{vs:List DV},(∀d,d∈vs->d.ment k=false)->a6a (a0I b k x) ν vs=a6a b ν vs
 |[],_=>rfl
 |d ::ds,h=>by simp only[a6a,b5b (h d (by simp)),a5o (vs:=ds) (fun d hd=>h d (by simp[hd]))]
theorem a6S{b:List (Option Box)}{k:Nat}{x:Option Box}{ν:Nat->Option Nat}:∀{ks:List Nat},k∉ks->a5O (a0I b k x) ν ks=a5O b ν ks
 |[],_=>rfl
 |q ::ks,h=>by
  simp only[a5O,b5M];rw[a1v (fun e=>h (by simp[e])),a6S (fun hm=>h (by simp[hm]))]
theorem a6H{k:Nat}{x:Option Box}{ν:Nat->Option Nat}:∀{ks:List Nat} {bs b:List (Option Box)},k∉ks->bs.length=ks.length->a2r ν ks bs (a0I b k x)=a0I (a2r ν ks bs b) k x/\(a2r ν ks bs b).length=b.length
 |[],[],b,_,_=>by simp[a2r,b5f]
 |[],_ ::_,b,_,h=>by simp at h
 |_ ::_,[],b,_,h=>by simp at h
 |q ::ks,y ::l,b,hk,hl=>by
  have hq:q≠k:=fun e=>hk (by simp[e])
  have ho:b2Z (a0I b k x) q=b2Z b q:=by unfold b2Z;rw[a1v hq]
  simp only[a2r,ho];rw[a2Z _ _ _ _ _ (fun e=>hq e.symm)]
  obtain⟨h1,h2⟩:=a6H (ks:=ks) (bs:=l) (b:=a0I b q (a8g ν (b2Z b q) y)) (fun h=>hk (List.mem_cons_of_mem _ h)) (by simpa using hl)
  exact⟨h1,by rw[h2,a0D]⟩
theorem a8k{f:FuncId}{k:Nat}{vs:List DV}(hv:∀d,d∈vs->d.ment k=false){b b':List (Option Box)}(hb:FreeB k b){v:DV}(x:Option Box)
  (h:callO P f false vs b (fun v1 b1=>v1=v/\b1=b')):callO P f false vs (a0I b k x) (fun v1 b1=>v1=v/\b1=a0I b' k x)/\b'.length=b.length:=by
 unfold callO at h ⊢;obtain⟨k1,k2⟩:=b0W (x:=x) hb hv;rw[k1,a5o hv]
 split at h
 ·obtain⟨bs',r,h1,h2,h3,h4⟩:=h
  have hl:bs'.length=(ksO b vs).length:=by simpa using h2
  obtain⟨e1,e2⟩:=a6H (x:=x) (ν:=nuB (ksO b vs) b.length bs'.length) (b:=b) k2 hl;refine⟨⟨bs',r,by rw[a6S k2];exact h1,h2,by rw[a0D];exact h3,by rw[a0D,e1,h4]⟩,by rw[<-h4,e2]⟩
 ·exact h.elim
theorem FreeB.off{k:Nat}{b:List (Option Box)}(hb:FreeB k b)(x:Option Box):FreeB k (a0I b k x):=by
 intro j bx hj hne;rw[getElem?_setL,if_neg hne] at hj;exact hb j bx hj hne
theorem a5B{α:Type}:∀(l:List α) (n:Nat) (x y : α),a0I (a0I l n x) n y=a0I l n y
 |[],_,_,_=>rfl
 |_ ::_,0,_,_=>rfl
 |_ ::xs,n+1,x,y=>by simp only[a0I];rw[a5B xs n x y]
theorem a7b{f:FuncId}{k:Nat}{vs:List DV}(hv:∀d,d∈vs->d.ment k=false){b b2:List (Option Box)}(hb:FreeB k b){v:DV}(x:Option Box)
  (h:callO P f false vs (a0I b k x) (fun v1 b1=>v1=v/\b1=b2)):∃b',callO P f false vs b (fun v1 b1=>v1=v/\b1=b')/\b2=a0I b' k x/\b'.length=b.length:=by
 unfold callO at h ⊢;obtain⟨k1,k2⟩:=b0W (x:=x) hb hv;rw[k1,a5o hv] at h
 split at h
 ·obtain⟨bs',r,h1,h2,h3,h4⟩:=h
  have hl:bs'.length=(ksO b vs).length:=by simpa using h2
  rw[a0D] at h3 h4;obtain⟨e1,e2⟩:=a6H (x:=x) (ν:=nuB (ksO b vs) b.length bs'.length) (b:=b) k2 hl;exact⟨_,⟨bs',r,by rw[a6S k2] at h1;exact h1,h2,h3,rfl⟩,by rw[<-h4,e1],e2⟩
 ·exact h.elim
theorem a7c{ν:Nat->Option Nat}{k:Nat}(hν:∀i, ν i≠some k)(d:DV):(a0x ν d).ment k=false:=by
 cases d with
 |addr j sz r o=>simp only[a0x];split<;>first|rfl|(rename_i k' hk;simp only[DV.ment,beq_eq_false_iff_ne];intro e;subst e;exact hν _ hk)
 |bs j sz ag lo n=>simp only[a0x];split<;>first|rfl|(rename_i k' hk;simp only[DV.ment,beq_eq_false_iff_ne];intro e;subst e;exact hν _ hk)
 |mh j=>simp only[a0x];split<;>first|rfl|(rename_i k' hk;simp only[DV.ment,beq_eq_false_iff_ne];intro e;subst e;exact hν _ hk)
 |fn f caps=>
  simp only[a0x]
  split
  ·rename_i l hl
   cases hm:(DV.fn f l).ment k with
   |false=>rfl
   |true=>
    exfalso
    simp only[DV.ment,List.any_eq_true] at hm;obtain⟨c,hc,hk⟩:=hm;obtain⟨e1,e2⟩:=a4G hl;obtain⟨j,hj⟩:=List.getElem?_of_mem hc;have hjl:j<caps.length:=by rw[<-e1];exact(gSi.1 hj).1
    rcases e2 j caps[j] c (by simp[hjl]) hj with ⟨y,_,rfl⟩|⟨q,q',sz,r,o,h1,_,rfl⟩
    ·simp at hk
    ·simp at hk;subst hk;exact hν q h1
  ·rfl
 |_=>rfl
theorem a7K{k:Nat}{ν:Nat->Option Nat}(hν:∀i, ν i≠some k):∀{ks:List Nat} {bs b:List (Option Box)},bs.length=ks.length->FreeB k b->FreeB k (a2r ν ks bs b)
 |[],[],b,_,h=>by simpa [a2r,b5f] using h
 |[],_ ::_,b,h,_=>by simp at h
 |_ ::_,[],b,h,_=>by simp at h
 |q ::ks,y ::l,b,hl,hb=>by
  simp only[a2r];refine a7K hν (by simpa using hl) ?_
  cases y with
  |none=>
   intro j bx hj hne;simp only[a8g] at hj;rw[getElem?_setL] at hj
   split at hj
   ·cases hx:b[j]?<;>rw[hx] at hj<;>simp at hj
   ·exact hb j bx hj hne
  |some bx=>
   refine hb.set fun _ r hr d hd=>?_
   simp only[a2U] at hr;obtain⟨r0,_,rfl⟩:=List.mem_map.1 hr;obtain⟨d0,_,rfl⟩:=List.mem_map.1 hd;exact a7c hν d0
theorem a7H{f:FuncId}{k:Nat}{vs:List DV}(hv:∀d,d∈vs->d.ment k=false){b b':List (Option Box)}(hb:FreeB k b){v:DV}
  (h:callO P f false vs b (fun v1 b1=>v1=v/\b1=b')):v.ment k=false/\FreeB k b':=by
 unfold callO at h;obtain⟨_,k2⟩:=b0W (x:=none) hb hv
 split at h
 ·obtain⟨bs',r,h1,h2,h3,h4⟩:=h
  have hl:bs'.length=(ksO b vs).length:=by simpa using h2
  have hν:∀i,nuB (ksO b vs) b.length bs'.length i≠some k:=fun i e=>by
   obtain⟨e1,e2⟩:=b1i e;rw[hl] at e1;have hi:(ksO b vs)[i]?=some (ksO b vs)[i]:=by simp[e1]
   rw[a5a hi] at e2;exact k2 (by rw[e2];exact List.getElem_mem _)
  refine⟨?_,by rw[<-h4];exact a7K hν hl hb⟩
  rw[<-h3];unfold b3y
  split
  ·exact a3c (by assumption)
  ·exact a7c hν r
 ·exact h.elim
def c5R:Kd->Bool
 | .ob (.callo _ false) | .ob (.callr _)=>true
 |_=>false
theorem b1H{κ:Kd}(h:c5R κ=true):∃f, κ=.ob (.callo f false) \/ κ=.ob (.callr f):=by
 unfold c5R at h
 split at h
 ·exact⟨_,.inl rfl⟩
 ·exact⟨_,.inr rfl⟩
 ·cases h
theorem a7s{f:FuncId}{vs:List DV}{b b':List (Option Box)}{v:DV}(h:a1q P (.ob (.callr f)) vs b (fun v1 b1=>v1=v/\b1=b')):b'=b/\callO P f false vs b (fun v1 b1=>v1=v/\b1=b):=by
 have h:callO P f false vs b (fun v1 b1=>b1=b/\(v1=v/\b=b')):=h
 obtain⟨_,_,_,_,_,e⟩:=a4P h;exact⟨e.symm,a1F (fun v1 b1 h=>⟨h.2.1,h.1⟩) h⟩
theorem b1u{f:FuncId}{vs:List DV}{b:List (Option Box)}{v:DV}(h:callO P f false vs b (fun v1 b1=>v1=v/\b1=b)):a1q P (.ob (.callr f)) vs b (fun v1 b1=>v1=v/\b1=b) :=
 show callO P f false vs b (fun v1 b1=>b1=b/\(v1=v/\b=b)) from a1F (fun v1 b1 h=>⟨h.2,h.1,rfl⟩) h
def tmK(κ:Kd):Bool:=a6l κ||(atk κ).isSome||c5R κ
def b7T(b:List (Option Box))(k:Nat):Option Box:=(b[k]?).getD none
theorem b0G(b:List (Option Box))(k:Nat):a0I b k (b7T b k)=b:=by
 refine List.ext_getElem? fun j=>?_
 rw[getElem?_setL]
 split
 ·rename_i e
  subst e
  cases h:b[j]? with
  |none=>rfl
  |some x=>simp[b7T,h]
 ·rfl
theorem b4Y{κ:Kd}(hκ:tmK κ=true){k:Nat}{vs:List DV}(hv:∀d,d∈vs->d.ment k=false){b b':List (Option Box)}(hb:FreeB k b){v:DV}
  (h:a1q P κ vs b (fun v1 b1=>v1=v/\b1=b')):v.ment k=false/\FreeB k b':=by
 unfold tmK at hκ;rw[Bool.or_eq_true] at hκ;rcases hκ with hκ|hκ
 ·exact b3P hκ hv hb h
 ·obtain⟨f,rfl|rfl⟩:=b1H hκ
  ·exact a7H hv hb h
  ·obtain⟨rfl,h⟩:=a7s h
   exact a7H hv hb h
theorem b5A{κ:Kd}(hκ:tmK κ=true){k:Nat}{vs:List DV}(hv:∀d,d∈vs->d.ment k=false){b b':List (Option Box)}(hb:FreeB k b){v:DV}(x:Option Box)
  (h:a1q P κ vs b (fun v1 b1=>v1=v/\b1=b')):a1q P κ vs (a0I b k x) (fun v1 b1=>v1=v/\b1=a0I b' k x)/\b'.length=b.length:=by
 unfold tmK at hκ;rw[Bool.or_eq_true] at hκ;rcases hκ with hκ|hκ
 ·exact b7A hκ hv x h
 ·obtain⟨f,rfl|rfl⟩:=b1H hκ
  ·exact a8k hv hb x h
  ·obtain⟨rfl,h⟩:=a7s h
   exact⟨b1u (a8k hv hb x h).1,rfl⟩
theorem b3g{κ:Kd}(hκ:tmK κ=true){k:Nat}{vs:List DV}(hv:∀d,d∈vs->d.ment k=false){b b2:List (Option Box)}(hb:FreeB k b){v:DV}(x:Option Box)
  (h:a1q P κ vs (a0I b k x) (fun v1 b1=>v1=v/\b1=b2)):∃b',a1q P κ vs b (fun v1 b1=>v1=v/\b1=b')/\b2=a0I b' k x/\b'.length=b.length:=by
 unfold tmK at hκ;rw[Bool.or_eq_true] at hκ;rcases hκ with hκ|hκ
 ·exact b3H hκ hv x h
 ·obtain⟨f,rfl|rfl⟩:=b1H hκ
  ·exact a7b hv hb x h
  ·obtain⟨e0,h0⟩:=a7s h
   subst e0;obtain⟨b',h1,h2,h3⟩:=a7b hv hb x h0;have h4:=(a8k hv hb (b7T b k) h1).1;rw[b0G,show a0I b' k (b7T b k)=b from by rw[<-a5B b' k x, <-h2,a5B,b0G]] at h4
   exact⟨b,b1u h4,rfl,rfl⟩
def b3W:List O->Bool
 |[]=>true
 | .c (.p _) ::os | .c (.ow _ _ _) ::os | .c .top ::os=>b3W os
 | .t _ ::os=>b3W os
 |_=>false
theorem a1h{k:Nat}{s:St}(hN:NoK k s):∀{xs:List O},b3W xs=true->∀d,d∈xs.map (O.val s.t)->d.ment k=false
 |[],_,d,hd=>by simp at hd
 | .t n ::os,h,d,hd=>by
  rcases List.mem_cons.1 hd with hd|hd
  ·subst hd;exact hN.get n
  ·exact a1h hN (by simpa [b3W] using h) d hd
 | .c (.p x) ::os,h,d,hd=>by
  rcases List.mem_cons.1 hd with hd|hd
  ·subst hd;rfl
  ·exact a1h hN (by simpa [b3W] using h) d hd
 | .c (.ow a b c) ::os,h,d,hd=>by
  rcases List.mem_cons.1 hd with hd|hd
  ·subst hd;rfl
  ·exact a1h hN (by simpa [b3W] using h) d hd
 | .c .top ::os,h,d,hd=>by
  rcases List.mem_cons.1 hd with hd|hd
  ·subst hd;rfl
  ·exact a1h hN (by simpa [b3W] using h) d hd
 | .c (.tup _) ::_,h,_,_=>by simp[b3W] at h
 | .c (.addr _ _ _ _) ::_,h,_,_=>by simp[b3W] at h
 | .c (.bs _ _ _ _ _) ::_,h,_,_=>by simp[b3W] at h
 | .c (.fn _ _) ::_,h,_,_=>by simp[b3W] at h
def b5l(i:Ins):Bool:=tmK i.k&&((a2L i.k).isNone&&(a4d i.k.core&&b3W i.xs))
theorem b4m{k:Nat}{κ:Kd}{d:DV}(h:d.ment k=false):(b6I κ d).ment k=false:=by
 unfold b6I
 split
 ·split
  ·split
   ·rfl
   ·exact h
  ·exact h
 ·exact a2M h
theorem NoK.step{k:Nat}{i:Ins}(hi:b5l i=true){s s':St}(hN:NoK k s)(h:StepK P i s s'):NoK k s'/\s'.b.length=s.b.length:=by
 simp only[b5l,bAt] at hi;obtain⟨h1,_,_,h4⟩:=hi
 cases h with
 |ex v g m e=>
  have hv:=a1h hN h4;obtain⟨m1,m2⟩:=b4Y h1 hv hN.b m;refine⟨⟨fun d hd=>?_,m2⟩,(b5A h1 hv hN.b none m).2⟩
  rw[e] at hd;obtain⟨n,hn⟩:=List.getElem?_of_mem hd;rw[a6N] at hn
  split at hn
  ·cases hx:s.t[n]? with
   |none=>rw[hx] at hn;simp at hn
   |some y=>rw[hx] at hn;simp at hn;subst hn;exact m1
  ·split at hn
   ·cases hx:s.t[n]? with
    |none=>rw[hx] at hn;simp at hn
    |some y=>rw[hx] at hn;simp at hn;subst hn;exact b4m (hN.t y (mGe hx))
   ·exact hN.t d (mGe hn)
 |sk g e=>
  subst e;refine⟨⟨fun d hd=>?_,hN.b⟩,rfl⟩
  cases hdd:i.d with
  |none=>rw[hdd] at hd;exact hN.t d hd
  |some n=>
   rw[hdd] at hd;rcases a1r hd with hd|hd
   ·exact hN.t d hd
   ·subst hd;rfl
def al(k size d:Nat)(zero:List DV)(s:St):St:=⟨a0I s.t d (.addr k size 0 0),a0I s.b k (some ⟨true,size,[zero],false⟩)⟩
theorem b0U{i:Ins}{d:Nat}(h:d∉looks i)(t:List DV)(x:DV):∀n,n∈looks i->a0W (a0I t d x) n=a0W t n:=by
 intro n hn;rw[a0s,a0s,getElem?_setL,if_neg (fun e=>h (by subst e;exact hn))]
theorem b9C{i:Ins}{d:Nat}(h:d∉looks i)(hd:i.d≠some d)(v x:DV)(t:List DV):U i v (a0I t d x)=a0I (U i v t) d x:=by
 apply List.ext_getElem?
 intro n;rw[a6N,getElem?_setL,getElem?_setL,a6N]
 by_cases e:n=d
 ·subst e
  have a2:a8c i.k.core i.xs≠some n:=fun e'=>h (a2f (a4X e'))
  simp[hd,a2]
 ·simp[e]
theorem b5X{i:Ins}{d:Nat}(hd:i.d≠some d)(x:DV)(t:List DV):a0K (a0I t d x) i.d (.tup [])=a0I (a0K t i.d (.tup [])) d x:=by
 cases hi:i.d with
 |none=>rfl
 |some e=>
  have hne:d≠e:=fun e'=>hd (by rw[hi,e'])
  simp only[a0K]
  apply List.ext_getElem?
  intro n;simp only[getElem?_setL]
  by_cases h1:n=d
  ·subst h1;simp[hne]
  ·by_cases h2:n=e
   ·subst h2;simp[h1]
   ·simp[h1,h2]
theorem b5y{k size d:Nat}{zero:List DV}{i:Ins}(hi:b5l i=true)(hl:d∉looks i)(hd:i.d≠some d){s s':St}(hN:NoK k s)(h:StepK P i s s'):StepK P i (al k size d zero s) (al k size d zero s'):=by
 simp only[b5l,bAt] at hi;obtain⟨h1,_,_,h4⟩:=hi;have g:=b0U hl s.t (.addr k size 0 0)
 cases h with
 |ex v g1 m e=>
  refine .ex v ((a2H (t:=s.t) (t':=(al k size d zero s).t) g).2 g1) ?_ ?_
  ·rw[a1P (t:=s.t) (t':=(al k size d zero s).t) g]
   exact(b5A h1 (a1h hN h4) hN.b _ m).1
  ·simp only[al];rw[e,b9C hl hd]
 |sk g1 e=>
  subst e;refine .sk ((a2N (t:=s.t) (t':=(al k size d zero s).t) g).2 g1) ?_;simp only[al];rw[b5X hd]
theorem b8P{k size d:Nat}{zero:List DV}{i:Ins}(hi:b5l i=true)(hl:d∉looks i)(hd:i.d≠some d){s s2:St}(hN:NoK k s)(h:StepK P i (al k size d zero s) s2):∃s',StepK P i s s'/\s2=al k size d zero s':=by
 simp only[b5l,bAt] at hi;obtain⟨h1,_,_,h4⟩:=hi;have g:=b0U hl s.t (.addr k size 0 0)
 cases h with
 |ex v g1 m e=>
  rw[a2H (t:=s.t) (t':=(al k size d zero s).t) g] at g1;rw[a1P (t:=s.t) (t':=(al k size d zero s).t) g] at m;obtain⟨b',m1,m2,_⟩:=b3g h1 (a1h hN h4) hN.b _ m;refine⟨⟨U i v s.t,b'⟩,.ex v g1 m1 rfl,?_⟩;obtain⟨t2,b2⟩:=s2;simp only[al] at e m2 ⊢;rw[e,m2,b9C hl hd]
 |sk g1 e=>
  rw[a2N (t:=s.t) (t':=(al k size d zero s).t) g] at g1;refine⟨⟨a0K s.t i.d (.tup []),s.b⟩,.sk g1 rfl,?_⟩;rw[e];simp only[al];rw[b5X hd]
theorem NoK.al{k k' size d:Nat}{zero:List DV}(hne:k'≠k)(hz:∀x,x∈zero->x.ment k=false){s:St}(hN:NoK k s):NoK k (Vc.al k' size d zero s):=by
 refine⟨fun x hx=>?_,FreeB.set hN.b fun _ r hr x hx=>?_⟩
 ·rcases a1r hx with hx|hx
  ·exact hN.t x hx
  ·subst hx;simp[DV.ment,hne]
 ·simp at hr;subst hr;exact hz x hx
theorem c4a{k k' size size' d d':Nat}{zero zero':List DV}(hk:k≠k')(hd:d≠d')(s:St):al k size d zero (al k' size' d' zero' s)=al k' size' d' zero' (al k size d zero s):=by
 simp only[al];rw[a2Z _ _ _ _ _ hk.symm]
 congr 1
 apply List.ext_getElem?
 intro n;simp only[getElem?_setL]
 by_cases h1:n=d
 ·subst h1;simp[hd]
 ·by_cases h2:n=d'
  ·subst h2;simp[h1]
  ·simp[h1,h2]
end Go.Proofs.YtnjphclbpgajpaaGreatDoor.Vc
