/- Part of a proof over a Go program: VcAny, VcAl, VcGh, VcCode, VcFn, VcOfn, VcComp. No condition. -/
import Derived.Test.YtnjphclbpgajpaaGreatDoorX06
import Derived.Test.YtnjphclbpgajpaaGreatDoorX03
import Derived.LoopN
set_option linter.unnecessarySimpa false
set_option linter.unusedSectionVars false
set_option linter.unusedSimpArgs false
set_option linter.unusedVariables false
namespace Go.Proofs.YtnjphclbpgajpaaGreatDoor.Vc
open Go.RowKit
variable {P:Program}
theorem O5{G:Gl}{ops:Array Oper}{Q:Exit->Act->World->Prop}{K:St->Prop}{q:Nat}{o:Oper}{i:Ins}(ho':ops[q]?=some o)(ti:TrI P ops o i)
  {s:St} {X:Cx} {a:Act} (h:Rel G X s a) (hK:b7 P i s K):wpOp P ops Q q (aZ G K) a X.w:=by
 simp only[wpOp,ho'];obtain⟨id,ig,ik,ixs⟩:=i;have hd:=ti.d;have htr':=ti.tr;have hg:=ti.g;simp only at hd htr' hg;subst hd;simp only[b7] at hK;have go:∀{s:St},Rel G X s a->mX P ⟨o.dst,ig,ik,ixs⟩ s K->o.wp P a X.w (aZ G K) Q:=fun h hK=>AD h htr' hK
 cases hog:o.guard with
 |none=>
  rw[hog] at hg
  cases ig with
  |some _=>exact hg.elim
  |none=>
   have hw:Region.wanted o (yielded ops a.tmps)=true:=by simp[Region.wanted,hog]
   rw[if_pos hw];exact .inl (go h hK)
 |some jw=>
  obtain⟨j,want⟩:=jw;rw[hog] at hg
  cases ig with
  |none=>exact hg.elim
  |some tw=>
   obtain⟨t,want'⟩:=tw;obtain⟨rfl,hj⟩:=hg;simp only at hK;have hv:=h.get t;generalize hgt:aT s.t t=dv at *
   cases dv with
   |p z=>
    cases z with
    |bool c=>
     simp only at hK
     have hlt:t<a.tmps.size:=by
      rw[h.size];rcases Nat.lt_or_ge t s.t.length with h0|h0
      ·exact h0
      ·rw[cL,List.getElem?_eq_none h0] at hgt;cases hgt
     have hb:=Flat.boolv hv;have hy:yielded ops a.tmps j=some c:=tY hj hlt hb;have hweak:Rel G X ⟨aF s.t t (.p (.bool c)),s.b⟩ a:=h.weak t _ hv
     by_cases hcw:c=want
     ·subst hcw
      rw[if_pos (by simp[Region.wanted,hog,hy])]
      exact .inl (go hweak (hK.1 rfl))
     ·rw[if_neg (by simp[Region.wanted,hog,hy,hcw])]
      have e:c = !want:=by cases c<;>cases want<;>simp at hcw ⊢
      have hKK:=hK.2 e;rw[e] at hweak;exact⟨_,_,hweak.put (d:=o.dst) (v:=.tup []) (fun _ _=>lU),rfl,hKK⟩
    |_=>exact hK.elim
   |tup ds=>
    cases ds with
    |nil=>
     have hy:=qV (ops:=ops) hj hv;rw[if_neg (by simp[Region.wanted,hog,hy])]
     exact⟨_,_,h.put (d:=o.dst) (v:=.tup []) (fun _ _=>lU),rfl,hK⟩
    |cons _ _=>exact hK.elim
   |_=>exact hK.elim
theorem dQ{i:Ins}{s:St}{K K':St->Prop}(hk:∀s,K s->K' s)(h:b7 P i s K):b7 P i s K':=by
 have ex:∀{s:St},mX P i s K->mX P i s K':=fun ⟨h1,h2⟩=>⟨h1,iU (fun v b h=>hk _ h) h2⟩
 unfold b7 at h ⊢
 split at h
 ·exact ex h
 ·split at h
  ·exact⟨fun hc=>ex (h.1 hc),fun hc=>hk _ (h.2 hc)⟩
  ·exact hk _ h
  ·exact h
theorem wH{i:Ins}{K:St->Prop}{post:List Ins}:∀{pre:List Ins},(∀j,j∈pre->o6 j i=true)->∀{s:St},bV P (pre++i ::post) s K->b7 P i s (fun s=>bV P (pre++post) s K)
 |[],_,_,h=>h
 |p ::pre,hp,s,h=>by
  have h1:b7 P p s (fun s'=>b7 P i s' (fun s''=>bV P (pre++post) s'' K)) :=
   dQ (fun s' hs'=>wH (fun j hj=>hp j (List.mem_cons_of_mem _ hj)) hs') h
  exact swap (hp p List.mem_cons_self) h1
def NO(ops:Array Oper)(listed:Array Bool):Prop :=
 ∀(k:Nat) (o:Oper),listed.getD k false=true->ops[k]?=some o->∀e,e∈o.after->Region.binds .any e=true->listed.getD e.on false=true
def lW(acc:List Nat):List Edge->Nat
 |[]=>0
 |e ::es=>if Region.binds .any e then (2 ^ e.on ||| acc.getD e.on 0) ||| lW acc es else lW acc es
def IN:List Oper->List Nat->List Nat
 |[],acc=>acc
 |o ::os,acc=>IN os (acc++[lW acc o.after.toList])
theorem kZ{acc:List Nat}{j:Nat}:∀{es:List Edge},(lW acc es).testBit j=true->∃e,e∈es/\Region.binds .any e=true/\(j=e.on\/(acc.getD e.on 0).testBit j=true)
 |[],h=>by simp[lW] at h
 |e ::es,h=>by
  simp only[lW] at h
  split at h
  ·rename_i hb
   rw[Nat.testBit_or,Nat.testBit_or,Bool.or_eq_true,Bool.or_eq_true] at h;rcases h with (h|h)|h
   ·rw[Nat.testBit_two_pow] at h
    exact⟨e,List.mem_cons_self,hb,.inl (by simpa [eq_comm] using h)⟩
   ·exact⟨e,List.mem_cons_self,hb,.inr h⟩
   ·obtain⟨e',h1,h2⟩:=kZ h
    exact⟨e',List.mem_cons_of_mem _ h1,h2⟩
  ·obtain⟨e',h1,h2⟩:=kZ h
   exact⟨e',List.mem_cons_of_mem _ h1,h2⟩
def D2(ops:Array Oper)(rows:List Nat):Prop :=
 ∀(k:Nat) (r:Nat) (o:Oper),rows[k]?=some r->ops[k]?=some o->∀j,r.testBit j=true->∀listed,NO ops listed->(∀e,e∈o.after->Region.binds .any e=true->listed.getD e.on false=true)->listed.getD j false=true
theorem ET{ops:Array Oper}:∀(os pre:List Oper) (acc:List Nat),pre++os=ops.toList->acc.length=pre.length->D2 ops acc->D2 ops (IN os acc)
 |[],_,_,_,_,h=>h
 |o ::os,pre,acc,he,hl,h=>by
  refine ET os (pre++[o]) _ (by simpa using he) (by simp[hl]) fun k r o' hr ho j hj listed hd ha=>?_
  rw[List.getElem?_append] at hr
  by_cases hk:k<acc.length
  ·rw[if_pos hk] at hr
   exact h k r o' hr ho j hj listed hd ha
  ·rw[if_neg hk] at hr
   have hk0:k-acc.length=0:=by
    have:=(bM.1 hr).1;simp at this;exact this
   rw[hk0] at hr;simp at hr;subst hr;have hke:k=pre.length:=by omega
   have ho2:o'=o:=by
    have:ops.toList[k]?=some o':=by simpa using ho
    rw[<-he,hke] at this;simp at this;exact this.symm
   subst ho2;obtain⟨e,h1,h2,h3⟩:=kZ hj;have he':e∈o'.after:=by simpa using h1
   have hon:=ha e he' h2;rcases h3 with rfl|h3
   ·exact hon
   ·rw[List.getD_eq_getElem?_getD] at h3
    cases hrr:acc[e.on]? with
    |none=>rw[hrr] at h3;simp at h3
    |some r'=>
     rw[hrr] at h3
     have hlt:e.on<ops.size:=by
      have h1:=(bM.1 hrr).1;have h2:ops.size=pre.length+(os.length+1):=by rw[<-Array.length_toList, <-he];simp
      omega
     exact h e.on r' ops[e.on] hrr (by simp[hlt]) j (by simpa using h3) listed hd (hd e.on ops[e.on] hon (by simp[hlt]))
def kJ(ind:Ins->Ins->Bool)(ops:Array Oper)(is:List Ins):Bool :=
 let rows:=IN ops.toList []
 (List.range is.length).all fun i=>(match ops[i]? with
   |some o=>o.after.all fun e => !Region.binds .any e||decide (e.on<i)
   |none=>false) &&
  (List.range i).all fun j => match is[j]?, is[i]?, rows[i]? with
   |some a,some b,some r=>r.testBit j||ind a b
   |_,_,_=>false
def EB(ops:Array Oper)(is:List Ins):Bool:=kJ o6 ops is
theorem Q1{ind:Ins->Ins->Bool}{Inv:List Ins->St->Prop}{K:St->Prop}
  (hsw:∀(pre:List Ins) (i:Ins) (post:List Ins) (s:St),(∀j,j∈pre->ind j i=true)->Inv (pre++i ::post) s->bV P (pre++i ::post) s K->b7 P i s (fun s'=>bV P (pre++post) s' K/\Inv (pre++post) s'))
  {G:Gl} {ops:Array Oper} {is:List Ins} {Q:Exit->Act->World->Prop} (hl:ops.size=is.length)
  (htr:∀(k:Nat) i,is[k]?=some i->∃o,ops[k]?=some o/\TrI P ops o i) (hp:kJ ind ops is=true) (hQ:∀s X a,Rel G X s a->K s->Q .normal a X.w) :
  ∀(n:Nat) (rem:List (Nat×Ins)) (listed:Array Bool),rem.length=n->listed.size=ops.size->NO ops listed->(∀p,p∈rem->is[p.1]?=some p.2)->(rem.map (·.1)).Pairwise (· < ·) ->
   (∀j,j<ops.size->(listed.getD j true=false↔j∈rem.map (·.1))) ->
   ∀{s:St} {X:Cx} {a:Act},Rel G X s a->Inv (rem.map (·.2)) s->bV P (rem.map (·.2)) s K->wpAny P .any ops Q n listed a X.w:=by
 have hrows:D2 ops (IN ops.toList []):=ET ops.toList [] [] rfl rfl (fun k r o h=>by simp at h)
 have hback:∀(i:Nat) (o:Oper),ops[i]?=some o->∀e,e∈o.after->Region.binds .any e=true->e.on<i:=by
  intro i o ho e he hb;have hi:i<is.length:=by rw[<-hl];exact(Array.getElem?_eq_some_iff.1 ho).1
  have:=List.all_eq_true.1 hp i (by simpa using hi)
  simp only[aY,ho] at this;have:=Array.all_eq_true_iff_forall_mem.1 this.1 e he
  simpa [hb] using this
 intro n
 induction n with
 |zero=>
  intro rem listed hn hsz hd hmem hsort hun s X a h hI hK;have:rem=[]:=List.eq_nil_of_length_eq_zero hn;subst this;refine⟨?_,hQ s X a h hK⟩;refine List.eq_nil_iff_forall_not_mem.2 fun j hj=>?_
  obtain⟨h1,o,h2,_⟩:=mem_ready.1 hj;have:=(hun j (Array.getElem?_eq_some_iff.1 h2).1).1 h1;simp at this
 |succ n ih=>
  intro rem listed hn hsz hd hmem hsort hun s X a h hI hK
  have lis:∀j,j<ops.size->listed.getD j true=true->listed.getD j false=true:=by
   intro j hj h1;have hj':j<listed.size:=by omega
   simp[hj'] at h1 ⊢;exact h1
  have unl:∀j,j<ops.size->j∈rem.map (·.1)->listed.getD j false=false:=by
   intro j hj h1;have:=(hun j hj).2 h1;have hj':j<listed.size:=by omega
   simp[hj'] at this ⊢;exact this
  refine⟨fun hr=>?_,fun i hi=>?_⟩
  ·exfalso
   cases rem with
   |nil=>simp at hn
   |cons p rem=>
    obtain⟨j,ins⟩:=p;have hj:is[j]?=some ins:=hmem (j,ins) List.mem_cons_self;obtain⟨o,ho,_⟩:=htr j ins hj;have hjlt:=(Array.getElem?_eq_some_iff.1 ho).1
    have:j∈Region.ready .any ops listed:=by
     refine mem_ready.2 ⟨(hun j hjlt).2 (by simp),o,ho,fun e he hb=>?_⟩
     have hlt:=hback j o ho e he hb;have hlt2:e.on<ops.size:=by omega
     refine lis e.on hlt2 ?_
     cases hc:listed.getD e.on true with
     |true=>rfl
     |false=>
      have hin:=(hun e.on hlt2).1 hc;simp only[List.map_cons,List.mem_cons] at hin;rw[List.map_cons,List.pairwise_cons] at hsort;rcases hin with hin|hin
      ·omega
      ·have:=hsort.1 _ hin;omega
    rw[hr] at this;cases this
  ·obtain⟨h1,o,ho,hall⟩:=mem_ready.1 hi
   have hilt:=(Array.getElem?_eq_some_iff.1 ho).1;have hin:=(hun i hilt).1 h1;obtain⟨p,hpm,hpi⟩:=List.mem_map.1 hin;obtain⟨pre,post,hsp⟩:=List.append_of_mem hpm;obtain⟨i',ins⟩:=p;simp only at hpi;subst hpi;subst hsp;have hins:is[i']?=some ins:=hmem (i',ins) (by simp)
   obtain⟨o',ho',ti⟩:=htr i' ins hins
   have hind:∀j,j∈pre.map (·.2)->ind j ins=true:=by
    intro j hj;obtain⟨q,hq,rfl⟩:=List.mem_map.1 hj;have hqs:=hmem q (by simp[hq])
    have hqlt:q.1<i':=by
     rw[List.map_append,List.map_cons,List.pairwise_append] at hsort;exact hsort.2.2 q.1 (List.mem_map_of_mem hq) i' (by simp)
    have hq2:q.1<ops.size:=by omega
    have hc:=List.all_eq_true.1 hp i' (by simpa [<-hl] using hilt)
    simp only[aY] at hc;have hc:=List.all_eq_true.1 hc.2 q.1 (by simpa using hqlt)
    rw[hqs,hins] at hc
    cases hr:(IN ops.toList [])[i']? with
    |none=>simp[hr] at hc
    |some r=>
     simp only[hr,Bool.or_eq_true] at hc;rcases hc with hc|hc
     ·exfalso
      have t1:=hrows i' r o hr ho q.1 hc listed hd hall;rw[unl q.1 hq2 (by simp;exact .inl ⟨q.2,hq⟩)] at t1
      cases t1
     ·exact hc
   have hK':b7 P ins s (fun s=>bV P (pre.map (·.2)++post.map (·.2)) s K/\Inv (pre.map (·.2)++post.map (·.2)) s):=by
    rw[List.map_append,List.map_cons] at hK hI;exact hsw _ _ _ _ hind hI hK
   refine wpOp_mono (fun a' w' ⟨s',X',h',e',k',i''⟩=>?_) (O5 ho' ti h hK')
   subst e'
   refine ih (pre++post) _ (by simp at hn ⊢;omega) (by simp[hsz]) ?_ (fun p hp=>hmem p (by
    rcases List.mem_append.1 hp with hp|hp
    ·simp[hp]
    ·simp[hp])) ?_ ?_ h' (by rw[List.map_append];exact i'') (by rw[List.map_append];exact k')
   ·intro k ok hk hok e he hb
    by_cases hki:k=i'
    ·subst hki
     rw[ho] at hok;injection hok with hok
     subst hok;exact getD_set_true (hall e he hb)
    ·rw[getD_set_ne false (fun h=>hki h.symm)] at hk
     exact getD_set_true (hd k ok hk hok e he hb)
   ·rw[List.map_append,List.map_cons,List.pairwise_append] at hsort
    rw[List.map_append,List.pairwise_append];refine⟨hsort.1,(List.pairwise_cons.1 hsort.2.1).2,fun x hx y hy=>hsort.2.2 x hx y (List.mem_cons_of_mem _ hy)⟩
   ·intro j hj
    have hnd:i'∉(pre++post).map (·.1):=by
     rw[List.map_append,List.map_cons,List.pairwise_append] at hsort;rw[List.map_append];intro hm;rcases List.mem_append.1 hm with hm|hm
     ·exact Nat.lt_irrefl _ (hsort.2.2 i' hm i' (by simp))
     ·exact Nat.lt_irrefl _ ((List.pairwise_cons.1 hsort.2.1).1 i' hm)
    by_cases hji:j=i'
    ·subst hji
     have:j<listed.size:=by omega
     constructor
     ·intro hc;simp[this] at hc
     ·intro hc;exact absurd hc hnd
    ·rw[getD_set_ne true (fun h=>hji h.symm),hun j hj]
     simp[hji]
theorem lF{ind:Ins->Ins->Bool}{Inv:List Ins->St->Prop}{K:St->Prop}
  (hsw:∀(pre:List Ins) (i:Ins) (post:List Ins) (s:St),(∀j,j∈pre->ind j i=true)->Inv (pre++i ::post) s->bV P (pre++i ::post) s K->b7 P i s (fun s'=>bV P (pre++post) s' K/\Inv (pre++post) s'))
  {G:Gl} {id:Nat} {ops:Array Oper} {is:List Ins} {Q:Exit->Act->World->Prop} (hm:P.follows .mixedOrders=true) (hl:ops.size=is.length)
  (htr:∀(k:Nat) i,is[k]?=some i->∃o,ops[k]?=some o/\TrI P ops o i) (hp:kJ ind ops is=true) (hQ:∀s X a,Rel G X s a->K s->Q .normal a X.w) {s:St} {X:Cx} {a:Act} (h:Rel G X s a) (hI:Inv is s) (hK:bV P is s K) :
  (Code.region id ops true).wp P Q a X.w:=by
 refine wp_region_any hm ?_
 have hX:Rel G { X with w:={ X.w with drawn:=X.w.drawn+1 } } s a:=by
  have hcell:∀b o,World.cell? { X.w with drawn:=X.w.drawn+1 } ⟨b,o,none⟩=X.w.cell? ⟨b,o,none⟩:=fun b o=>World.cell?_of_block rfl
  refine h.change (fun _=>True) (fun _ _ h=>h) ⟨fun b o v hM hc=>⟨(hcell b o).trans hc,hM⟩,fun g L hg _ _=>⟨hg,rfl,fun _ h=>h⟩,rfl,fun _=>.of rfl⟩ (fun i d hd=>.inl ⟨trivial,fun _ _=>rfl⟩)
   (fun k bx hk=>.inl ⟨trivial,fun _ _=>trivial,rfl,fun _ _ _ _ _ _=>rfl⟩) ⟨rfl,rfl,rfl,Nat.le_refl _,fun _ _=>rfl⟩ (fun b _ o=>Iff.rfl)
 refine Q1 hsw (X:={ X with w:={ X.w with drawn:=X.w.drawn+1 } }) hl htr hp hQ ops.size (is.zipIdx.map fun p=>(p.2,p.1)) _ (by simp[hl]) (by simp) ?_ ?_ ?_ ?_ hX ?_ ?_
 ·intro k o hk
  by_cases hlt:k<ops.size
  ·simp[hlt] at hk
  ·simp[hlt] at hk
 ·intro p hpm
  obtain⟨q,hq,rfl⟩:=List.mem_map.1 hpm;have:=List.mem_zipIdx hq;simp at this;simp only;rw[List.getElem?_eq_getElem (by omega)]
  simp[this.2]
 ·have:(is.zipIdx.map fun p=>(p.2,p.1)).map (·.1)=List.range is.length:=by
   rw[List.map_map];have e:((fun x=>x.1)∘fun (p:Ins×Nat)=>(p.2,p.1))=Prod.snd:=rfl
   rw[e,List.zipIdx_map_snd,List.range_eq_range']
  rw[this];exact List.pairwise_lt_range
 ·intro j hj
  have:(is.zipIdx.map fun p=>(p.2,p.1)).map (·.1)=List.range is.length:=by
   rw[List.map_map];have e:((fun x=>x.1)∘fun (p:Ins×Nat)=>(p.2,p.1))=Prod.snd:=rfl
   rw[e,List.zipIdx_map_snd,List.range_eq_range']
  rw[this];simp[hj, <-hl]
 ·have:(is.zipIdx.map fun p=>(p.2,p.1)).map (·.2)=is:=by
   rw[List.map_map];have e:((fun x=>x.2)∘fun (p:Ins×Nat)=>(p.2,p.1))=Prod.fst:=rfl
   rw[e,List.zipIdx_map_fst]
  rw[this];exact hI
 ·have:(is.zipIdx.map fun p=>(p.2,p.1)).map (·.2)=is:=by
   rw[List.map_map];have e:((fun x=>x.2)∘fun (p:Ins×Nat)=>(p.2,p.1))=Prod.fst:=rfl
   rw[e,List.zipIdx_map_fst]
  rw[this];exact hK
theorem CY{G:Gl}{id:Nat}{ops:Array Oper}{is:List Ins}{Q:Exit->Act->World->Prop}{K:St->Prop}(hm:P.follows .mixedOrders=true)(hl:ops.size=is.length)
  (htr:∀(k:Nat) i,is[k]?=some i->∃o,ops[k]?=some o/\TrI P ops o i) (hp:EB ops is=true) (hQ:∀s X a,Rel G X s a->K s->Q .normal a X.w) {s:St} {X:Cx} {a:Act} (h:Rel G X s a) (hK:bV P is s K) :
  (Code.region id ops true).wp P Q a X.w :=
 lF (ind:=o6) (Inv:=fun _ _=>True) (fun pre i post s hind _ hK=>dQ (fun s h=>⟨h,trivial⟩) (wH hind hK)) hm hl htr hp hQ h trivial hK
abbrev wB:=Nat×Ins×List Nat
def T9(j:Nat):List wB->Bool
 |[]=>false
 |p ::l=>Nat.beq p.1 j||T9 j l
def kD(rem:List wB):List Nat->Bool
 |[]=>true
 |j ::l => !T9 j rem&&kD rem l
def oM(j:Nat):List wB->List wB
 |[]=>[]
 |p ::l=>if Nat.beq p.1 j then oM j l else p ::oM j l
mutual
def pY(P:Program):Nat->List wB->St->(St->Prop)->Prop
 |0,_,_,_=>False
 |_+1,[],s,K=>K s
 |n+1,p ::rem,s,K=>E1 P n (p ::rem) (p ::rem) s K
termination_by n _ _ _=>(n,0)
def E1(P:Program):Nat->List wB->List wB->St->(St->Prop)->Prop
 |_,_,[],_,_=>True
 |n,rem,p ::ps,s,K=>(kD rem p.2.2=true->b7 P p.2.1 s (fun s'=>pY P n (oM p.1 rem) s' K))/\E1 P n rem ps s K
termination_by n _ ps _ _=>(n,ps.length+1)
end
theorem yM{j:Nat}:∀{l:List wB},T9 j l=true↔j∈l.map (·.1)
 |[]=>by simp[T9]
 |p ::l=>by
  simp only[T9,Bool.or_eq_true,List.map_cons,List.mem_cons,yM (l:=l)];exact⟨fun h=>h.elim (fun h=>.inl (Nat.eq_of_beq_eq_true h).symm) .inr,fun h=>h.elim (fun h=>.inl (by subst h;simp)) .inr⟩
theorem tQ{rem:List wB}:∀{l:List Nat},kD rem l=true↔∀j,j∈l->j∉rem.map (·.1)
 |[]=>by simp[kD]
 |j ::l=>by
  simp only[kD,aY,Bool.not_eq_true',tQ (l:=l)]
  constructor
  ·rintro⟨h1,h2⟩ q hq
   rcases List.mem_cons.1 hq with rfl|hq
   ·exact fun hm=>by rw[yM.2 hm] at h1;cases h1
   ·exact h2 q hq
  ·refine fun h=>⟨?_,fun q hq=>h q (by simp[hq])⟩
   cases hc:T9 j rem with
   |false=>rfl
   |true=>exact absurd (yM.1 hc) (h j (by simp))
theorem gT{j:Nat}{p:wB}:∀{l:List wB},p∈oM j l↔p∈l/\p.1≠j
 |[]=>by simp[oM]
 |q ::l=>by
  simp only[oM]
  by_cases h:q.1=j
  ·rw[if_pos (by simp[h]),gT (l:=l),List.mem_cons]
   exact⟨fun ⟨a,b⟩=>⟨.inr a,b⟩,fun ⟨a,b⟩=>⟨a.elim (fun e=>absurd (by rw[e];exact h) b) id,b⟩⟩
  ·rw[if_neg (fun hh=>h (Nat.eq_of_beq_eq_true hh)),List.mem_cons,gT (l:=l),List.mem_cons]
   exact⟨fun hh=>hh.elim (fun e=>⟨.inl e,by rw[e];exact h⟩) (fun ⟨a,b⟩=>⟨.inr a,b⟩),fun ⟨a,b⟩=>a.elim .inl (fun a=>.inr ⟨a,b⟩)⟩
theorem BF{n:Nat}{rem:List wB}{s:St}{K:St->Prop}:∀{ps:List wB},E1 P n rem ps s K->∀p,p∈ps->kD rem p.2.2=true->b7 P p.2.1 s (fun s'=>pY P n (oM p.1 rem) s' K)
 |[],_,p,hp,_=>by simp at hp
 |q ::ps,h,p,hp,hr=>by
  rw[E1] at h;rcases List.mem_cons.1 hp with rfl|hp
  ·exact h.1 hr
  ·exact BF h.2 p hp hr
def nK(o:Oper)(i:Nat)(pre:List Nat):Bool:=(o.after.all fun e => !Region.binds .any e||decide (e.on<i))&&pre.all fun j=>o.after.any fun e=>Region.binds .any e&&decide (e.on=j)
theorem LD{G:Gl}{ops:Array Oper}{l:List (Ins×List Nat)}{Q:Exit->Act->World->Prop}{K:St->Prop}(hl:ops.size=l.length)
  (htr:∀(k:Nat) p,l[k]?=some p->∃o,ops[k]?=some o/\TrI P ops o p.1/\nK o k p.2=true) (hQ:∀s X a,Rel G X s a->K s->Q .normal a X.w) :
  ∀(n m:Nat) (rem:List wB) (listed:Array Bool),listed.size=ops.size->(∀p,p∈rem->l[p.1]?=some p.2) ->
   (∀j,j<ops.size->(listed.getD j true=false↔j∈rem.map (·.1)))->(listed.toList.count false=n) ->
   ∀{s:St} {X:Cx} {a:Act},Rel G X s a->pY P m rem s K->wpAny P .any ops Q n listed a X.w:=by
 have hback:∀(i:Nat) (o:Oper),ops[i]?=some o->∀e,e∈o.after->Region.binds .any e=true->e.on<i:=by
  intro i o ho e he hb;have hi:i<l.length:=by rw[<-hl];exact(Array.getElem?_eq_some_iff.1 ho).1
  obtain⟨o',ho',_,h3⟩:=htr i l[i] (by simp[hi])
  rw[ho] at ho';injection ho' with ho'
  subst ho';simp only[nK,aY] at h3;have:=Array.all_eq_true_iff_forall_mem.1 h3.1 e he
  simpa [hb] using this
 intro n
 induction n with
 |zero=>
  intro m rem listed hsz hmem hun hc s X a h hK
  have hnone:∀j,j<ops.size->listed.getD j true=true:=by
   intro j hj
   cases hg:listed.getD j true with
   |true=>rfl
   |false=>
    exfalso
    have hj':j<listed.size:=by omega
    have:listed[j]=false:=by simpa [hj'] using hg
    have hm:false∈listed.toList:=by rw[<-this];simp
    have:=List.count_pos_iff.2 hm;omega
  have hrem:rem=[]:=by
   refine List.eq_nil_iff_forall_not_mem.2 fun p hp=>?_
   have hlt:p.1<ops.size:=by rw[hl];exact(bM.1 (hmem p hp)).1
   have:=(hun p.1 hlt).2 (List.mem_map_of_mem hp);rw[hnone p.1 hlt] at this;cases this
  subst hrem;refine⟨?_,?_⟩
  ·refine List.eq_nil_iff_forall_not_mem.2 fun j hj=>?_
   obtain⟨h1,o,h2,_⟩:=mem_ready.1 hj;have:=(hun j (Array.getElem?_eq_some_iff.1 h2).1).1 h1;simp at this
  ·cases m with
   |zero=>rw[pY] at hK;exact hK.elim
   |succ m=>rw[pY] at hK;exact hQ s X a h hK
 |succ n ih=>
  intro m rem listed hsz hmem hun hc s X a h hK
  have lis:∀j,j<ops.size->listed.getD j true=true->listed.getD j false=true:=by
   intro j hj h1;have hj':j<listed.size:=by omega
   simp[hj'] at h1 ⊢;exact h1
  refine⟨fun hr=>?_,fun i hi=>?_⟩
  ·exfalso
   have hex:∃j,j<ops.size/\listed.getD j true=false:=by
    have:0<listed.toList.count false:=by omega
    obtain⟨j,hj⟩:=List.getElem?_of_mem (List.count_pos_iff.1 this);have hjl:=(bM.1 hj).1;simp at hjl;refine⟨j,by omega,?_⟩
    have:=(bM.1 hj).2;simp[hjl];simpa using this
   obtain⟨j,hj1,hj2,hj3⟩:∃j,j<ops.size/\listed.getD j true=false/\∀q,q<j->listed.getD q true=true:=by
    obtain⟨j,hj⟩:=hex
    induction j using Nat.strongRecOn with
    |_ j ih2=>
     by_cases hq:∃q,q<j/\listed.getD q true=false
     ·obtain⟨q,hq1,hq2⟩:=hq
      exact ih2 q hq1 ⟨by omega,hq2⟩
     ·refine⟨j,hj.1,hj.2,fun q hqj=>?_⟩
      cases hg:listed.getD q true with
      |true=>rfl
      |false=>exact absurd ⟨q,hqj,hg⟩ hq
   have hj:j<l.length:=by omega
   obtain⟨o,ho,_,_⟩:=htr j l[j] (by simp[hj])
   have:j∈Region.ready .any ops listed:=mem_ready.2 ⟨hj2,o,ho,fun e he hb=>by
    have hlt:=hback j o ho e he hb;exact lis e.on (by omega) (hj3 e.on hlt)⟩
   rw[hr] at this;cases this
  ·obtain⟨h1,o,ho,hall⟩:=mem_ready.1 hi
   have hilt:=(Array.getElem?_eq_some_iff.1 ho).1;obtain⟨p,hpm,hpi⟩:=List.mem_map.1 ((hun i hilt).1 h1);subst hpi;have hlp:=hmem p hpm;obtain⟨o',ho',ti,hed⟩:=htr p.1 p.2 hlp;rw[ho] at ho';injection ho' with ho'
   subst ho'
   have hrdy:kD rem p.2.2=true:=tQ.2 fun j hj hm=>by
    simp only[nK,aY] at hed;have hje:=List.all_eq_true.1 hed.2 j hj;obtain⟨k,hk,hk2⟩:=Array.any_eq_true.1 hje;simp only[aY,decide_eq_true_eq] at hk2;have he:o.after[k]∈o.after:=Array.getElem_mem hk;have hlis:=hall _ he hk2.1;rw[hk2.2] at hlis;have hjlt:j<ops.size:=by have:=hback p.1 o ho _ he hk2.1;omega
    have:=(hun j hjlt).2 hm;have hj':j<listed.size:=by omega
    simp[hj'] at this hlis;rw[this] at hlis;cases hlis
   cases m with
   |zero=>rw[pY] at hK;exact hK.elim
   |succ m=>
    cases rem with
    |nil=>simp at hpm
    |cons q rem'=>
     rw[pY] at hK;have hK':=BF hK p hpm hrdy;refine wpOp_mono (fun a' w' ⟨s',X',h',e',k'⟩=>?_) (O5 ho ti h hK')
     subst e';refine ih m _ _ (by simp[hsz]) (fun r hr=>hmem r (gT.1 hr).1) (fun j hj=>?_) ?_ h' k'
     ·by_cases hji:j=p.1
      ·subst hji
       have:p.1<listed.size:=by omega
       constructor
       ·intro hc;simp[this] at hc
       ·intro hc
        obtain⟨r,hr,e⟩:=List.mem_map.1 hc;exact absurd e (gT.1 hr).2
      ·rw[getD_set_ne true (fun h=>hji h.symm),hun j hj]
       constructor
       ·intro hm
        obtain⟨r,hr,e⟩:=List.mem_map.1 hm;exact List.mem_map.2 ⟨r,gT.2 ⟨hr,by rw[e];exact hji⟩,e⟩
       ·intro hm
        obtain⟨r,hr,e⟩:=List.mem_map.1 hm;exact List.mem_map.2 ⟨r,(gT.1 hr).1,e⟩
     ·have hp1:p.1<listed.toList.length:=by simp;omega
      have hlf:listed.toList[p.1]=false:=by
       have hp2:p.1<listed.size:=by omega
       simpa [hp2] using h1
      simp only[Array.set!_eq_setIfInBounds,Array.toList_setIfInBounds];rw[List.count_set hp1,hlf,hc];simp
def sT:Nat->List (Ins×List Nat)->List wB
 |_,[]=>[]
 |k,p ::l=>(k,p) ::sT (k+1) l
theorem JP{l:List (Ins×List Nat)}:∀{k:Nat} {p:wB},p∈sT k l->k<=p.1/\l[p.1-k]?=some p.2:=by
 induction l with
 |nil=>intro k p h;simp[sT] at h
 |cons e l ih=>
  intro k p h;rcases List.mem_cons.1 h with rfl|h
  ·simp
  ·obtain⟨h1,h2⟩:=ih h
   refine⟨by omega,?_⟩
   rw[show p.1-k=(p.1-(k+1))+1 by omega]
   simpa using h2
theorem KR{l:List (Ins×List Nat)}:∀{k j:Nat},j∈(sT k l).map (·.1)↔k<=j/\j<k+l.length:=by
 induction l with
 |nil=>intro k j;simp[sT]
 |cons e l ih=>
  intro k j;simp only[sT,List.map_cons,List.mem_cons,ih,List.length_cons];omega
theorem D4{G:Gl}{id:Nat}{ops:Array Oper}{l:List (Ins×List Nat)}{Q:Exit->Act->World->Prop}{K:St->Prop}(hm:P.follows .mixedOrders=true)(hl:ops.size=l.length)
  (htr:∀(k:Nat) p,l[k]?=some p->∃o,ops[k]?=some o/\TrI P ops o p.1/\nK o k p.2=true) (hQ:∀s X a,Rel G X s a->K s->Q .normal a X.w) {s:St} {X:Cx} {a:Act} (h:Rel G X s a)
  (hK:pY P (l.length+1) (sT 0 l) s K):(Code.region id ops true).wp P Q a X.w:=by
 refine wp_region_any hm ?_
 have hX:Rel G { X with w:={ X.w with drawn:=X.w.drawn+1 } } s a:=by
  have hcell:∀b o,World.cell? { X.w with drawn:=X.w.drawn+1 } ⟨b,o,none⟩=X.w.cell? ⟨b,o,none⟩:=fun b o=>World.cell?_of_block rfl
  refine h.change (fun _=>True) (fun _ _ h=>h) ⟨fun b o v hM hc=>⟨(hcell b o).trans hc,hM⟩,fun g L hg _ _=>⟨hg,rfl,fun _ h=>h⟩,rfl,fun _=>.of rfl⟩ (fun i d hd=>.inl ⟨trivial,fun _ _=>rfl⟩)
   (fun k bx hk=>.inl ⟨trivial,fun _ _=>trivial,rfl,fun _ _ _ _ _ _=>rfl⟩) ⟨rfl,rfl,rfl,Nat.le_refl _,fun _ _=>rfl⟩ (fun b _ o=>Iff.rfl)
 refine LD (X:={ X with w:={ X.w with drawn:=X.w.drawn+1 } }) hl htr hQ ops.size (l.length+1) (sT 0 l) _ (by simp) (fun p hp=>by simpa using(JP hp).2) (fun j hj=>?_) (by simp) hX hK
 rw[KR];simp[hj, <-hl]
open Go.RowKit
variable {P:Program}
def kY:List DV->Bool
 |[]=>true
 | .p _ ::ds | .ow _ _ _ ::ds | .top ::ds=>kY ds
 |_=>false
theorem jE{k:Nat}:∀{ds:List DV},kY ds=true->∀d,d∈ds->d.ment k=false
 |[],_,d,hd=>by simp at hd
 | .p x ::ds,h,d,hd=>by
  rcases List.mem_cons.1 hd with hd|hd
  ·subst hd;rfl
  ·exact jE (by simpa [kY] using h) d hd
 | .ow a b c ::ds,h,d,hd=>by
  rcases List.mem_cons.1 hd with hd|hd
  ·subst hd;rfl
  ·exact jE (by simpa [kY] using h) d hd
 | .top ::ds,h,d,hd=>by
  rcases List.mem_cons.1 hd with hd|hd
  ·subst hd;rfl
  ·exact jE (by simpa [kY] using h) d hd
 | .tup _ ::_,h,_,_=>by simp[kY] at h
 | .addr _ _ _ _ ::_,h,_,_=>by simp[kY] at h
 | .bs _ _ _ _ _ ::_,h,_,_=>by simp[kY] at h
 | .fn _ _ ::_,h,_,_=>by simp[kY] at h
structure Al (i:Ins) (k size d:Nat) (zero:List DV):Prop where
 k:i.k=.alloc k size zero
 g:i.g=none
 x:i.xs=[]
 d:i.d=some d
 z:kY zero=true
def DE(i:Ins):Option (Nat×Nat×Nat×List DV) :=
 match i with
 |⟨some d,none,.alloc k size zero,[]⟩=>if kY zero then some (k,size,d,zero) else none
 |_=>none
theorem xV{i:Ins}{k size d:Nat}{zero:List DV}(h:DE i=some (k,size,d,zero)):Al i k size d zero:=by
 unfold DE at h
 split at h
 ·split at h
  ·rename_i hz
   simp at h;obtain⟨rfl,rfl,rfl,rfl⟩:=h;exact⟨rfl,rfl,rfl,rfl,hz⟩
  ·cases h
 ·cases h
def YT(i:Ins):Bool:=(DE i).isSome||wC i
def nI(p i:Ins):Bool :=
 match DE p,DE i with
 |none,none=>o6 p i
 |some (_,_,d,_),none => !(looks i).contains d&&i.d !=some d
 |none,some (_,_,d,_) => !(looks p).contains d&&p.d !=some d
 |some (k,_,d,_),some (k',_,d',_)=>k !=k'&&d !=d'
structure InvA (l:List Ins) (s:St):Prop where
 ok:∀i,i∈l->YT i=true
 dis:(l.filterMap fun i=>(DE i).map (·.1)).Nodup
 no:∀i,i∈l->∀k size d zero,DE i=some (k,size,d,zero)->NoK k s/\k<s.b.length
theorem zV{i:Ins}(h:YT i=true)(ha:DE i=none):wC i=true:=by simpa [YT,ha] using h
theorem iT{i:Ins}(h:wC i=true){s:St}{K:St->Prop}:b7 P i s K↔∃s',StepK P i s s'/\K s':=by
 simp only[wC,aY,Option.isNone_iff_eq_none] at h;rw[j8 h.2.1 h.2.2.1];exact⟨fun ⟨s',a,b⟩=>⟨s',gP.1 a,b⟩,fun ⟨s',a,b⟩=>⟨s',gP.2 a,b⟩⟩
theorem kU{i:Ins}{k size d:Nat}{zero:List DV}(h:Al i k size d zero){s:St}(hN:NoK k s)(hlt:k<s.b.length){K:St->Prop}:b7 P i s K↔(zero.length=size/\K (al k size d zero s)) :=
 JG h.k h.g h.x h.d hN hlt
theorem InvA.step{x:Ins}{l1 l2:List Ins}{s:St}{K:St->Prop}(hI:InvA (l1++x ::l2) s)(h:b7 P x s K):b7 P x s (fun s'=>K s'/\InvA (l1++l2) s'):=by
 have hx:x∈l1++x ::l2:=by simp
 have hsub:∀i,i∈l1++l2->i∈l1++x ::l2:=by
  intro i hi;rcases List.mem_append.1 hi with hi|hi
  ·simp[hi]
  ·simp[hi]
 have hdis:((l1++l2).filterMap fun i=>(DE i).map (·.1)).Nodup:=by
  refine hI.dis.sublist (List.Sublist.filterMap _ ?_);exact List.Sublist.append (List.Sublist.refl _) (List.sublist_cons_self _ _)
 cases ha:DE x with
 |none=>
  have ht:=zV (hI.ok x hx) ha;obtain⟨s',h1,h2⟩:=(iT ht).1 h;refine(iT ht).2 ⟨s',h1,h2,fun i hi=>hI.ok i (hsub i hi),hdis,fun i hi k size d zero hk=>?_⟩
  obtain⟨n1,n2⟩:=hI.no i (hsub i hi) k size d zero hk;obtain⟨m1,m2⟩:=n1.step ht h1;exact⟨m1,by rw[m2];exact n2⟩
 |some q=>
  obtain⟨k,size,d,zero⟩:=q;have hA:=xV ha;obtain⟨n1,n2⟩:=hI.no x hx k size d zero ha;rw[kU hA n1 n2] at h ⊢;refine⟨h.1,h.2,fun i hi=>hI.ok i (hsub i hi),hdis,fun i hi k' size' d' zero' hk=>?_⟩
  obtain⟨m1,m2⟩:=hI.no i (hsub i hi) k' size' d' zero' hk
  have hne:k≠k':=by
   intro e;subst e;have hd:=hI.dis;rw[List.filterMap_append,List.filterMap_cons,ha] at hd;simp only[Option.map_some] at hd;rw[List.nodup_append] at hd;rcases List.mem_append.1 hi with hi|hi
   ·exact hd.2.2 k (List.mem_filterMap.2 ⟨i,hi,by rw[hk];rfl⟩) k (by simp) rfl
   ·exact(List.nodup_cons.1 hd.2.1).1 (List.mem_filterMap.2 ⟨i,hi,by rw[hk];rfl⟩)
  exact⟨m1.al hne (jE hA.z),by simp[al,aI];exact m2⟩
theorem TN{p i:Ins}(h:nI p i=true){l1 l2 l3:List Ins}{s:St}{K:St->Prop}(hI:InvA (l1++p ::(l2++i ::l3)) s)(hx:b7 P p s (fun s=>b7 P i s K)):b7 P i s (fun s=>b7 P p s K):=by
 have mp:p∈l1++p ::(l2++i ::l3):=by simp
 have mi:i∈l1++p ::(l2++i ::l3):=by simp
 unfold nI at h
 cases hp:DE p with
 |none=>
  have tp:=zV (hI.ok p mp) hp
  cases hi:DE i with
  |none=>rw[hp,hi] at h;exact swap h hx
  |some q=>
   obtain⟨k,size,d,zero⟩:=q;rw[hp,hi] at h;simp only[aY,Bool.not_eq_true',bne_iff_ne,ne_eq] at h;have hA:=xV hi;obtain⟨n1,n2⟩:=hI.no i mi k size d zero hi;obtain⟨s1,h1,h2⟩:=(iT tp).1 hx;obtain⟨m1,m2⟩:=n1.step tp h1;rw[kU hA m1 (by rw[m2];exact n2)] at h2
   rw[kU hA n1 n2];exact⟨h2.1,(iT tp).2 ⟨_,IW tp (by simpa using h.1) h.2 n1 h1,h2.2⟩⟩
 |some q=>
  obtain⟨k,size,d,zero⟩:=q;have hA:=xV hp;obtain⟨n1,n2⟩:=hI.no p mp k size d zero hp;rw[kU hA n1 n2] at hx
  cases hi:DE i with
  |none=>
   have ti:=zV (hI.ok i mi) hi;rw[hp,hi] at h;simp only[aY,Bool.not_eq_true',bne_iff_ne,ne_eq] at h;obtain⟨s2,h1,h2⟩:=(iT ti).1 hx.2;obtain⟨s',h3,h4⟩:=M8 ti (by simpa using h.1) h.2 n1 h1
   subst h4;obtain⟨m1,m2⟩:=n1.step ti h3;refine(iT ti).2 ⟨s',h3,?_⟩;rw[kU hA m1 (by rw[m2];exact n2)]
   exact⟨hx.1,h2⟩
  |some q'=>
   obtain⟨k',size',d',zero'⟩:=q';have hA':=xV hi;rw[hp,hi] at h;simp only[aY,bne_iff_ne,ne_eq] at h;obtain⟨n1',n2'⟩:=hI.no i mi k' size' d' zero' hi;have hx2:=hx.2;rw[kU hA' (n1'.al h.1 (jE hA.z)) (by simp[al,aI];exact n2')] at hx2
   rw[kU hA' n1' n2'];refine⟨hx2.1,?_⟩;rw[kU hA (n1.al (fun e=>h.1 e.symm) (jE hA'.z)) (by simp[al,aI];exact n2)]
   refine⟨hx.1,?_⟩;rw[XA h.1 h.2];exact hx2.2
theorem tU{i:Ins}{K:St->Prop}{post:List Ins}:∀{pre:List Ins},(∀j,j∈pre->nI j i=true)->∀{s:St},InvA (pre++i ::post) s->bV P (pre++i ::post) s K->b7 P i s (fun s=>bV P (pre++post) s K)
 |[],_,_,_,h=>h
 |p ::pre,hp,s,hI,h=>by
  have h0:b7 P p s (fun s'=>bV P (pre++i ::post) s' K/\InvA (pre++i ::post) s'):=InvA.step (l1:=[]) hI h
  have h1:b7 P p s (fun s'=>b7 P i s' (fun s''=>bV P (pre++post) s'' K)) :=
   dQ (fun s' hs'=>tU (fun j hj=>hp j (List.mem_cons_of_mem _ hj)) hs'.2 hs'.1) h0
  exact TN (l1:=[]) (hp p List.mem_cons_self) hI h1
theorem C0{G:Gl}{id:Nat}{ops:Array Oper}{is:List Ins}{Q:Exit->Act->World->Prop}{K:St->Prop}(hm:P.follows .mixedOrders=true)(hl:ops.size=is.length)
  (htr:∀(k:Nat) i,is[k]?=some i->∃o,ops[k]?=some o/\TrI P ops o i) (hp:kJ nI ops is=true) (hQ:∀s X a,Rel G X s a->K s->Q .normal a X.w) {s:St} {X:Cx} {a:Act} (h:Rel G X s a) (hI:InvA is s) (hK:bV P is s K) :
  (Code.region id ops true).wp P Q a X.w :=
 lF (ind:=nI) (Inv:=InvA) (fun _ _ _ _ hind hI hK=>hI.step (tU hind hI hK)) hm hl htr hp hQ h hI hK
def NC(is:List Ins)(s:St):Bool :=
 is.all fun i=>match DE i with
  |some (k,_,_,_)=>decide (k<s.b.length)&&(c8 k s.t&&cK k 0 s.b)
  |none=>true
def YK(is:List Ins):Bool:=is.all YT&&decide (is.filterMap fun i=>(DE i).map (·.1)).Nodup
theorem MS{is:List Ins}{s:St}(h1:YK is=true)(h2:NC is s=true):InvA is s:=by
 simp only[YK,aY,decide_eq_true_eq,List.all_eq_true] at h1;refine⟨h1.1,h1.2,fun i hi k size d zero hk=>?_⟩
 have:=List.all_eq_true.1 h2 i hi;rw[hk] at this;simp only[aY,decide_eq_true_eq] at this;obtain⟨t1,t2,t3⟩:=this;refine⟨⟨i5.1 t2,fun j bx hj hne r hr x hx=>?_⟩,t1⟩
 exact uX.1 (t8.1 t3 j bx hj (by simpa using hne)) r hr x hx
def JW(i:Ins):Bool:=match i with
 |⟨some _,none,.mov false,[.t _]⟩=>true
 |_=>false
def nM(p i:Ins):Bool:=o6 p i||(JW p&&(i.g.isNone&&zJ p i))
structure InvM (l:List Ins) (s:St):Prop where
 top:∀i,i∈l->JW i=true->∀d,i.d=some d->aT s.t d=.top
 dis:(l.filterMap (·.d)).Nodup
theorem S7{p:Ins}(h:JW p=true):∃d n,p=⟨some d,none,.mov false,[.t n]⟩:=by
 obtain⟨d,g,k,xs⟩:=p;unfold JW at h
 split at h
 ·rename_i e;exact⟨_,_,e⟩
 ·cases h
theorem LY{d n:Nat}{s:St}{K:St->Prop}:b7 P ⟨some d,none,.mov false,[.t n]⟩ s K↔K ⟨aF s.t d (aT s.t n).copy,s.b⟩ :=
 ⟨fun h=>h.2,fun h=>⟨trivial,h⟩⟩
theorem J9(κ:Kd):yS κ .top=.top:=by
 unfold yS
 split
 ·rfl
 ·rfl
theorem Y6{i:Ins}{v:DV}{t:List DV}{d:Nat}(h:aT t d=.top)(hd:i.d≠some d):aT (U i v t) d=.top:=by
 rw[cL] at h ⊢;rw[kV,if_neg hd]
 split
 ·cases hx:t[d]? with
  |none=>rfl
  |some y=>rw[hx] at h;simp at h;subst h;simp[J9]
 ·exact h
theorem H5{i:Ins}{s:St}{K:St->Prop}(h:b7 P i s K):b7 P i s (fun s'=>K s'/\∀d,aT s.t d=.top->i.d≠some d->aT s'.t d=.top):=by
 have ex:∀{s:St} {K:St->Prop},mX P i s K->mX P i s (fun s'=>K s'/\∀d,aT s.t d=.top->i.d≠some d->aT s'.t d=.top):=fun h=>⟨h.1,iU (fun w b' hk=>⟨hk,fun d h1 h2=>Y6 h1 h2⟩) h.2⟩
 have st:∀{t:List DV} {j:Nat} {x:DV} {d:Nat},aT t j≠.top->aT t d=.top->aT (aF t j x) d=.top:=by
  intro t j x d h1 h2;have hne:d≠j:=fun e=>h1 (e▸h2)
  rw[cL] at h2 ⊢;rw[getElem?_setL,if_neg hne];exact h2
 have sp:∀{t:List DV} {d:Nat},aT t d=.top->i.d≠some d->aT (aH t i.d (.tup [])) d=.top:=by
  intro t d h1 h2
  cases hi:i.d with
  |none=>exact h1
  |some e=>
   have hne:d≠e:=fun e'=>h2 (by rw[hi,e'])
   simp only[aH];rw[cL] at h1 ⊢;rw[getElem?_setL,if_neg hne];exact h1
 unfold b7 at h ⊢
 cases hg:i.g with
 |none=>rw[hg] at h;exact ex h
 |some q=>
  obtain⟨j,w⟩:=q;rw[hg] at h;simp only at h ⊢
  split at h
  ·rename_i c hc
   refine⟨fun e=>?_,fun e=>⟨h.2 e,fun d h1 h2=>sp (st (by rw[hc];intro h;cases h) h1) h2⟩⟩
   have h5:=ex (h.1 e);exact⟨h5.1,iU (fun w b' hs=>⟨hs.1,fun d h1 h2=>hs.2 d (st (by rw[hc];intro h;cases h) h1) h2⟩) h5.2⟩
  ·exact⟨h,fun d h1 h2=>sp h1 h2⟩
  ·exact h.elim
theorem InvM.step{x:Ins}{l1 l2:List Ins}{s:St}{K:St->Prop}(hI:InvM (l1++x ::l2) s)(h:b7 P x s K):b7 P x s (fun s'=>K s'/\InvM (l1++l2) s'):=by
 have hsub:∀i,i∈l1++l2->i∈l1++x ::l2:=by
  intro i hi;rcases List.mem_append.1 hi with hi|hi
  ·simp[hi]
  ·simp[hi]
 have hdis:((l1++l2).filterMap (·.d)).Nodup:=by
  refine hI.dis.sublist (List.Sublist.filterMap _ ?_);exact List.Sublist.append (List.Sublist.refl _) (List.sublist_cons_self _ _)
 refine dQ (fun s' hs=>⟨hs.1,fun i hi hm d hd=>hs.2 d (hI.top i (hsub i hi) hm d hd) fun e=>?_,hdis⟩) (H5 h)
 have hn:=hI.dis;rw[List.filterMap_append,List.filterMap_cons,e] at hn;simp only at hn;rw[List.nodup_append] at hn;rcases List.mem_append.1 hi with hi|hi
 ·exact hn.2.2 d (List.mem_filterMap.2 ⟨i,hi,hd⟩) d (by simp) rfl
 ·exact(List.nodup_cons.1 hn.2.1).1 (List.mem_filterMap.2 ⟨i,hi,hd⟩)
theorem IT{k d:Nat}{v:DV}{t:List DV}{o:Option Nat}(hd:o≠some d)(ht:aT t d=.top)(h:∀x,x∈aH (aF t d v) o .top->x.ment k=false):∀x,x∈aH t o .top->x.ment k=false:=by
 intro x hx;obtain⟨n,hn⟩:=List.getElem?_of_mem hx
 by_cases e:n=d
 ·subst e
  have:x=.top:=by
   rw[cL] at ht
   cases ho:o with
   |none=>rw[ho] at hn;simp only[aH] at hn;rw[hn] at ht;exact ht
   |some m=>
    rw[ho] at hn;simp only[aH,getElem?_setL] at hn;rw[if_neg (fun e=>hd (by rw[ho,e]))] at hn
    rw[hn] at ht;exact ht
  subst this;rfl
 ·refine h x (cD (i:=n) ?_)
  cases ho:o with
  |none=>rw[ho] at hn;simp only[aH] at hn ⊢;rw[getElem?_setL,if_neg e];exact hn
  |some m=>
   rw[ho] at hn;simp only[aH,getElem?_setL] at hn ⊢;rw[if_neg e];exact hn
theorem P2{k d:Nat}{v:DV}{t:List DV}{o:Option Nat}(hd:o≠some d)(ht:aT t d=.top)(h:wK k (aH (aF t d v) o .top)=true):wK k (aH t o .top)=true:=by
 have key:∀{l:List DV},wK k l=true↔∀x,x∈l->M6 k x=true:=by
  intro l
  induction l with
  |nil=>simp[wK]
  |cons x xs ih=>simp[wK,ih]
 rw[key] at h ⊢;intro x hx;obtain⟨n,hn⟩:=List.getElem?_of_mem hx
 by_cases e:n=d
 ·subst e
  have:x=.top:=by
   rw[cL] at ht
   cases ho:o with
   |none=>rw[ho] at hn;simp only[aH] at hn;rw[hn] at ht;exact ht
   |some m=>
    rw[ho] at hn;simp only[aH,getElem?_setL] at hn;rw[if_neg (fun e=>hd (by rw[ho,e]))] at hn
    rw[hn] at ht;exact ht
  subst this;rfl
 ·refine h x (cD (i:=n) ?_)
  cases ho:o with
  |none=>rw[ho] at hn;simp only[aH] at hn ⊢;rw[getElem?_setL,if_neg e];exact hn
  |some m=>
   rw[ho] at hn;simp only[aH,getElem?_setL] at hn ⊢;rw[if_neg e];exact hn
theorem WA{p i:Ins}(h:nM p i=true){l1 l2 l3:List Ins}{s:St}{K:St->Prop}(hI:InvM (l1++p ::(l2++i ::l3)) s)(hx:b7 P p s (fun s=>b7 P i s K)):b7 P i s (fun s=>b7 P p s K):=by
 unfold nM at h;rw[Bool.or_eq_true] at h;rcases h with h|h
 ·exact swap h hx
 ·simp only[aY,Option.isNone_iff_eq_none] at h
  obtain⟨hm,hg,ha⟩:=h;have ha:=xI ha;have ht:=hI.top p (by simp) hm
  obtain⟨d,n,rfl⟩:=S7 hm;have ht:=ht d rfl;rw[LY] at hx;obtain⟨d1,d2⟩:=ha.d1 d rfl;have hid:i.d≠some d:=fun e=>d2 e.symm
  unfold b7 at hx ⊢;rw[hg] at hx ⊢;simp only at hx ⊢;obtain⟨hf,hs⟩:=hx;refine⟨?_,?_⟩
  ·unfold fresh at hf ⊢
   cases hk:fF i.k with
   |some k=>
    rw[hk] at hf;exact⟨hf.1,i5.2 (IT hid ht (i5.1 hf.2.1)),hf.2.2⟩
   |none=>
    rw[hk] at hf
    cases hgr:oK i.k with
    |false=>trivial
    |true=>
     simp only[hgr,cond_true,aY] at hf ⊢;exact⟨P2 hid ht hf.1,hf.2⟩
  ·rw[eA (t:=s.t) (t':=aF s.t d (aT s.t n).copy) (yT d1 s.t _)] at hs
   refine iU (fun w b' hk=>?_) hs
   refine⟨trivial,?_⟩;have e1:aH (fE i.k.core i.xs (aF s.t d (aT s.t n).copy)) i.d w=aF (U i w s.t) d (aT s.t n).copy:=IA d1 hid w _ s.t;rw[e1] at hk;have e2:=ha.symm.vals w s.t;simp only[List.map_cons,List.map_nil,O.val,List.cons.injEq,and_true] at e2
   show K ⟨aF (U i w s.t) d (aT (U i w s.t) n).copy,b'⟩
   rw[e2];exact hk
theorem vD{i:Ins}{K:St->Prop}{post:List Ins}:∀{pre:List Ins},(∀j,j∈pre->nM j i=true)->∀{s:St},InvM (pre++i ::post) s->bV P (pre++i ::post) s K->b7 P i s (fun s=>bV P (pre++post) s K)
 |[],_,_,_,h=>h
 |p ::pre,hp,s,hI,h=>by
  have h0:b7 P p s (fun s'=>bV P (pre++i ::post) s' K/\InvM (pre++i ::post) s'):=InvM.step (l1:=[]) hI h
  have h1:b7 P p s (fun s'=>b7 P i s' (fun s''=>bV P (pre++post) s'' K)) :=
   dQ (fun s' hs'=>vD (fun j hj=>hp j (List.mem_cons_of_mem _ hj)) hs'.2 hs'.1) h0
  exact WA (l1:=[]) (hp p List.mem_cons_self) hI h1
theorem CF{G:Gl}{id:Nat}{ops:Array Oper}{is:List Ins}{Q:Exit->Act->World->Prop}{K:St->Prop}(hm:P.follows .mixedOrders=true)(hl:ops.size=is.length)
  (htr:∀(k:Nat) i,is[k]?=some i->∃o,ops[k]?=some o/\TrI P ops o i) (hp:kJ nM ops is=true) (hQ:∀s X a,Rel G X s a->K s->Q .normal a X.w) {s:St} {X:Cx} {a:Act} (h:Rel G X s a) (hI:InvM is s) (hK:bV P is s K) :
  (Code.region id ops true).wp P Q a X.w :=
 lF (ind:=nM) (Inv:=InvM) (fun _ _ _ _ hind hI hK=>hI.step (vD hind hI hK)) hm hl htr hp hQ h hI hK
def Y8:DV->Bool
 | .top=>true
 |_=>false
def LX(is:List Ins)(s:St):Bool :=
 is.all fun i=>match JW i,i.d with
  |true,some d=>Y8 (aT s.t d)
  |_,_=>true
def stM(is:List Ins):Bool:=decide (is.filterMap (·.d)).Nodup
theorem LN{is:List Ins}{s:St}(h1:stM is=true)(h2:LX is s=true):InvM is s:=by
 refine⟨fun i hi hm d hd=>?_,of_decide_eq_true h1⟩
 have:=List.all_eq_true.1 h2 i hi;rw[hm,hd] at this;simp only at this;cases hx:aT s.t d<;>rw[hx] at this<;>first|rfl|(cases this)
open Go.RowKit
variable {P:Program}
def forget(t:List DV):List Nat->List DV
 |[]=>t
 |n ::ns=>forget (aF t n .top) ns
theorem Rel.forget{G:Gl}{X:Cx}{a:Act}(fs:List Nat):∀{t:List DV} {b:List (Option Box)},Rel G X ⟨t,b⟩ a->Rel G X ⟨Vc.forget t fs,b⟩ a:=by
 induction fs with
 |nil=>exact fun h=>h
 |cons f fs ih=>exact fun h=>ih (h.weak f .top trivial)
def WW(v:DV)(K:DV->Prop):Prop :=
 match v with
 | .top=>K .top
 | .p x=>K (.p x)
 | .ow a b c=>K (.ow a b c)
 | .tup ds=>K (.tup ds)
 | .addr a b c d=>K (.addr a b c d)
 | .bs a b c d e=>K (.bs a b c d e)
 | .fn f cs=>K (.fn f cs)
 | .mh k=>K (.mh k)
 | .ob T=>K (.ob T)
 | .pk o=>K (.pk o)
 | .agd cs=>K (.agd cs)
theorem uR(v:DV)(K:DV->Prop):WW v K=K v:=by cases v<;>rfl
def spD(r:List DV)(K:List DV->Prop):Prop :=
 List.rec (motive:=fun _=>(List DV->Prop)->Prop) (fun K=>K []) (fun x _ ih K=>WW x fun x=>ih fun ys=>K (x ::ys)) r K
theorem SB(r:List DV)(K:List DV->Prop):spD r K=K r:=by
 induction r generalizing K with
 |nil=>rfl
 |cons x r ih=>show WW x (fun x=>spD r fun ys=>K (x ::ys))=_;rw[uR,ih]
def testB(b:Bool)(A:Prop):Prop :=
 match b with
 |true=>A
 |false=>False
theorem fK(b:Bool)(A:Prop):testB b A=(b=true/\A):=by cases b<;>simp[testB]
def vP:List (List DV)->List Int->List (List DV)
 |[.p k,d] ::rs,s ::ss=>[.p k,d,.p (.int .i64 s)] ::vP rs ss
 |rs,_=>rs
def two(r:List DV):Bool:=match r with
 |[.p _,_]=>true
 |_=>false
theorem AG:∀{rs:List (List DV)} {ss:List Int} (_:rs.length=ss.length) (_:∀r,r∈rs->two r=true),(vP rs ss).length=rs.length /\
  ∀(i:Nat) row,(vP rs ss)[i]?=some row->∃k d s,rs[i]?=some [.p k,d]/\ss[i]?=some s/\row=[.p k,d,.p (.int .i64 s)]
 |[],[],_,_=>⟨rfl,fun i row h=>by simp[vP] at h⟩
 |[],_ ::_,h,_=>by simp at h
 |_ ::_,[],h,_=>by simp at h
 |r ::rs,s ::ss,hl,h2=>by
  obtain⟨k,d,rfl⟩:∃k d,r=[.p k,d]:=by
   have:=h2 r (by simp)
   unfold two at this
   split at this
   ·exact⟨_,_,rfl⟩
   ·cases this
  obtain⟨e1,e2⟩:=AG (rs:=rs) (ss:=ss) (by simpa using hl) (fun r hr=>h2 r (by simp[hr]))
  refine⟨by simp[vP,e1],fun i row h=>?_⟩
  cases i with
  |zero=>simp[vP] at h;subst h;exact⟨k,d,s,rfl,rfl,rfl⟩
  |succ i=>simp only[vP,List.getElem?_cons_succ] at h ⊢;exact e2 i row h
theorem BX.stamps{X:Cx}{base k:Nat}{rows:List (List DV)}{live old:Bool}(h:BX X base k ⟨live,0,rows,old⟩)(h2:∀r,r∈rows->two r=true) :
  ∃ss:List Int,ss.length=rows.length/\ss.Nodup/\BX X base k ⟨live,0,vP rows ss,old⟩:=by
 unfold BX at h;rw[if_pos rfl] at h;obtain⟨blk,es,clock,m1,m2,m3,m4,m5,m6,m0,m7⟩:=h;simp only at m5 m7;have hl:(es.toList.map fun e=>(e.born:Int)).length=rows.length:=by simpa using m5
 refine⟨es.toList.map fun e=>(e.born:Int),hl,?_,?_⟩
 ·have:=m0.2
  rw[List.nodup_iff_pairwise_ne,List.pairwise_map] at this ⊢;exact this.imp fun h e=>h (by exact_mod_cast e)
 ·unfold BX
  rw[if_pos rfl];obtain⟨a1,a2⟩:=AG (rs:=rows) (ss:=es.toList.map fun e=>(e.born:Int)) hl.symm h2
  refine⟨blk,es,clock,m1,m2,m3,m4,by simp only;rw[a1];exact m5,m6,m0,fun i row e hr he=>?_⟩
  obtain⟨kk,d,s,g1,g2,g3⟩:=a2 i row hr;obtain⟨q,n,d',f1,f2,f3⟩:=m7 i _ e g1 he
  have hs:s=e.born:=by
   have he':es.toList[i]?=some e:=by simpa using he
   rw[List.getElem?_map,he'] at g2
   simpa [eq_comm] using g2
  injection f1 with f1 f4
  injection f1 with f1
  injection f4 with f4 f5
  subst f1;subst f4;subst hs;exact⟨kk,true,d,g3,f2,f3⟩
def p6:List (List DV)->List (List DV)
 |[]=>[]
 |[k,d,_] ::rs=>[k,d] ::p6 rs
 |r ::rs=>r ::p6 rs
theorem pO:∀{rs:List (List DV)} {i:Nat} {row:List DV},(p6 rs)[i]?=some row->∃r,rs[i]?=some r/\((∃k d u,r=[k,d,u]/\row=[k,d])\/row=r)
 |[],i,row,h=>by simp[p6] at h
 |r ::rs,i,row,h=>by
  unfold p6 at h
  split at h
  ·rename_i e;cases e
  ·rename_i e
   injection e with e1 e2
   subst e1;subst e2
   cases i with
   |zero=>simp only[List.getElem?_cons_zero,bQ] at h;exact⟨_,rfl,.inl ⟨_,_,_,rfl,h.symm⟩⟩
   |succ i=>obtain⟨r',h1,h2⟩:=pO (i:=i) (by simpa using h);exact⟨r',by simpa using h1,h2⟩
  ·rename_i e
   injection e with e1 e2
   subst e1;subst e2
   cases i with
   |zero=>simp only[List.getElem?_cons_zero,bQ] at h;exact⟨_,rfl,.inr h.symm⟩
   |succ i=>obtain⟨r',h1,h2⟩:=pO (i:=i) (by simpa using h);exact⟨r',by simpa using h1,h2⟩
theorem kC:∀(rs:List (List DV)),(p6 rs).length=rs.length
 |[]=>rfl
 |r ::rs=>by
  unfold p6
  split
  ·rename_i e;cases e
  ·rename_i e;injection e with e1 e2;subst e1;subst e2;simp[kC]
  ·rename_i e;injection e with e1 e2;subst e1;subst e2;simp[kC]
theorem BX.unstamp{X:Cx}{base k:Nat}{rows:List (List DV)}{live old:Bool}(h:BX X base k ⟨live,0,rows,old⟩):BX X base k ⟨live,0,p6 rows,old⟩:=by
 unfold BX at h ⊢;rw[if_pos rfl] at h ⊢;obtain⟨blk,es,clock,m1,m2,m3,m4,m5,m6,m0,m7⟩:=h;refine⟨blk,es,clock,m1,m2,m3,m4,by simp only[kC];exact m5,m6,m0,fun i row e hr he=>?_⟩
 obtain⟨r,h1,h2⟩:=pO hr;obtain⟨q,n,d,f1,f2,f3⟩:=m7 i r e h1 he;rcases h2 with ⟨k',d',u,h3,h4⟩|h2
 ·rw[h3] at f1
  injection f1 with f1 f4
  injection f4 with f4 f5
  subst f1;subst f4;subst h4;exact⟨q,false,_,rfl,f2,f3⟩
 ·subst h2;exact⟨q,n,d,f1,f2,f3⟩
theorem Rel.setBX{G:Gl}{X:Cx}{s:St}{a:Act}(h:Rel G X s a){k:Nat}{bx:Box}(hb:BX X G.base k bx):Rel G X ⟨s.t,aF s.b k (some bx)⟩ a :=
 ⟨h.defers, h.size, h.tmps, fun j bx' hj => by
  rcases dI hj with ⟨rfl,rfl⟩|⟨_,hj⟩
  ·exact hb
  ·exact h.boxes j bx' hj,h.below,h.hb,h.mold⟩
inductive Gh where
 |opn (is:List Ins) (a:O) (j:Nat) (ag:Bool)
 |opm (is:List Ins) (m:O) (j:Nat)
 |shut (a:O) (off:Nat)
 |shm (is:List Ins) (m:O)
 |trim (n:Nat)
 |forget (fs:List Nat)
 |stamp (is:List Ins) (m:O)
 |unst (is:List Ins) (m:O)
 |lay (k n:Nat)
def N8:Kd->Bool
 | .mov false | .fad _ | .iad _ | .load _ _ false | .at _ (.load _ _ false) | .loadp _ _ | .fld _ _ _ | .bin _ | .conv _ | .nilchk=>true
 |_=>false
def CU(P:Program):List Ins->List DV->List (Option Box)->(List DV->Prop)->Prop
 |[],t,_,K=>K t
 |i ::is,t,b,K=>N8 i.k=true/\aD P i.k.core (i.xs.map (O.val t)) b fun v _=>CU P is (aH t i.d v) b K
def BC:List (Option Box)->List (Option Box)
 |[]=>[]
 |x ::xs=>match x,BC xs with
  |none,[]=>[]
  |x,l=>x ::l
def wW:Nat->List (Option Box)->List (Option Box)
 |0,b=>BC b
 |_+1,[]=>[]
 |n+1,x ::b=>x ::wW n b
def HF(j k:Nat)(s:St):Bool:=decide (j≠k)&&(decide (j<s.b.length)&&(c8 j s.t&&cK j 0 s.b))
def FN(s:St)(k r off j:Nat)(ag:Bool)(bx:Box)(row:List DV)(d:DV)(K:St->Prop):Prop :=
 match d with
 | .ob T=>testB bx.live (testB (HF j k s) (BK j ag T (fun _=>K s) fun d' bx'=>K ⟨s.t,aF (aF s.b k (some { bx with rows:=aF bx.rows r (aF row off d') })) j (some bx')⟩))
 |_=>K s
def WX(rows:List (List DV))(n:Nat)(x:List (List Ob)):Prop:=BE rows=some x/\n=rows.length
def F1(s:St)(k r off:Nat)(bx:Box)(row:List DV)(d:DV)(K:St->Prop):Prop :=
 match d with
 | .addr j sz 0 0=>match eH s.b j with
  |some bj=>match bj.rows with
   |[cr]=>match KS cr with
    |some cells=>testB (bx.live&&(bj.live&&(decide (bj.size≠0)&&(decide (j≠k)&&decide (sz=bj.size))))) (K ⟨s.t,aF (aF s.b k (some { bx with rows:=aF bx.rows r (aF row off (.ob (.ptr cells))) })) j none⟩)
    |none=>False
   |_=>False
  |none=>False
 | .bs j sz ag 0 n=>match eH s.b j with
  |some bj=>∃rows',WX bj.rows n rows'/\testB (bx.live&&(bj.live&&(decide (bj.size≠0)&&(decide (j≠k)&&decide (sz=bj.size))))) (K ⟨s.t,aF (aF s.b k (some { bx with rows:=aF bx.rows r (aF row off (.ob (.sl bj.size false rows'))) })) j none⟩)
  |none=>False
 | .mh j=>match eH s.b j with
  |some bj=>∃kv:List PV×List Ob,TD bj.rows=some kv/\testB (bx.live&&(bj.live&&(decide (bj.size=0)&&decide (j≠k)))) (K ⟨s.t,aF (aF s.b k (some { bx with rows:=aF bx.rows r (aF row off (.ob (.mp kv.1 kv.2))) })) j none⟩)
  |none=>False
 |_=>K s
def LS(s:St)(k n:Nat)(K:St->Prop):Prop :=
 match eH s.b k with
 |some bx=>match bx.live,Nat.beq bx.size n,bx.rows with
  |true,true,[row]=>spD row fun row=>match bx.old with
   |true=>K ⟨s.t,aF s.b k (some ⟨true,n,[row],true⟩)⟩
   |false=>K ⟨s.t,aF s.b k (some ⟨true,n,[row],false⟩)⟩
  |_,_,_=>K s
 |none=>K s
theorem GB{b:List (Option Box)}:∀{k:Nat} {bx:Box},eH b k=some bx->aF b k (some bx)=b:=by
 induction b with
 |nil=>intro k bx h;simp[eH] at h
 |cons x b ih=>
  intro k bx h
  cases k with
  |zero=>simp only[eH] at h;simp only[aF,h]
  |succ k=>simp only[eH] at h;simp only[aF,ih h]
theorem F8(s:St)(k n:Nat)(K:St->Prop):LS s k n K=K s:=by
 unfold LS
 split
 ·rename_i bx hb
  split
  ·rename_i row h1 h2 h3
   rw[SB];have hs:=GB hb;have h4:=Nat.eq_of_beq_eq_true h2;clear h2;obtain⟨live,size,rows,old⟩:=bx;simp only at h1 h4 h3 hs;subst h1;subst h4;subst h3;cases old<;>simp only[hs]
  ·rfl
 ·rfl
def KV(P:Program)(g:Gh)(s:St)(K:St->Prop):Prop :=
 match g with
 | .trim n=>K ⟨s.t,wW n s.b⟩
 | .forget fs=>K ⟨Vc.forget s.t fs,s.b⟩
 | .lay k n=>LS s k n K
 | .opn is a j ag=>CU P is s.t s.b fun t'=>match a.val t' with
  | .addr k sz r off=>match bF s.b k with
   |some bx=>∃row,bx.rows[r]?=some row/\∃d,row[off]?=some d/\FN s k r off j ag bx row d K
   |none=>False
  |_=>K s
 | .stamp is m=>CU P is s.t s.b fun t'=>match m.val t' with
  | .mh k=>match dV s.b k with
   |some bx=>(∀r,r∈bx.rows->two r=true)/\∀ss:List Int,ss.length=bx.rows.length->ss.Nodup->K ⟨s.t,aF s.b k (some { bx with rows:=vP bx.rows ss })⟩
   |none=>False
  |_=>K s
 | .unst is m=>CU P is s.t s.b fun t'=>match m.val t' with
  | .mh k=>match dV s.b k with
   |some bx=>K ⟨s.t,aF s.b k (some { bx with rows:=p6 bx.rows })⟩
   |none=>K s
  |_=>K s
 | .opm is m j=>CU P is s.t s.b fun t'=>match m.val t' with
  | .mh k=>match dV s.b k with
   |some bx=>∃fr:Option (Nat×PV×Ob),match fr with
    |some (r,kk,T)=>bx.rows[r]?=some [.p kk,.ob T]/\FN s k r 1 j false bx [.p kk,.ob T] (.ob T) K
    |none=>K s
   |none=>False
  |_=>K s
 | .shut a off=>match a.val s.t with
  | .addr k sz r o=>match bF s.b k with
   |some bx=>∃row,bx.rows[r]?=some row/\∃d,row[o+off]?=some d/\F1 s k r (o+off) bx row d K
   |none=>K s
  |_=>K s
 | .shm is m=>CU P is s.t s.b fun t'=>match m.val t' with
  | .mh k=>match dV s.b k with
   |some bx=>∃fr:Option (Nat×PV×DV),match fr with
    |some (r,kk,d)=>bx.rows[r]?=some [.p kk,d]/\F1 s k r 1 bx [.p kk,d] d K
    |none=>K s
   |none=>K s
  |_=>K s
theorem I2{op:BinOp}{x y:PV}{K:PV->Prop}(h:jH op x y K):∃z,K z:=by
 unfold jH at h
 split at h
 ·split at h<;>first|exact⟨_,h.2⟩|exact⟨_,h.2.2⟩
 ·split at h<;>first|exact⟨_,h⟩|exact⟨_,h.2⟩|exact h.elim
 ·exact h.elim
theorem tK{cells:List PV}{off n:Nat}{ag:Bool}{K:PV->Prop}(h:gB cells off n ag K):∃z,K z:=by
 unfold gB at h
 split at h
 ·exact⟨_,h.2⟩
 ·obtain⟨c,_,h⟩:=h;exact⟨c,h⟩
theorem MK{κ:Kd}(hd:N8 κ=true)(ha:∀k κ', κ≠.at k κ'){vs:List DV}{b:List (Option Box)}{K:DV->List (Option Box)->Prop}(h:aD P κ vs b K):∃v b',K v b':=by
 cases κ with
 | «at» k κ=>exact absurd rfl (ha _ _)
 |nilchk=>
  rcases vs with _|⟨x,_|⟨y,ys⟩⟩
  ·exact False.elim h
  ·simp only[aD] at h
   split at h
   ·exact⟨_,_,h⟩
   ·exact⟨_,_,h⟩
   ·exact⟨_,_,h⟩
   ·exact h.elim
  ·simp[aD] at h
 |mov take=>
  match vs,h with
  |[x],h=>exact⟨_,_,h⟩
 |fad off=>
  match vs,h with
  |[.addr _ _ _ _],h=>exact⟨_,_,h⟩
  |[.p (.ptr _ _)],h=>exact⟨_,_,h⟩
 |fld off n ag=>
  match vs,h with
  |[.p (.agg cs)],h=>obtain⟨z,h⟩:=tK (show gB cs off n ag fun x=>K (.p x) b from h);exact⟨_,_,h⟩
 |loadp n ag=>
  match vs,h with
  |[.p (.ptr cells off)],h=>obtain⟨z,h⟩:=tK (show gB cells off n ag fun x=>K (.p x) b from h);exact⟨_,_,h⟩
 |bin op=>
  match vs,h with
  |[.p x,.p y],h=>obtain⟨z,h⟩:=I2 (show jH op x y fun z=>K (.p z) b from h);exact⟨_,_,h⟩
 |conv k=>
  match vs,h with
  |[.p (.int _ n)],h=>exact⟨_,_,h⟩
 |iad size=>
  rcases vs with _|⟨x,_|⟨y,_|⟨z,zs⟩⟩⟩
  ·exact False.elim h
  ·exact False.elim h
  ·cases y with
   |p w=>cases w with
    |int k i=>cases x with
     |p u=>cases u with
      |sl sz nl rows=>obtain⟨_,_,row,_,h⟩:=h;exact⟨_,_,h⟩
      |_=>exact False.elim h
     |ow sz nl rows=>obtain⟨_,_,row,_,h⟩:=h;exact⟨_,_,h⟩
     |bs k sz ag lo n=>obtain⟨_,_,_,h⟩:=h;exact⟨_,_,h⟩
     |_=>exact False.elim h
    |_=>exact False.elim h
   |_=>exact False.elim h
  ·simp[aD] at h
 |load n ag take=>
  match vs,h with
  |[.p (.ptr cells off)],h=>obtain⟨z,h⟩:=tK (show gB cells off n ag fun x=>K (.p x) b from h);exact⟨_,_,h⟩
  |[.addr k sz r off],h=>
   simp only[aD] at h
   split at h
   ·obtain⟨_,row,_,_,h⟩:=h
    split at h
    ·split at h
     ·exact⟨_,_,h⟩
     ·exact h.elim
    ·obtain⟨d,_,h⟩:=h;exact⟨_,_,h⟩
   ·exact h.elim
 |_=>cases hd
theorem oQ{is:List Ins}:∀{t:List DV} {b:List (Option Box)} {K:List DV->Prop},CU P is t b K->∃t',K t':=by
 induction is with
 |nil=>exact fun {t b K} h=>⟨t,h⟩
 |cons i is ih=>
  intro t b K h;obtain⟨hd,h⟩:=h
  have h2:N8 i.k.core=true/\∀k κ',i.k.core≠.at k κ':=by
   generalize i.k = κ at hd;unfold N8 at hd
   split at hd<;>first|exact⟨rfl,fun _ _ e=>by cases e⟩|cases hd
  obtain⟨v,_,h⟩:=MK h2.1 h2.2 h;exact ih h
theorem wI:∀{b:List (Option Box)} {k:Nat} {bx:Box},(BC b)[k]?=some (some bx)->b[k]?=some (some bx)
 |[],k,bx,h=>by simp[BC] at h
 |x ::xs,k,bx,h=>by
  unfold BC at h
  split at h
  ·simp at h
  ·cases k with
   |zero=>simpa using h
   |succ k=>have:=wI (b:=xs) (k:=k) (bx:=bx) (by simpa using h);simpa using this
theorem xD:∀{n:Nat} {b:List (Option Box)} {k:Nat} {bx:Box},(wW n b)[k]?=some (some bx)->b[k]?=some (some bx)
 |0,b,k,bx,h=>wI h
 |_+1,[],k,bx,h=>by simp[wW] at h
 |n+1,x ::b,k,bx,h=>by
  unfold wW at h
  cases k with
  |zero=>simpa using h
  |succ k=>have:=xD (n:=n) (b:=b) (k:=k) (bx:=bx) (by simpa using h);simpa using this
theorem Rel.trim{G:Gl}{X:Cx}{s:St}{a:Act}(h:Rel G X s a)(n:Nat):Rel G X ⟨s.t,wW n s.b⟩ a :=
 ⟨h.defers,h.size,h.tmps,fun k bx hk=>h.boxes k bx (xD hk),h.below,h.hb,h.mold⟩
theorem DU{j:Nat}{ag:Bool}{T:Ob}{C:Prop}{K:DV->Box->Prop}(h:BK j ag T (fun _=>C) K):C\/∃sz d bx,Opens j ag T sz d bx/\K d bx:=by
 cases T with
 |p x=>exact h.elim
 |ch c l=>exact h.elim
 |ptr cells=>
  cases cells with
  |nil=>exact h.elim
  |cons c cs=>exact .inr ⟨_,_,_,.ptr _ (by simp),h⟩
 |sl size nl rows=>
  cases size with
  |zero=>exact h.elim
  |succ n=>cases nl with
   |true=>exact .inl h
   |false=>exact .inr ⟨_,_,_,.sl _ _ (by omega),h⟩
 |mp keys vals=>exact .inr ⟨_,_,_,.mp _ _,h⟩
theorem FC{G:Gl}{X:Cx}{s:St}{a:Act}(h:Rel G X s a){k r off j:Nat}{ag:Bool}{bx:Box}{row:List DV}{d:DV}{K:St->Prop}(hk:s.b[k]?=some (some bx))(hr:bx.rows[r]?=some row)(hd:row[off]?=some d)(hm:bx.size=0->off=1)
  (hK:FN s k r off j ag bx row d K):∃X' s',X'.w=X.w/\Rel G X' s' a/\K s':=by
 cases d with
 |ob T=>
  simp only[FN,fK,HF,aY,decide_eq_true_eq] at hK;obtain⟨hl,⟨hjk,_,hT,hB⟩,hK⟩:=hK;rcases DU hK with hC|⟨sz,d',bx',ho,hC⟩
  ·exact⟨X,s,rfl,h,hC⟩
  ·obtain⟨X',e,_,h'⟩:=h.opn hk hl hr hd hm ho hjk hT hB
   exact⟨X',_,e,h',hC⟩
 |_=>exact⟨X,s,rfl,h,hK⟩
theorem FS{G:Gl}{X:Cx}{s:St}{a:Act}(h:Rel G X s a){k r off:Nat}{bx:Box}{row:List DV}{d:DV}{K:St->Prop}(hk:s.b[k]?=some (some bx))(hr:bx.rows[r]?=some row)(hd:row[off]?=some d)(hm:bx.size=0->off=1)
  (hK:F1 s k r off bx row d K):∃X' s',X'.w=X.w/\Rel G X' s' a/\K s':=by
 have skip:K s->∃X' s',X'.w=X.w/\Rel G X' s' a/\K s':=fun hK=>⟨X,s,rfl,h,hK⟩
 unfold F1 at hK
 split at hK
 ·split at hK
  ·rename_i bj hj
   split at hK
   ·rename_i cr hcr
    split at hK
    ·rename_i cells hcl
     simp only[fK,aY,decide_eq_true_eq] at hK;obtain⟨⟨hl,hlj,hs0,hjk,rfl⟩,hK⟩:=hK;obtain⟨X',e,h'⟩:=h.cls hk hl hr hd hm (cA.1 hj) hlj (.ptr cr cells hcr hcl hs0) hjk;exact⟨X',_,e,h',hK⟩
    ·exact hK.elim
   ·exact hK.elim
  ·exact hK.elim
 ·split at hK
  ·rename_i bj hj
   simp only[fK,aY,decide_eq_true_eq] at hK;obtain⟨rows',⟨hcl,rfl⟩,⟨hl,hlj,hs0,hjk,rfl⟩,hK⟩:=hK;obtain⟨X',e,h'⟩:=h.cls hk hl hr hd hm (cA.1 hj) hlj (.sl _ rows' hcl hs0) hjk;exact⟨X',_,e,h',hK⟩
  ·exact hK.elim
 ·split at hK
  ·rename_i bj hj
   simp only[fK,aY,decide_eq_true_eq] at hK;obtain⟨⟨ks,vs⟩,hcl,⟨hl,hlj,hs0,hjk⟩,hK⟩:=hK;obtain⟨X',e,h'⟩:=h.cls hk hl hr hd hm (cA.1 hj) hlj (.mp ks vs hcl hs0) hjk;exact⟨X',_,e,h',hK⟩
  ·exact hK.elim
 ·exact skip hK
theorem O6{G:Gl}{X:Cx}{s:St}{a:Act}(h:Rel G X s a){g:Gh}{K:St->Prop}(hK:KV P g s K):∃X' s',X'.w=X.w/\Rel G X' s' a/\K s':=by
 have skip:K s->∃X' s',X'.w=X.w/\Rel G X' s' a/\K s':=fun hK=>⟨X,s,rfl,h,hK⟩
 cases g with
 |trim n=>exact⟨X,_,rfl,h.trim n,hK⟩
 |forget fs=>exact⟨X,_,rfl,h.forget fs (t:=s.t) (b:=s.b),hK⟩
 |lay k n=>
  simp only[KV,F8] at hK;exact⟨X,s,rfl,h,hK⟩
 |opn is o j ag=>
  obtain⟨t',hK⟩:=oQ hK
  split at hK
  ·split at hK
   ·rename_i bx hb
    obtain⟨row,hr,d,hd,hK⟩:=hK;exact FC h (b8 hb) hr hd (fun e=>absurd e (bG hb)) hK
   ·exact hK.elim
  ·exact skip hK
 |stamp is m=>
  obtain⟨t',hK⟩:=oQ hK
  split at hK
  ·split at hK
   ·rename_i bx hb
    obtain⟨h1,h2⟩:=eE hb;obtain⟨live,size,rows,old⟩:=bx;simp only at h2;subst h2;obtain⟨ss,e1,e2,e3⟩:=(h.boxes _ _ h1).stamps hK.1;exact⟨X,_,rfl,h.setBX e3,hK.2 ss e1 e2⟩
   ·exact hK.elim
  ·exact skip hK
 |unst is m=>
  obtain⟨t',hK⟩:=oQ hK
  split at hK
  ·split at hK
   ·rename_i bx hb
    obtain⟨h1,h2⟩:=eE hb;obtain⟨live,size,rows,old⟩:=bx;simp only at h2;subst h2;exact⟨X,_,rfl,h.setBX (h.boxes _ _ h1).unstamp,hK⟩
   ·exact skip hK
  ·exact skip hK
 |opm is m j=>
  obtain⟨t',hK⟩:=oQ hK
  split at hK
  ·split at hK
   ·rename_i bx hb
    obtain⟨fr,hK⟩:=hK
    split at hK
    ·exact FC h (eE hb).1 hK.1 rfl (fun _=>rfl) hK.2
    ·exact skip hK
   ·exact hK.elim
  ·exact skip hK
 |shut o off=>
  simp only[KV] at hK
  split at hK
  ·split at hK
   ·rename_i bx hb
    obtain⟨row,hr,d,hd,hK⟩:=hK;exact FS h (b8 hb) hr hd (fun e=>absurd e (bG hb)) hK
   ·exact skip hK
  ·exact skip hK
 |shm is m=>
  obtain⟨t',hK⟩:=oQ hK
  split at hK
  ·split at hK
   ·rename_i bx hb
    obtain⟨fr,hK⟩:=hK
    split at hK
    ·exact FS h (eE hb).1 hK.1 rfl (fun _=>rfl) hK.2
    ·exact skip hK
   ·exact skip hK
  ·exact skip hK
theorem uN(j:Nat):∀(l:List Ob),c8 j (EX l)=true
 |[]=>rfl
 |T ::l=>by
  simp only[EX,c8,uN j l,Bool.and_true];cases T<;>rfl
theorem lA(j:Nat):∀(l:List (List Ob)),cZ j (eV l)=true
 |[]=>rfl
 |r ::l=>by simp only[eV,cZ,uN,lA j l,Bool.and_true]
theorem lB(j:Nat):∀(ks:List PV) (vs:List Ob),cZ j (rS ks vs)=true
 |[],vs=>by cases vs<;>rfl
 |_ ::_,[]=>rfl
 |k ::ks,v ::vs=>by
  simp only[rS,cZ,lB j ks vs,Bool.and_true];cases v<;>rfl
theorem l7{j:Nat}{row:List DV}(h:c8 j row=true):∀{rows:List (List DV)} {i:Nat},cZ j rows=true->cZ j (aF rows i row)=true
 |[],i,_=>by cases i<;>rfl
 |r ::rows,0,h2=>by
  simp only[aF,cZ,h,Bool.true_and];simp only[cZ,aY] at h2;exact h2.2
 |r ::rows,i+1,h2=>by
  simp only[cZ,aY] at h2;simp only[aF,cZ,h2.1,Bool.true_and];exact l7 h h2.2
theorem RK(T:Ob):KT T.dv=some T:=by cases T<;>rfl
theorem EM:∀(l:List Ob),KS (EX l)=some l
 |[]=>rfl
 |T ::l=>by simp only[EX,KS,RK,EM l]
theorem jF:∀(l:List (List Ob)),BE (eV l)=some l
 |[]=>rfl
 |r ::l=>by simp only[eV,BE,EM,jF l]
theorem iI(l:List (List Ob)):(eV l).length=l.length:=by rw[s7];simp
open Go.RowKit
variable {P:Program}
inductive C where
 |stuck
 |skip
 |reg (ops:List Ins)
 |regd (ops:List Ins)
 |rega (ops:List Ins)
 |seq (a b:C)
 |cond (c:O) (a b:C)
 |block (id:Nat) (c:C)
 |loop (fs ds:List Nat) (c:C)
 |exit (id:Nat)
 |ret
 |pre (fs zs ds:List Nat) (c:C)
 |own (i k:Nat) (ag:Bool) (c:C)
 |regx (ops:List (Ins×List Nat))
 |regm (ops:List Ins)
 |gh (g:Gh) (c:C)
 |gp (c:C) (g:Gh)
def dropB(b:List (Option Box)):List Nat->List (Option Box)
 |[]=>b
 |k ::ks=>dropB (aF b k none) ks
def rX(b:List (Option Box))(zs:List Nat)(K:List (Option Box)->Prop):Prop :=
 match zs with
 |[]=>K b
 |k ::ks=>match bF b k with
  |some bx=>c9 (aW bx.rows)=true/\rX (aF b k (some ⟨false,bx.size,aW bx.rows,bx.old⟩)) ks K
  |none=>rX b ks K
def PV.scal:PV->Bool
 | .int _ _ | .bool _ | .str _=>true
 | .fn _ []=>true
 |_=>false
def DV.scal:DV->Bool
 | .top | .tup [] | .addr _ _ _ _ | .bs _ _ _ _ _=>true
 | .p x=>x.scal
 | .fn _ caps=>caps.all fun | .addr _ _ _ _=>true | .p x=>x.scal
 |_=>false
def qW(i:Nat):Nat->List DV->Bool
 |_,[]=>true
 |j,d ::ds=>(j ==i||d.scal)&&qW i (j+1) ds
def mW:List (List DV)->Bool
 |[]=>true
 |r ::rs=>r.all DV.scal&&mW rs
def rD(k:Nat):Nat->List (Option Box)->Bool
 |_,[]=>true
 |j,x ::xs=>(j ==k||match x with|some bx=>mW bx.rows|none=>true)&&rD k (j+1) xs
def dS:List PV->List (List DV)
 |[]=>[]
 |x ::xs=>(aE x).map DV.p ::dS xs
def CW(f:St->(St->Prop)->Prop):Nat->St->Prop
 |0,_=>False
 |n+1,s=>f s (CW f n)
def vc(P:Program):C->St->(St->Prop)->(Nat->St->Prop)->(St->Prop)->Prop
 | .stuck,_,_,_,_=>False
 | .skip,s,n,_,_=>n s
 | .reg ops,s,n,_,_=>bV P ops s n
 | .regd ops,s,n,_,_=>bV P ops s n
 | .rega ops,s,n,_,_=>NC ops s=true/\bV P ops s n
 | .seq a b,s,n,x,r=>vc P a s (fun s'=>vc P b s' n x r) x r
 | .cond c a b,s,n,x,r=>match c,c.val s.t with
  | .t j,.p (.bool t)=>(t=true->vc P a ⟨aF s.t j (.p (.bool true)),s.b⟩ n x r)/\(t=false->vc P b ⟨aF s.t j (.p (.bool false)),s.b⟩ n x r)
  | .c _,.p (.bool t)=>(t=true->vc P a s n x r)/\(t=false->vc P b s n x r)
  |_,_=>False
 | .block id c,s,n,x,r=>vc P c s n (fun j s'=>if j=id then n s' else x j s') r
 | .loop fs ds c,s,_,x,r=>∃k,CW (fun s' N=>vc P c s' (fun s2=>N ⟨forget s2.t fs,dropB s2.b ds⟩) x r) k ⟨forget s.t fs,dropB s.b ds⟩
 | .exit id,s,_,x,_=>x id s
 | .ret,s,_,_,r=>r s
 | .pre fs zs ds c,s,n,x,r=>rX s.b zs fun b=>vc P c ⟨forget s.t fs,dropB b ds⟩ n x r
 | .own i k ag c,s,n,x,r=>match aT s.t i with
  | .ow size _ rows=>(decide (size≠0)&&(decide (k<s.b.length)&&(c8 k s.t&&(cK k 0 s.b&&(qW i 0 s.t&&rD k 0 s.b)))))=true/\rows≠[]/\mW (dS rows)=true/\vc P c ⟨aF s.t i (.bs k size ag 0 rows.length),aF s.b k (some ⟨true,size,dS rows,false⟩)⟩ n x r
  |_=>False
 | .regx ops,s,n,_,_=>pY P (ops.length+1) (sT 0 ops) s n
 | .regm ops,s,n,_,_=>LX ops s=true/\bV P ops s n
 | .gh g c,s,n,x,r=>KV P g s fun s'=>vc P c s' n x r
 | .gp c g,s,n,x,r=>vc P c s (fun s'=>KV P g s' n) x r
inductive TrC (P:Program):C->Code->Prop
 |stuck (x:Code):TrC P .stuck x
 |skip:TrC P .skip .skip
 |reg (id:Nat) (ops:Array Oper) (is:List Ins) (hl:ops.size=is.length) (h:∀(k:Nat) i,is[k]?=some i->∃o,ops[k]?=some o/\TrI P ops o i):TrC P (.reg is) (.region id ops false)
 |regd (id:Nat) (ops:Array Oper) (is:List Ins) (hm:P.follows .mixedOrders=true) (hl:ops.size=is.length) (h:∀(k:Nat) i,is[k]?=some i->∃o,ops[k]?=some o/\TrI P ops o i) (hp:EB ops is=true):TrC P (.regd is) (.region id ops true)
 |rega (id:Nat) (ops:Array Oper) (is:List Ins) (hm:P.follows .mixedOrders=true) (hl:ops.size=is.length) (h:∀(k:Nat) i,is[k]?=some i->∃o,ops[k]?=some o/\TrI P ops o i) (hs:YK is=true) (hp:kJ nI ops is=true):TrC P (.rega is) (.region id ops true)
 |regm (id:Nat) (ops:Array Oper) (is:List Ins) (hm:P.follows .mixedOrders=true) (hl:ops.size=is.length) (h:∀(k:Nat) i,is[k]?=some i->∃o,ops[k]?=some o/\TrI P ops o i) (hs:stM is=true) (hp:kJ nM ops is=true):TrC P (.regm is) (.region id ops true)
 |seq (a b:C) (x y:Code) (ha:TrC P a x) (hb:TrC P b y):TrC P (.seq a b) (.seq x y)
 |cond (o:O) (c:Operand) (a b:C) (x y:Code) (ho:OT c o) (ha:TrC P a x) (hb:TrC P b y):TrC P (.cond o a b) (.cond c x y)
 |block (id:Nat) (a:C) (x:Code) (ha:TrC P a x):TrC P (.block id a) (.block id x)
 |loop (fs ds:List Nat) (a:C) (x:Code) (ha:TrC P a x):TrC P (.loop fs ds a) (.loop x)
 |exit (id:Nat):TrC P (.exit id) (.exit id)
 |ret:TrC P .ret .ret
 |pre (fs zs ds:List Nat) (a:C) (x:Code) (ha:TrC P a x):TrC P (.pre fs zs ds a) x
 |own (i k:Nat) (ag:Bool) (a:C) (x:Code) (ha:TrC P a x):TrC P (.own i k ag a) x
 |gh (g:Gh) (a:C) (x:Code) (ha:TrC P a x):TrC P (.gh g a) x
 |gp (g:Gh) (a:C) (x:Code) (ha:TrC P a x):TrC P (.gp a g) x
 |regx (id:Nat) (ops:Array Oper) (l:List (Ins×List Nat)) (hm:P.follows .mixedOrders=true) (hl:ops.size=l.length) (h:∀(k:Nat) p,l[k]?=some p->∃o,ops[k]?=some o/\TrI P ops o p.1/\nK o k p.2=true):TrC P (.regx l) (.region id ops true)
def QOf(G:Gl)(n:St->Prop)(x:Nat->St->Prop)(r:St->Prop):Exit->Act->World->Prop
 | .normal,a,w=>aZ G n a w
 | .exit j,a,w=>aZ G (x j) a w
 | .ret,a,w=>aZ G r a w
 |_,_,_=>False
theorem Rel.dropB{G:Gl}{X:Cx}{a:Act}(ds:List Nat):∀{t:List DV} {b:List (Option Box)},Rel G X ⟨t,b⟩ a->Rel G X ⟨t,Vc.dropB b ds⟩ a:=by
 induction ds with
 |nil=>exact fun h=>h
 |cons k ks ih=>
  intro t b h;refine ih (b:=aF b k none) ⟨h.defers,h.size,h.tmps,fun j bx hj=>?_,h.below,h.hb,h.mold⟩
  simp only[getElem?_setL] at hj
  split at hj
  ·cases hb:b[j]?<;>rw[hb] at hj<;>simp at hj
  ·exact h.boxes j bx hj
theorem hH(rs:List (List DV)):aW rs=rs.map kW:=by induction rs with|nil=>rfl|cons r rs ih=>simp[aW,ih]
theorem Rel.fix{G:Gl}{X:Cx}{t:List DV}{b:List (Option Box)}{a:Act}(h:Rel G X ⟨t,b⟩ a){k:Nat}{bx:Box}(hk:bF b k=some bx)(hp:c9 (aW bx.rows)=true) :
  ∃X',X'.w=X.w/\Rel G X' ⟨t,aF b k (some ⟨false,bx.size,aW bx.rows,bx.old⟩)⟩ a:=by
 obtain⟨blk,cs,ty,hb⟩:=h.cbox (b8 hk) (bG hk);generalize hX:({ X with M:=fun c o=>X.M c o/\c≠blk }:Cx)=X'
 have eM:∀c o,X'.M c o↔X.M c o/\c≠blk:=by subst hX;exact fun _ _=>Iff.rfl
 have ew:X'.w=X.w:=by subst hX;rfl
 have eo:X'.own=X.own:=by subst hX;rfl
 have eρ:X'.ρ=X.ρ:=by subst hX;rfl
 have eex:X'.ex=X.ex:=by subst hX;rfl
 have hev:Ev (fun L=>L≠.box k) X X':=by
  refine⟨fun c o v hM hc=>⟨by rw[ew];exact hc,fun h=>hM ((eM c o).1 h).1⟩,fun g L hg hS _=>⟨by rw[eo];exact hg,by rw[ew],fun o hM=>(eM g o).2 ⟨hM,fun e=>?_⟩⟩,eex,fun g=>by rw[ew];exact .refl _ _⟩
  subst e;rw[hb.own] at hg;injection hg with hg
  exact hS hg.symm
 refine⟨X',ew,h.defers,h.size,fun i d hd=>(h.tmps i d hd).mono (fun _ _ _ h=>by cases h) hev (by simp) fun _ _=>by rw[eρ],?_,by rw[ew];exact h.below,by rw[ew];exact h.hb,eex.trans h.mold.1,fun c hc hx o=>?_⟩
 ·intro j bx' hj
  rcases dI hj with ⟨rfl,rfl⟩|⟨hne,hj⟩
  ·refine BX.cell (blk:=blk) (cs:=cs) (ty:=ty) (show bx.size≠0 from bG hk) ⟨by rw[eρ];exact hb.ρ,by rw[eo];exact hb.own,by rw[eex];exact hb.hbase,by rw[ew];exact hb.heap,by simpa [hH] using hb.size,?_,?_,(fun hl=>by cases hl),fun _=>⟨fun o _ hM=>((eM blk o).1 hM).2 rfl,fun row hrow d hd=>jG (gO hp hrow) hd⟩⟩
   ·intro row hrow
    rw[hH] at hrow;obtain⟨row0,hr0,rfl⟩:=List.mem_map.1 hrow;rw[j7,List.length_map];exact hb.width row0 hr0
   ·intro r o row d u hrow hd hu
    rw[hH,List.getElem?_map] at hrow
    cases hr0:bx.rows[r]? with
    |none=>rw[hr0] at hrow;simp at hrow
    |some row0=>
     rw[hr0] at hrow;simp at hrow;subst hrow;rw[j7,List.getElem?_map] at hd
     cases hd0:row0[o]? with
     |none=>rw[hd0] at hd;simp at hd
     |some d0=>
      rw[hd0] at hd;simp at hd;subst hd;obtain⟨f1,f2⟩:=hb.cells r o row0 d0 u hr0 hd0 hu;exact⟨(f1.copy (.cell j r o)).mono (fun _ _ _ h=>by cases h) hev (by simp) fun _ _=>by rw[eρ],f2⟩
  ·exact(h.boxes j bx' hj).mono (fun _ _ _ h=>by cases h) hev (by simp[hne]) (fun _ _=>by simp) (by rw[eρ]) fun _ _ _ _ _ _=>by rw[eρ]
 ·rw[eM]
  exact⟨fun h'=>(h.mold.2 c hc hx o).1 h'.1,fun h'=>⟨(h.mold.2 c hc hx o).2 h',fun e=>by subst e;exact hb.hbase.1.elim (fun h=>by omega) (fun ⟨j',h'⟩=>hx _ (by rw[<-h.mold.1];exact h'))⟩⟩
theorem Rel.fixes{G:Gl}{a:Act}{K:List (Option Box)->Prop}(zs:List Nat):∀{X:Cx} {t:List DV} {b:List (Option Box)},Rel G X ⟨t,b⟩ a->rX b zs K->∃X' b',X'.w=X.w/\Rel G X' ⟨t,b'⟩ a/\K b':=by
 induction zs with
 |nil=>exact fun {X t b} h hK=>⟨X,b,rfl,h,hK⟩
 |cons k ks ih=>
  intro X t b h hK;simp only[rX] at hK
  cases hb:bF b k with
  |none=>simp only[hb] at hK;exact ih h hK
  |some bx=>
   simp only[hb] at hK;obtain⟨X1,e1,h1⟩:=h.fix hb hK.1;obtain⟨X2,b2,e2,h2,hK2⟩:=ih h1 hK.2;exact⟨X2,b2,e2.trans e1,h2,hK2⟩
theorem nY{X X':Cx}{base:Nat}{L L':Loc}{d:DV}(hz:∀g,SzAt X.w X'.w g)(hρ:∀k b,d.ment k=true->X.ρ k=some b->X'.ρ k=some b)(hd:d.scal=true){v:Value}(h:VRel X base L d v):VRel X' base L' d v:=by
 have pv:∀{x:PV} {v:Value},x.scal=true->Flat X.M X.w x v->Flat X'.M X'.w x v:=by
  intro x v hx hf
  cases hf with
  |int k n=>exact .int k n
  |bool b=>exact .bool b
  |str s=>exact .str s
  |fn f caps vs hl hh=>
   cases caps with
   |nil=>exact .fn f [] vs hl (fun i c v hc=>by simp at hc)
   |cons c cs=>simp[PV.scal] at hx
  |_=>simp[PV.scal] at hx
 cases d with
 |top=>trivial
 |tup ds=>
  cases ds with
  |nil=>obtain⟨vs,h1,h2,_⟩:=h;exact⟨vs,h1,h2,fun j d u hd=>by simp at hd⟩
  |cons _ _=>simp[DV.scal] at hd
 |p x=>exact pv hd h
 |addr k sz r off=>obtain⟨b,h1,h2⟩:=h;exact⟨b,hρ _ _ (by simp[DV.ment]) h1,h2⟩
 |bs k sz ag lo n=>obtain⟨b,cap,h1,h2,h3,⟨cs,ty,h4,h5⟩,h6⟩:=h;obtain⟨cs2,ty2,g1,g2⟩:=hz b cs ty h4;exact⟨b,cap,hρ _ _ (by simp[DV.ment]) h1,h2,h3,⟨cs2,ty2,g1,by rw[g2];exact h5⟩,h6⟩
 |fn f caps=>
  obtain⟨vs,h1,h2,h3⟩:=h;refine⟨vs,h1,h2,fun j c u hc hu=>?_⟩
  have hcs:=List.all_eq_true.1 hd c (cD hc);have:=h3 j c u hc hu
  cases c with
  |p x=>exact pv hcs this
  |addr k sz r off=>
   obtain⟨b,h1,h2⟩:=this;exact⟨b,hρ _ _ (by simp only[DV.ment,List.any_eq_true];exact⟨_,cD hc,by simp⟩) h1,h2⟩
 |_=>simp[DV.scal] at hd
theorem H0{i:Nat}:∀{t:List DV} {j0 j:Nat} {d:DV},qW i j0 t=true->t[j]?=some d->j0+j≠i->d.scal=true:=by
 intro t
 induction t with
 |nil=>intro j0 j d _ h;simp at h
 |cons e es ih=>
  intro j0 j d h hd hne;simp only[qW,aY,Bool.or_eq_true,beq_iff_eq] at h
  cases j with
  |zero=>simp at hd;subst hd;exact h.1.resolve_left (by omega)
  |succ j=>exact ih h.2 (by simpa using hd) (by omega)
theorem pQ{rs:List (List DV)}(h:mW rs=true){r:List DV}(hr:r∈rs){d:DV}(hd:d∈r):d.scal=true:=by
 induction rs with
 |nil=>simp at hr
 |cons e es ih=>
  simp only[mW,aY,List.all_eq_true] at h;rcases List.mem_cons.1 hr with rfl|hr
  ·exact h.1 d hd
  ·exact ih h.2 hr
theorem GM{k:Nat}:∀{b:List (Option Box)} {j0 j:Nat} {bx:Box},rD k j0 b=true->b[j]?=some (some bx)->j0+j≠k->mW bx.rows=true:=by
 intro t
 induction t with
 |nil=>intro j0 j d _ h;simp at h
 |cons e es ih=>
  intro j0 j d h hd hne;simp only[rD,aY,Bool.or_eq_true,beq_iff_eq] at h
  cases j with
  |zero=>simp at hd;subst hd;exact h.1.resolve_left (by omega)
  |succ j=>exact ih h.2 (by simpa using hd) (by omega)
theorem jN(rows:List PV):dS rows=rows.map fun x=>(aE x).map DV.p:=by induction rows with|nil=>rfl|cons x xs ih=>simp[dS,ih]
theorem Rel.own{G:Gl}{X:Cx}{s:St}{a:Act}(h:Rel G X s a){i k size:Nat}{nl ag:Bool}{rows:List PV}(hi:aT s.t i=.ow size nl rows)
  (hc:(decide (size≠0)&&(decide (k<s.b.length)&&(c8 k s.t&&(cK k 0 s.b&&(qW i 0 s.t&&rD k 0 s.b)))))=true) (hne:rows≠[]) (hrs:mW (dS rows)=true) :
  ∃X',X'.w=X.w/\Rel G X' ⟨aF s.t i (.bs k size ag 0 rows.length),aF s.b k (some ⟨true,size,dS rows,false⟩)⟩ a:=by
 simp only[aY,decide_eq_true_eq] at hc;obtain⟨hsz0,hkl,hT,hB,hsT,hsB⟩:=hc;have hv:=h.get i;rw[hi] at hv;rcases hv with ⟨h0,_⟩|⟨h0,g,cap,cur,ty,g0,g1,g2,g3,g4,g5,g6⟩
 ·exact absurd h0 hne
 ·have hilt:i<s.t.length:=by
   refine Nat.lt_of_not_le fun hle=>?_
   rw[cL,List.getElem?_eq_none hle] at hi;cases hi
  have hglt:g<X.w.heap.size:=(Array.getElem?_eq_some_iff.1 g3).1;generalize hX:({ X with ρ:=(fun j=>if j=k then some g else X.ρ j),own:=(fun q=>if q=g then some (.box k) else X.own q),M:=fun b o=>X.M b o\/b=g }:Cx)=X'
  have ew:X'.w=X.w:=by subst hX;rfl
  have eex:X'.ex=X.ex:=by subst hX;rfl
  have eρk:X'.ρ k=some g:=by subst hX;simp
  have eρ:∀j,j≠k->X'.ρ j=X.ρ j:=by subst hX;intro j hj;simp[hj]
  have eog:X'.own g=some (.box k):=by subst hX;simp
  have eo:∀q,q≠g->X'.own q=X.own q:=by subst hX;intro j hj;simp[hj]
  have eM:∀b o,X'.M b o↔X.M b o\/b=g:=by subst hX;exact fun _ _=>Iff.rfl
  have hzA:∀g,SzAt X.w X'.w g:=fun g=>by rw[ew];exact .refl _ _
  rw[g0] at g5
  have hcells:∀(r o:Nat) row c u,rows[r]?=some row->(aE row)[o]?=some c->cur[r*size+o]?=some u->Flat X.M X.w c u/\c.one=true/\(aE row).length=size:=by
   intro r o row c u hr hcc hu
   cases g5 with
   |sl _ _ b off cap' cv hcap hmax hcv hs h1 hr'=>
    have hrl:=(bM.1 hr).1;have hol:=(bM.1 hcc).1;have hsz:=hs row (cD hr)
    have hlt:r*size+o<rows.length*size:=by
     have:(r+1)*size<=rows.length*size:=Nat.mul_le_mul_right _ hrl;rw[Nat.add_mul] at this;omega
    have:=(hcv (r*size+o) hlt).1;rw[Nat.zero_add,dE g3,hu] at this;injection this with this
    rw[this];exact⟨hr' r o row c hr hcc,h1 row (cD hr) c (cD hcc),hsz⟩
   |sl0=>simp at hr
  have hrow:∀row,row∈rows->(aE row).length=size:=by
   cases g5 with
   |sl _ _ b off cap' cv hcap hmax hcv hs h1 hr'=>exact hs
   |sl0=>intro row hr;simp at hr
  have hrsc:∀x,x∈rows->∀c,c∈aE x->c.scal=true:=fun x hx c hc=>by
   rw[jN] at hrs;exact pQ hrs (List.mem_map.2 ⟨x,hx,rfl⟩) (d:=.p c) (List.mem_map.2 ⟨c,hc,rfl⟩)
  have hcapm:rows.length<=cap/\cap<=maxLen:=by
   cases g5 with
   |sl _ _ b off cap' cv hcap hmax hcv hs h1 hr'=>exact⟨hcap,hmax⟩
   |sl0=>exact⟨Nat.zero_le _,Nat.zero_le _⟩
  refine⟨X',ew,h.defers,by simpa [aI] using h.size,?_,?_,by rw[ew];exact h.below,by rw[ew];exact h.hb,eex.trans h.mold.1,fun b hb hx o=>?_⟩
  ·intro j d hd
   simp only[getElem?_setL] at hd
   split at hd
   ·rename_i e
    subst e;rw[List.getElem?_eq_getElem hilt] at hd;simp only[Option.map_some,bQ] at hd;subst hd;exact⟨g,cap,eρk,hcapm.1,hcapm.2,⟨cur,ty,by rw[ew];exact g3,by rw[g4];simp⟩,by simpa using g0⟩
   ·rename_i hne'
    have hm:=i9 hT hd;exact nY hzA (fun k' b hk' hb=>(eρ k' (fun e=>by rw[e,hm] at hk';cases hk')).trans hb) (H0 hsT hd (by omega)) (h.tmps j d hd)
  ·intro j bx hj
   rcases dI hj with ⟨rfl,rfl⟩|⟨hne',hj⟩
   ·refine BX.cell (blk:=g) (cs:=cur) (ty:=ty) hsz0 ⟨eρk,eog,⟨.inl g2,fun h=>by cases h⟩,by rw[ew];exact g3,?_,fun row hrow'=>?_,fun r o row d u hr hd hu=>?_,fun _ o=>(eM g o).2 (.inr rfl),fun hl=>by cases hl⟩
    ·rw[g4,jN,List.length_map];exact Nat.mul_le_mul_right _ hcapm.1
    ·simp only[jN] at hrow'
     obtain⟨x,hx,rfl⟩:=List.mem_map.1 hrow'
     simpa using hrow x hx
    ·simp only[jN,List.getElem?_map] at hr
     cases hx:rows[r]? with
     |none=>rw[hx] at hr;simp at hr
     |some x=>
      rw[hx] at hr;simp only[Option.map_some,bQ] at hr;subst hr;rw[List.getElem?_map] at hd
      cases hc:(aE x)[o]? with
      |none=>rw[hc] at hd;simp at hd
      |some c=>
       rw[hc] at hd;simp only[Option.map_some,bQ] at hd;subst hd;obtain⟨f1,f2,_⟩:=hcells r o x c u hx hc hu;have hsc:=hrsc x (cD hx) c (cD hc);exact⟨nY (X:=X) (base:=G.base) (L:=.tmp 0) (d:=.p c) hzA (fun _ _ hm=>by simp[DV.ment] at hm) hsc f1,Flat.oneCell f1 f2⟩
   ·have hnr:=hU hB hj (by omega)
    have hsr:=GM hsB hj (by omega)
    have hBX:=h.boxes j bx hj;unfold BX at hBX ⊢
    split
    ·rename_i hs0
     rw[if_pos hs0] at hBX;obtain⟨blk,es,clock,m1,m2,m3,m4,m5,m6,m0,m7⟩:=hBX;have hbg:blk≠g:=fun e=>by rw[e,g1] at m2;cases m2
     refine⟨blk,es,clock,by rw[eρ j hne'];exact m1,(eo blk hbg).trans m2,by rw[eex];exact m3,by rw[ew];exact m4,m5,fun o=>(eM blk o).2 (.inl (m6 o)),m0,fun i row e hi he=>?_⟩
     obtain⟨q0,n0,d0,f1,f2,f3⟩:=m7 i row e hi he;have hsc:=pQ hsr (cD hi) (d:=d0) (by rw[f1];simp)
     have hm:=f9 hnr (cD hi) (d:=d0) (by rw[f1];simp)
     exact⟨q0,n0,d0,f1,f2,nY hzA (fun k' b hk' hb=>(eρ k' (fun e=>by rw[e,hm] at hk';cases hk')).trans hb) hsc f3⟩
    ·rename_i hs0
     rw[if_neg hs0] at hBX;obtain⟨blk,cs,ty',hb⟩:=hBX;have hbg:blk≠g:=fun e=>by have:=hb.own;rw[e,g1] at this;cases this
     refine⟨blk,cs,ty',by rw[eρ j hne'];exact hb.ρ,(eo blk hbg).trans hb.own,by rw[eex];exact hb.hbase,by rw[ew];exact hb.heap,hb.size,hb.width,fun r o row d u hr hd hu=>?_,fun hl o=>(eM blk o).2 (.inl (hb.live hl o)),fun hl=>?_⟩
     ·obtain⟨f1,f2⟩:=hb.cells r o row d u hr hd hu
      have hm:=f9 hnr (cD hr) (cD hd);exact⟨nY hzA (fun k' b hk' hb=>(eρ k' (fun e=>by rw[e,hm] at hk';cases hk')).trans hb) (pQ hsr (cD hr) (cD hd)) f1,f2⟩
     ·obtain⟨f1,f2⟩:=hb.fixed hl
      exact⟨fun o ho hM=>((eM blk o).1 hM).elim (f1 o ho) hbg,f2⟩
  ·rw[eM]
   exact⟨fun h'=>h'.elim (h.mold.2 b hb hx o).1 (fun e=>by omega),fun h'=>.inl ((h.mold.2 b hb hx o).2 h')⟩
theorem HZ{G:Gl}{c:C}{x:Code}(ht:TrC P c x):∀{n:St->Prop} {xx:Nat->St->Prop} {r:St->Prop} {s:St} {X:Cx} {a:Act},Rel G X s a->vc P c s n xx r->x.wp P (QOf G n xx r) a X.w:=by
 induction ht with
 |stuck x=>exact fun {n xx r s X a} h hK=>hK.elim
 |skip=>exact fun {n xx r s X a} h hK=>wp_skip ⟨s,X,h,rfl,hK⟩
 |reg id ops is hl htr=>exact fun {n xx r s X a} h hK=>zZ hl htr (fun s X a h hk=>⟨s,X,h,rfl,hk⟩) h hK
 |regd id ops is hm hl htr hp=>exact fun {n xx r s X a} h hK=>CY hm hl htr hp (fun s X a h hk=>⟨s,X,h,rfl,hk⟩) h hK
 |regx id ops l hm hl htr=>exact fun {n xx r s X a} h hK=>D4 hm hl htr (fun s X a h hk=>⟨s,X,h,rfl,hk⟩) h hK
 |rega id ops is hm hl htr hs hp=>exact fun {n xx r s X a} h hK=>C0 hm hl htr hp (fun s X a h hk=>⟨s,X,h,rfl,hk⟩) h (MS hs hK.1) hK.2
 |regm id ops is hm hl htr hs hp=>exact fun {n xx r s X a} h hK=>CF hm hl htr hp (fun s X a h hk=>⟨s,X,h,rfl,hk⟩) h (LN hs hK.1) hK.2
 |seq a b x y _ _ iha ihb=>
  intro n xx r s X a h hK;refine wp_seq (wp_mono (iha h hK) fun e a' w' hq=>?_)
  cases e with
  |normal=>
   obtain⟨s',X',h',e',k'⟩:=hq;subst e';exact ihb h' k'
  |_=>exact hq
 |cond o c a b x y ho _ _ iha ihb=>
  intro n xx r s X a h hK;obtain⟨L,hv⟩:=h.opnd ho;simp only[vc] at hK
  cases o with
  |t j=>
   simp only[O.val] at hv hK;generalize hg:aT s.t j=dv at *
   cases dv with
   |p z=>
    cases z with
    |bool t=>
     simp only at hK;have hb:=Flat.boolv hv;refine wp_cond_split hb (fun e=>?_) (fun e=>?_)
     ·subst e
      have hc:c=.tmp j:=by cases ho;rfl
      subst hc;exact iha (h.weak j (.p (.bool true)) hv) (hK.1 rfl)
     ·subst e
      have hc:c=.tmp j:=by cases ho;rfl
      subst hc;exact ihb (h.weak j (.p (.bool false)) hv) (hK.2 rfl)
    |_=>exact hK.elim
   |_=>exact hK.elim
  |c d=>
   simp only[O.val] at hv hK
   cases d with
   |p z=>
    cases z with
    |bool t=>
     simp only at hK;have hb:=Flat.boolv hv;exact wp_cond_split hb (fun e=>iha h (hK.1 e)) (fun e=>ihb h (hK.2 e))
    |_=>exact hK.elim
   |_=>exact hK.elim
 |block id a x _ iha=>
  intro n xx r s X a h hK;refine wp_block (wp_mono (iha h hK) fun e a' w' hq=>?_)
  cases e with
  |exit j=>
   obtain⟨s',X',h',e',k'⟩:=hq;simp only[Exit.inBlock]
   by_cases hj:j=id
   ·subst hj
    rw[if_pos rfl] at k' ⊢;exact⟨s',X',h',e',k'⟩
   ·rw[if_neg hj] at k' ⊢
    exact⟨s',X',h',e',k'⟩
  |_=>exact hq
 |loop fs ds c x _ ih=>
  intro n xx r s X a h hK;obtain⟨k,hK⟩:=hK;have h':=(h.forget fs (t:=s.t) (b:=s.b)).dropB ds;refine wp_loop_rounds k ?_;clear h;generalize (⟨Vc.forget s.t fs,Vc.dropB s.b ds⟩:St)=s0 at *
  induction k generalizing s0 X a with
  |zero=>exact hK.elim
  |succ k ihk=>
   rw[rounds_succ];refine wp_mono (ih h' hK) fun e a' w' hq=>?_
   cases e with
   |normal=>
    obtain⟨s',X',h',e',k'⟩:=hq;subst e';exact ihk _ k' ((h'.forget fs (t:=s'.t) (b:=s'.b)).dropB ds)
   |_=>exact hq
 |exit id=>exact fun {n xx r s X a} h hK=>wp_exit ⟨s,X,h,rfl,hK⟩
 |ret=>exact fun {n xx r s X a} h hK=>wp_ret ⟨s,X,h,rfl,hK⟩
 |own i k ag c x _ iha=>
  intro n xx r s X a h hK;simp only[vc] at hK;generalize hg:aT s.t i=dv at *
  cases dv with
  |ow size nl rows=>
   obtain⟨h1,h2,h3,hK⟩:=hK;obtain⟨X',e',h'⟩:=h.own hg h1 h2 h3;rw[<-e'];exact iha h' hK
  |_=>exact hK.elim
 |gp g c x _ iha=>
  intro n xx r s X a h hK;refine wp_mono (iha h hK) fun e a' w' hq=>?_
  cases e with
  |normal=>
   obtain⟨s',X',h',e',k'⟩:=hq;obtain⟨X2,s2,e2,h2,k2⟩:=O6 h' k';exact⟨s2,X2,h2,e2.trans e',k2⟩
  |_=>exact hq
 |gh g c x _ iha=>
  intro n xx r s X a h hK;obtain⟨X',s',e',h',k'⟩:=O6 h hK;rw[<-e'];exact iha h' k'
 |pre fs zs ds a x _ iha=>
  intro n xx r s X a h hK;obtain⟨X',b',e',h',k'⟩:=Rel.fixes zs (t:=s.t) (b:=s.b) h hK;rw[<-e'];exact iha ((h'.forget fs).dropB ds) k'
open Go.RowKit
variable {P:Program}
inductive RV where
 |tmp (t:Nat)
 |cell (t n:Nat)
def T8(b:List (Option Box))(K:TV->Prop):DV->Prop
 | .p x=>K (.p x)
 | .ow size n rows=>K (.ow size n rows)
 |d=>match d.frz b with
  |some x=>K (.p x)
  |none=>False
def w8(s:St)(K:TV->Prop):RV->Prop
 | .tmp t=>T8 s.b K (aT s.t t)
 | .cell t n=>match aT s.t t with
  | .addr k sz r off=>match bF s.b k with
   |some bx=>sz=bx.size/\∃row,bx.rows[r]?=some row/\off+n<=row.length/\match cH (eW row off n) with
    |some cs=>K (.p (.agg cs))
    |none=>False
   |none=>False
  |_=>False
def gE(s:St):List RV->(List TV->Prop)->Prop
 |[],K=>K []
 |r ::rs,K=>w8 s (fun x=>gE s rs fun xs=>K (x ::xs)) r
def cN:List TV->DV
 |[x]=>x.dv
 |xs=>.tup xs
def NW(n nb:Nat)(args:List PV):St:=⟨args.map .p++List.replicate (n-args.length) .top,List.replicate nb none⟩
inductive RVs (P:Program):List ResultVar->List RV->Prop
 |nil:RVs P [] []
 |tmp (t:Nat) (rs:List ResultVar) (l:List RV) (h:RVs P rs l):RVs P (.tmp t ::rs) (.tmp t ::l)
 |cell (t n:Nat) (ty:TypeId) (rs:List ResultVar) (l:List RV) (ht:TyIs P ty n true) (h:RVs P rs l):RVs P (.cell t ty ::rs) (.cell t n ::l)
def dX:RV->Loc
 | .tmp t=>.tmp t
 | .cell t _=>.comp (.tmp t) 0
theorem M9{G:Gl}{X:Cx}{s:St}{a:Act}(h:Rel G X s a){t:TypeId}{n:Nat}(ht:TyIs P t n true){v:Value}{k sz r off:Nat}{L0:Loc}(rx:VRel X G.base L0 (.addr k sz r off) v)
  {bx:Box} (hbk:bF s.b k=some bx) (hsz:sz=bx.size) {row:List DV} (hr:bx.rows[r]?=some row) (hle:off+n<=row.length) {xs:List PV} (hp:cH (eW row off n)=some xs) :
  ∃u,(do loadVar t (<-asAddr v):Sem Value).run P X.w=.ok u X.w/\Flat X.M X.w (.agg xs) u:=by
 obtain⟨blk,hρ,ev⟩:=rx;subst hsz;have hbk':=b8 hbk;obtain⟨blk',cs,ty,hb⟩:=h.cbox hbk' (bG hbk);have:blk'=blk:=by have:=hb.ρ;rw[hρ] at this;injection this with h;exact h.symm
 subst this;obtain⟨e1,e2⟩:=lR hp
 have hcell:∀j,j<n->∃u,X.w.cell? ⟨blk',r*bx.size+off+j,none⟩=some u/\VRel X G.base (.cell k r (off+j)) (row[off+j]?.getD .top) u/\u.oneCell'=true:=by
  intro j hj;obtain⟨u,_,h2,h3,h4⟩:=hb.cell hr (i:=off+j) (by omega)
  refine⟨u,by rw[Nat.add_assoc];exact h2,?_,h4⟩
  rw[List.getElem?_eq_getElem (by omega)]
  exact h3
 have hf:∃f:Nat->Value,∀j,j<n->X.w.cell? ⟨blk',r*bx.size+off+j,none⟩=some (f j)/\VRel X G.base (.cell k r (off+j)) (row[off+j]?.getD .top) (f j)/\(f j).oneCell'=true:=by
  refine⟨fun j=>if hj:j<n then (hcell j hj).choose else undef,fun j hj=>?_⟩
  simp only[dif_pos hj];exact(hcell j hj).choose_spec
 obtain⟨f,hf⟩:=hf;have hlen:xs.length=n:=by rw[e1,iX];simp;omega
 have hcs:∀(i:Nat) c,xs[i]?=some c->i<n/\Flat X.M X.w c (f i)/\c.one=true:=by
  intro i c hc;have hin:i<n:=by rw[<-hlen];exact(bM.1 hc).1
  have hd:(eW row off n)[i]?=some (row[off+i]?.getD .top):=by
   rw[iX,List.getElem?_take,if_pos hin,List.getElem?_drop,List.getElem?_eq_getElem (by omega)];rfl
  have hpv:=e2 i _ c hd hc;have:=EJ (hf i hin).2.1 hpv;exact⟨hin,this,this.one_of_cell (hf i hin).2.2⟩
 have run:=run_loadCells (P:=P) X.w ⟨blk',r*bx.size+off,none⟩ n f (fun j hj=>by rw[Addr.add_lit];exact(hf j hj).1)
 refine⟨.agg ((List.range n).map f).toArray,?_,.agg _ _ (by simp[hlen]) ?_ ?_⟩
 ·subst ev
  simp[asAddr,loadVar,ht.run_isAgg,ht.run_sizeOf,run]
 ·intro c hc
  obtain⟨i,hi⟩:=List.getElem?_of_mem hc;exact(hcs i c hi).2.2
 ·intro i c u hc hu
  obtain⟨hin,h1,_⟩:=hcs i c hc;have:u=f i:=by simpa [hin,eq_comm] using hu
  subst this;exact h1
theorem xX{G:Gl}{X:Cx}{s:St}{a:Act}(h:Rel G X s a){rs:List ResultVar}{l:List RV}(hr:RVs P rs l):∀{K:List TV->Prop},gE s l K ->
  ∃xs:List TV,∃vs:List Value,K xs/\xs.length=l.length/\vs.length=l.length /\
   (∀f:ResultVar->Sem Value,(∀u,f (.tmp u)=pure (a.tmps.getD u undef))->(∀p t,f (.cell p t)=(do loadVar t (<-asAddr (a.tmps.getD p undef))))->(rs.mapM f).run P X.w=.ok vs X.w) /\
   ∀(j:Nat) d u rv,xs[j]?=some d->vs[j]?=some u->l[j]?=some rv->TRel X G.base (dX rv) d u:=by
 induction hr with
 |nil=>exact fun {K} hK=>⟨[],[],hK,rfl,rfl,fun f _ _=>by simp,fun j d u rv hd=>by simp at hd⟩
 |tmp t rs l _ ih=>
  intro K hK;simp only[gE,w8] at hK;obtain⟨hv⟩:Nonempty (VRel X G.base (.tmp t) (aT s.t t) (a.tmps.getD t undef)):=⟨h.get t⟩
  have key:∃d:TV,TRel X G.base (.tmp t) d (a.tmps.getD t undef)/\gE s l (fun xs=>K (d ::xs)):=by
   generalize hg:aT s.t t=dv at *
   have other:∀{dv:DV},VRel X G.base (.tmp t) dv (a.tmps.getD t undef)->(match dv.frz s.b with|some x=>gE s l (fun xs=>K (.p x ::xs))|none=>False)->∃d:TV,TRel X G.base (.tmp t) d (a.tmps.getD t undef)/\gE s l (fun xs=>K (d ::xs)):=by
    intro dv hv hm
    cases hf:dv.frz s.b with
    |none=>rw[hf] at hm;exact hm.elim
    |some x=>rw[hf] at hm;exact⟨.p x,frz h hv hf,hm⟩
   cases dv with
   |p x=>exact⟨.p x,hv,hK⟩
   |ow size n rows=>exact⟨.ow size n rows,hv,hK⟩
   |top=>exact other hv hK
   |tup ds=>exact other hv hK
   |addr k size r off=>exact other hv hK
   |bs k size ag lo n=>exact other hv hK
   |mh k=>exact other hv hK
   |ob T=>exact other hv hK
   |pk o=>exact other hv hK
   |agd cs=>exact other hv hK
   |fn f caps=>exact other hv hK
  obtain⟨d,hd,hK⟩:=key;obtain⟨xs,vs,k1,k2,k3,k4,k5⟩:=ih hK;refine⟨d ::xs,a.tmps.getD t undef ::vs,k1,by simp[k2],by simp[k3],fun f h1 h2=>by simp[List.mapM_cons,h1,k4 f h1 h2],fun j e u rv he hu hrv=>?_⟩
  cases j with
  |zero=>simp only[List.getElem?_cons_zero,bQ] at he hu hrv;subst he;subst hu;subst hrv;exact hd
  |succ j=>exact k5 j e u rv (by simpa using he) (by simpa using hu) (by simpa using hrv)
 |cell t n ty rs l ht _ ih=>
  intro K hK;simp only[gE,w8] at hK;have hv:=h.get t;generalize hg:aT s.t t=dv at *
  cases dv with
  |addr k sz r off=>
   simp only at hK
   cases hbk:bF s.b k with
   |none=>simp[hbk] at hK
   |some bx=>
    simp only[hbk] at hK;obtain⟨hsz,row,hrow,hle,hK⟩:=hK
    cases hp:cH (eW row off n) with
    |none=>simp[hp] at hK
    |some cs=>
     simp only[hp] at hK;obtain⟨u,e1,e2⟩:=M9 h ht hv hbk hsz hrow hle hp;obtain⟨xs,vs,k1,k2,k3,k4,k5⟩:=ih hK;refine⟨.p (.agg cs) ::xs,u ::vs,k1,by simp[k2],by simp[k3],fun f h1 h2=>?_,fun j e v rv he hu hrv=>?_⟩
     ·rw[List.mapM_cons,h2,Sem.run_bind,e1]
      simp[k4 f h1 h2]
     ·cases j with
      |zero=>simp at he hu hrv;subst he;subst hu;subst hrv;exact e2
      |succ j=>exact k5 j e v rv (by simpa using he) (by simpa using hu) (by simpa using hrv)
  |_=>exact hK.elim
def handOver(ls:List Loc)(X:Cx):Cx :=
 {X with own:=fun g=>match X.own g with
   |some L=>(ls.idxOf? L).map fun j=>if ls.length=1 then .tmp 0 else .comp (.tmp 0) j
   |none=>none }
theorem idxOf?_get{ls:List Loc}(hn:ls.Nodup){j:Nat}{L:Loc}(h:ls[j]?=some L):ls.idxOf? L=some j:=by
 induction ls generalizing j with
 |nil=>simp at h
 |cons x xs ih=>
  rw[List.nodup_cons] at hn
  cases j with
  |zero=>simp at h;subst h;simp[List.idxOf?_cons]
  |succ j=>
   simp at h;have hx:x≠L:=by intro e;subst e;exact hn.1 (cD h)
   simp[List.idxOf?_cons,hx,ih hn.2 h]
theorem TRel.handOver{X:Cx}{base:Nat}{ls:List Loc}(hn:ls.Nodup){j:Nat}{L:Loc}(hj:ls[j]?=some L){d:TV}{v:Value}(h:TRel X base L d v) :
  TRel (Vc.handOver ls X) base (if ls.length=1 then .tmp 0 else .comp (.tmp 0) j) d v:=by
 cases d with
 |p x=>exact h
 |ow size n rows=>
  rcases h with h|⟨h0,g,cap,cur,ty,g0,g1,g2,g3,g4,g5,g6⟩
  ·exact .inl h
  ·refine .inr ⟨h0,g,cap,cur,ty,g0,?_,g2,g3,g4,g5,g6⟩
   show (match X.own g with|some L=>_|none=>none)=_
   rw[g1];simp only;rw[idxOf?_get hn hj];rfl
theorem EE{X:Cx}{base:Nat}{L:Loc}{d:TV}{v:Value}(h:TRel X base L d v):VRel X base L d.dv v:=by cases d<;>exact h
theorem uA{n:Nat}(args:Array Value)(i:Nat):(args++Array.replicate (n-args.size) undef).getD i undef=if h:i<args.size then args[i] else undef:=by
 by_cases h:i<args.size
 ·rw[dif_pos h];simp[Array.getD,Array.getElem_append,h];omega
 ·rw[dif_neg h]
  simp[Array.getD,Array.getElem_append,h]
theorem DA{f:FuncId}{fn:Func}{code:Code}{c:C}{nb:Nat}{args:List PV}{r:DV}{rvs:List RV}(hf:P.funcs[f]?=some fn)(hb:fn.body=some code)(hn:fn.name ≠ "runtime.NumGoroutine")
  (ht:TrC P c code) (hr:RVs P fn.results.toList rvs) (hnd:(rvs.map dX).Nodup) (hrp:r.plain=true)
  (hv:vc P c (NW fn.ntmps nb args) (fun s=>gE s rvs fun xs=>cN xs=r) (fun _ _=>False) (fun s=>gE s rvs fun xs=>cN xs=r)):aB P f args r:=by
 refine⟨hrp,fun M0 w cargs hl hc=>.inl ⟨⟨fn,hf,by rw[hb];rfl,hn⟩,?_⟩⟩
 ·refine calls_of_wp hf hb ?_
  generalize hX:({ ρ:=fun _=>none,own:=fun _=>none,M:=M0,w:=w,ex:=fun _=>none }:Cx)=X
  have hrel:Rel ⟨w.heap.size,M0,w,fun _=>none⟩ X (NW fn.ntmps nb args) { tmps:=cargs++Array.replicate (fn.ntmps-cargs.size) undef,defers:=[] }:=by
   subst hX;refine⟨rfl,?_,fun i d hd=>?_,fun k bx hk=>?_,BelowX.refl _ _ _,Nat.le_refl _,rfl,fun b _ _ o=>Iff.rfl⟩
   ·simp[NW,hl]
   ·simp only[uA]
    simp only[NW] at hd;rw[List.getElem?_append] at hd;simp only[List.length_map] at hd
    by_cases hi:i<args.length
    ·rw[if_pos hi,List.getElem?_map] at hd
     rw[dif_pos (by omega)]
     cases hx:args[i]? with
     |none=>rw[hx] at hd;simp at hd
     |some x=>
      rw[hx] at hd;simp at hd;subst hd;exact hc i x _ hx (by simp[hl,hi])
    ·rw[if_neg hi] at hd
     have:=cD hd;simp at this;rw[this.2];trivial
   ·simp only[NW] at hk
    have:=cD hk;simp at this
  have fin:∀a w',aZ ⟨w.heap.size,M0,w,fun _=>none⟩ (fun s=>gE s rvs fun xs=>cN xs=r) a w'->bodyPost P fn (fun e w'=>∃v X,e=.returned v/\X.w=w'/\VRel X w.heap.size (.tmp 0) r v/\(∀b,b<w.heap.size->∀o,X.M b o↔M0 b o)/\Below w.heap.size w w') .ret a w':=by
   intro a w' ⟨s,X',h',e',hK⟩;subst e';obtain⟨xs,vs,k1,k2,k3,k4,k5⟩:=xX h' hr hK;subst k1
   have hres:(results fn a.tmps).run P X'.w=.ok (if h:vs.toArray.size=1 then vs.toArray[0] else .tuple vs.toArray) X'.w:=by
    unfold results;rw[<-Array.toArray_toList (xs:=fn.results),List.mapM_toArray];simp only[Sem.run_bind,Sem.run_map];rw[k4 _ (fun _=>rfl) (fun _ _=>rfl)]
    rfl
   refine⟨h'.defers,_,hres,_,handOver (rvs.map dX) X',rfl,rfl,?_,fun b hb o=>h'.mold.2 b hb (fun _ h=>by cases h) o,h'.below.below fun _=>rfl⟩
   have hloc:∀(j:Nat) d u,xs[j]?=some d->vs[j]?=some u->TRel (handOver (rvs.map dX) X') w.heap.size (if (rvs.map dX).length=1 then .tmp 0 else .comp (.tmp 0) j) d u:=by
    intro j d u hd hu;have hj:j<rvs.length:=by rw[<-k2];exact(bM.1 hd).1
    have hrv:rvs[j]?=some rvs[j]:=by simp[hj]
    exact TRel.handOver hnd (j:=j) (by rw[List.getElem?_map,hrv];rfl) (k5 j d u _ hd hu hrv)
   match xs,vs,k2,k3,hloc with
   |[x],[v],k2,k3,hloc=>
    have:=hloc 0 x v rfl rfl;simp at k2;rw[if_pos (by simp[<-k2])] at this
    exact EE this
   |[],[],k2,k3,hloc=>exact⟨#[],by simp,by simp,fun j d u hd=>by simp at hd⟩
   |x ::y ::xs,vs,k2,k3,hloc=>
    have hvl:vs.length=xs.length+2:=by rw[k3, <-k2];rfl
    refine⟨vs.toArray,by simp[hvl],by simp[hvl],fun j d u hd hu=>?_⟩
    have:=hloc j d u hd (by simpa using hu)
    rw[if_neg (by simp[<-k2])] at this
    exact this
   |[x],[],k2,k3,_=>simp at k2 k3;omega
   |[x],_ ::_ ::_,k2,k3,_=>simp at k2 k3;omega
   |[],_ ::_,k2,k3,_=>simp at k2 k3;omega
  have e0:X.w=w:=by subst hX;rfl
  have hwp:=HZ ht hrel hv;rw[e0] at hwp;refine wp_mono hwp fun e a w' hq=>?_
  cases e with
  |normal=>exact fin a w' hq
  |ret=>exact fin a w' hq
  |exit j=>obtain⟨_,_,_,_,h⟩:=hq;exact h.elim
  |_=>exact hq.elim
def Z5(nb:Nat):DV->DV
 | .bs _ sz ag lo n=>.bs nb sz ag lo n
 | .addr _ sz r o=>.addr nb sz r o
 |d=>d
def P7(n nb:Nat)(args:List DV)(size:Nat)(rows:List (List DV)):St :=
 ⟨args.map (Z5 nb)++List.replicate (n-args.length) .top,List.replicate nb none++[some ⟨true,size,rows,true⟩]⟩
def DV.arg:DV->Bool
 | .p _=>true
 | .bs k _ _ _ _ | .addr k _ _ _=>k ==0
 |_=>false
theorem AS{f:FuncId}{fn:Func}{code:Code}{c:C}{nb size:Nat}{args:List DV}{rows rows':List (List DV)}{r:DV}{rvs:List RV}(hf:P.funcs[f]?=some fn)(hb:fn.body=some code)(hn:fn.name ≠ "runtime.NumGoroutine")
  (ht:TrC P c code) (hr:RVs P fn.results.toList rvs) (hnd:(rvs.map dX).Nodup) (hrp:r.plain=true) (hrows:c9 rows=true) (hrows':c9 rows'=true) (hargs:args.all DV.arg=true) (hsz0:size≠0)
  (hv:vc P c (P7 fn.ntmps nb args size rows) (fun s=>bF s.b nb=some ⟨true,size,rows',true⟩/\gE s rvs fun xs=>cN xs=r) (fun _ _=>False) (fun s=>bF s.b nb=some ⟨true,size,rows',true⟩/\gE s rvs fun xs=>cN xs=r)):EU P f size args rows rows' r:=by
 refine⟨⟨fn,hf,by rw[hb];rfl,hn⟩,hrp,hrows',fun M0 w cargs blk cs ty hl hbx hc=>?_⟩
 ·refine calls_of_wp hf hb ?_
  have hlt:blk<w.heap.size:=(Array.getElem?_eq_some_iff.1 hbx.heap).1;generalize hX:({ ρ:=fun i=>if i=nb then some blk else none,own:=fun g=>if g=blk then some (.box nb) else none,M:=M0,w:=w,ex:=fun i=>if i=nb then some blk else none }:Cx)=X
  have hXM:X.M=M0:=by subst hX;rfl
  have hXw:X.w=w:=by subst hX;rfl
  have hXρ:X.ρ nb=some blk:=by subst hX;simp
  have hpv:∀{L:Loc} {x:PV} {v:Value},VRel (FY M0 w blk) w.heap.size L (.p x) v->Flat M0 w x v:=fun h=>h
  have hrel:Rel ⟨w.heap.size,M0,w,fun i=>if i=nb then some blk else none⟩ X (P7 fn.ntmps nb args size rows) { tmps:=cargs++Array.replicate (fn.ntmps-cargs.size) undef,defers:=[] }:=by
   refine⟨rfl,?_,fun i d hd=>?_,fun k bx hk=>?_,by rw[hXw];exact BelowX.refl _ _ _,by rw[hXw];exact Nat.le_refl _,by subst hX;rfl,fun b _ _ o=>by rw[hXM]⟩
   ·simp[P7,hl]
   ·simp only[uA]
    simp only[P7] at hd;rw[List.getElem?_append] at hd;simp only[List.length_map] at hd
    by_cases hi:i<args.length
    ·rw[if_pos hi,List.getElem?_map] at hd
     rw[dif_pos (by omega)]
     cases hx:args[i]? with
     |none=>rw[hx] at hd;simp at hd
     |some x=>
      rw[hx] at hd;simp only[Option.map_some,bQ] at hd;subst hd;have hv:=hc i x cargs[i] hx (by simp[hl,hi])
      have ha:=List.all_eq_true.1 hargs x (cD hx)
      cases x with
      |p x=>show Flat X.M X.w x _;rw[hXM,hXw];exact hv
      |bs k sz ag lo n=>
       obtain⟨b,cap,e1,e2,e3,e5,e4⟩:=hv;simp only[DV.arg,beq_iff_eq] at ha;subst ha;simp only[FY,if_pos,bQ] at e1;exact⟨b,cap,by rw[hXρ,e1],e2,e3,by rw[hXw];exact e5,e4⟩
      |addr k sz r o=>
       obtain⟨b,e1,e2⟩:=hv;simp only[DV.arg,beq_iff_eq] at ha;subst ha;simp only[FY,if_pos,bQ] at e1;exact⟨b,by rw[hXρ,e1],e2⟩
      |_=>simp[DV.arg] at ha
    ·rw[if_neg hi] at hd
     have:=cD hd;simp at this;rw[this.2];trivial
   ·simp only[P7] at hk
    rw[List.getElem?_append] at hk
    split at hk
    ·have:=cD hk
     simp at this
    ·rename_i hk'
     simp only[List.length_replicate] at hk hk'
     have hk0:k=nb:=by
      have:=(bM.1 hk).1;simp at this;omega
     subst hk0;simp only[Nat.sub_self,List.getElem?_cons_zero,bQ] at hk;subst hk;refine BX.cell (blk:=blk) (cs:=cs) (ty:=ty) hsz0 ⟨hXρ,by subst hX;simp,⟨.inr ⟨k,by subst hX;simp⟩,fun _=>by subst hX;simp⟩,by rw[hXw];exact hbx.heap,hbx.size,hbx.width,fun r o row d u h1 h2 h3=>?_,fun _ o=>by rw[hXM];exact hbx.live rfl o,fun h=>by cases h⟩
     obtain⟨f1,f2⟩:=hbx.cells r o row d u h1 h2 h3;have hdp:=jG (gO hrows (cD h1)) (cD h2)
     cases d with
     |p x=>exact⟨by show Flat X.M X.w x u;rw[hXM,hXw];exact f1,f2⟩
     |_=>simp[DV.isP] at hdp
  have fin:∀a w',aZ ⟨w.heap.size,M0,w,fun i=>if i=nb then some blk else none⟩ (fun s=>bF s.b nb=some ⟨true,size,rows',true⟩/\gE s rvs fun xs=>cN xs=r) a w'->bodyPost P fn (fun e w'=>∃v X cs' ty',e=.returned v/\X.w=w'/\VRel X w.heap.size (.tmp 0) r v/\BoxRel X w.heap.size 0 ⟨true,size,rows',true⟩ blk cs' ty' /\
    (∀b,b<w.heap.size->b≠blk->∀o,X.M b o↔M0 b o)/\BelowX (fun i=>if i=0 then some blk else none) w.heap.size w w') .ret a w':=by
   intro a w' ⟨s,X',h',e',hbx',hK⟩;subst e';obtain⟨xs,vs,k1,k2,k3,k4,k5⟩:=xX h' hr hK;subst k1
   have hres:(results fn a.tmps).run P X'.w=.ok (if h:vs.toArray.size=1 then vs.toArray[0] else .tuple vs.toArray) X'.w:=by
    unfold results;rw[<-Array.toArray_toList (xs:=fn.results),List.mapM_toArray];simp only[Sem.run_bind,Sem.run_map];rw[k4 _ (fun _=>rfl) (fun _ _=>rfl)]
    rfl
   obtain⟨blk',cs',ty',hb'⟩:=h'.cbox (b8 hbx') hsz0
   have hblk:blk'=blk:=by
    have h1:=hb'.hbase.2 rfl;rw[h'.mold.1] at h1;simp only[if_pos,bQ] at h1;exact h1.symm
   subst hblk;generalize hY:handOver (rvs.map dX) X'=Y
   have hYo:Y.own blk'=none:=by
    subst hY
    show (match X'.own blk' with|some L=>_|none=>none)=none
    rw[hb'.own];simp only
    have:(rvs.map dX).idxOf? (.box nb)=none:=by
     rw[List.idxOf?_eq_none_iff];intro hm;obtain⟨rv,_,e⟩:=List.mem_map.1 hm;cases rv<;>simp[dX] at e
    rw[this];rfl
   have hYM:Y.M=X'.M:=by subst hY;rfl
   have hYw:Y.w=X'.w:=by subst hY;rfl
   generalize hZ:({ Y with ρ:=fun i=>if i=0 then some blk' else none,own:=fun g=>if g=blk' then some (.box 0) else Y.own g,ex:=fun i=>if i=0 then some blk' else none }:Cx)=Z
   have hZM:Z.M=X'.M:=by subst hZ;exact hYM
   have hZw:Z.w=X'.w:=by subst hZ;exact hYw
   have hZo:∀g,g≠blk'->Z.own g=Y.own g:=by subst hZ;intro g hg;simp[hg]
   refine⟨h'.defers,_,hres,_,Z,cs',ty',rfl,hZw,?_,?_,fun b hb hne o=>?_,?_⟩
   ·have trz:∀{L:Loc} {d:TV} {u:Value},TRel Y w.heap.size L d u->TRel Z w.heap.size L d u:=by
     intro L d u hu
     cases d with
     |p x=>show Flat Z.M Z.w x u;rw[hZM,hZw, <-hYM, <-hYw];exact hu
     |ow sz nl rws=>
      rcases hu with hu|⟨h0,g,cap,cur,ty,g0,g1,g2,g3,g4,g5,g6⟩
      ·exact .inl hu
      ·have hgb:g≠blk':=fun e=>by rw[e,hYo] at g1;cases g1
       exact .inr ⟨h0,g,cap,cur,ty,g0,(hZo g hgb).trans g1,g2,by rw[hZw, <-hYw];exact g3,g4,by rw[hZM,hZw, <-hYM, <-hYw];exact g5,fun o ho=>by rw[hZM, <-hYM];exact g6 o ho⟩
    have hloc:∀(j:Nat) d u,xs[j]?=some d->vs[j]?=some u->TRel Z w.heap.size (if (rvs.map dX).length=1 then .tmp 0 else .comp (.tmp 0) j) d u:=by
     intro j d u hd hu;have hj:j<rvs.length:=by rw[<-k2];exact(bM.1 hd).1
     have hrv:rvs[j]?=some rvs[j]:=by simp[hj]
     have:=TRel.handOver hnd (j:=j) (by rw[List.getElem?_map,hrv];rfl) (k5 j d u _ hd hu hrv)
     rw[hY] at this;exact trz this
    match xs,vs,k2,k3,hloc with
    |[x],[v],k2,k3,hloc=>
     have:=hloc 0 x v rfl rfl;simp at k2;rw[if_pos (by simp[<-k2])] at this
     exact EE this
    |[],[],k2,k3,hloc=>exact⟨#[],by simp,by simp,fun j d u hd=>by simp at hd⟩
    |x ::y ::xs,vs,k2,k3,hloc=>
     have hvl:vs.length=xs.length+2:=by rw[k3, <-k2];rfl
     refine⟨vs.toArray,by simp[hvl],by simp[hvl],fun j d u hd hu=>?_⟩
     have:=hloc j d u hd (by simpa using hu)
     rw[if_neg (by simp[<-k2])] at this
     exact this
    |[x],[],k2,k3,_=>simp at k2 k3;omega
    |[x],_ ::_ ::_,k2,k3,_=>simp at k2 k3;omega
    |[],_ ::_,k2,k3,_=>simp at k2 k3;omega
   ·refine⟨by subst hZ;simp,by subst hZ;simp,⟨.inr ⟨0,by subst hZ;simp⟩,fun _=>by subst hZ;simp⟩,by rw[hZw];exact hb'.heap,hb'.size,hb'.width,fun r o row d u h1 h2 h3=>?_,fun _ o=>by rw[hZM];exact hb'.live rfl o,fun h=>by cases h⟩
    obtain⟨f1,f2⟩:=hb'.cells r o row d u h1 h2 h3;have hdp:=jG (gO hrows' (cD h1)) (cD h2)
    cases d with
    |p x=>exact⟨by show Flat Z.M Z.w x u;rw[hZM,hZw];exact f1,f2⟩
    |_=>simp[DV.isP] at hdp
   ·rw[hZM]
    refine h'.mold.2 b hb (fun j e=>?_) o
    simp only at e
    split at e
    ·injection e with e;exact hne e.symm
    ·cases e
   ·have hbl:=h'.below
    refine⟨hbl.os,hbl.tape,hbl.output,hbl.size,fun b hb hx=>hbl.block b hb fun j e=>?_,hbl.sz⟩
    simp only at e
    split at e
    ·exact hx 0 (by simpa using e)
    ·cases e
  have hwp:=HZ ht hrel hv;rw[hXw] at hwp;refine wp_mono hwp fun e a w' hq=>?_
  cases e with
  |normal=>exact fin a w' hq
  |ret=>exact fin a w' hq
  |exit j=>obtain⟨_,_,_,_,h⟩:=hq;exact h.elim
  |_=>exact hq.elim
open Go.RowKit
variable {P:Program}
def VM(nb:Nat):Loc->Loc
 | .box i=>.box (nb+i)
 | .cell i r o=>.cell (nb+i) r o
 | .comp L j=>.comp (VM nb L) j
 |L=>L
def CI(X:Cx)(nb:Nat):Cx :=
 {ρ := fun q => if q < nb then none else X.ρ (q - nb)
  own:=fun g=>(X.own g).map (VM nb)
  M:=X.M
  w:=X.w
  ex:=fun q=>if q<nb then none else X.ex (q-nb) }
theorem FH(X:Cx)(nb j:Nat):(CI X nb).ρ (nb+j)=X.ρ j:=by
 show (if nb+j<nb then none else X.ρ (nb+j-nb))=_
 rw[if_neg (by omega),show nb+j-nb=j by omega]
theorem KB(X:Cx)(nb j:Nat):(CI X nb).ex (nb+j)=X.ex j:=by
 show (if nb+j<nb then none else X.ex (nb+j-nb))=_
 rw[if_neg (by omega),show nb+j-nb=j by omega]
def NY(nb:Nat):List Box->List (Option Box)
 |[]=>[]
 |bx ::l=>some ⟨true,bx.size,dH (fun i=>some (nb+i)) bx.rows,true⟩ ::NY nb l
def LP(n nb:Nat)(args:List DV)(bs:List Box):St :=
 ⟨uM (fun i=>some (nb+i)) args++List.replicate (n-args.length) .top,List.replicate nb none++NY nb bs⟩
def rC:List Box->Bool
 |[]=>true
 |bx ::l=>bx.live&&(bx.old&&rC l)
theorem xG{l:List Box}(h:rC l=true){bx:Box}(hb:bx∈l):bx.live=true/\bx.old=true:=by
 induction l with
 |nil=>simp at hb
 |cons x xs ih=>
  simp only[rC,aY] at h;rcases List.mem_cons.1 hb with rfl|hb
  ·exact⟨h.1,h.2.1⟩
  ·exact ih h.2.2 hb
theorem FR{nb:Nat}:∀{l:List Box} {i:Nat},(NY nb l)[i]?=(l[i]?).map fun bx=>some ⟨true,bx.size,dH (fun i=>some (nb+i)) bx.rows,true⟩
 |[],i=>by simp[NY]
 |x ::l,0=>by simp[NY]
 |x ::l,i+1=>by simp only[NY,List.getElem?_cons_succ];exact FR
theorem JV{X:Cx}{bs:List Box}(hh:Hand X bs){nb n:Nat}{args:List DV}{cargs:Array Value}(hl:cargs.size=args.length)(hbs:rC bs=true)
  (ha:∀(i:Nat) d v,args[i]?=some d->cargs[i]?=some v->VRel X X.w.heap.size (.tmp i) d v) :
  Rel ⟨X.w.heap.size,X.M,X.w,(CI X nb).ex⟩ (CI X nb) (LP n nb args bs) { tmps:=cargs++Array.replicate (n-cargs.size) undef,defers:=[] }:=by
 have hown:∀g L L',L'=VM nb L->X.own g=some L->(X.w.heap.size<=g\/∃j,X.ex j=some g)->(∀o,X.M g o)->g<X.w.heap.size->(CI X nb).own g=some L'/\(X.w.heap.size<=g\/∃j,(CI X nb).ex j=some g)/\∀o,(CI X nb).M g o:=by
  intro g L L' e h1 h2 h3 _;refine⟨by simp[CI,h1,e],?_,h3⟩
  rcases h2 with h2|⟨j,h2⟩
  ·exact .inl h2
  ·exact .inr ⟨nb+j,by rw[KB];exact h2⟩
 have hν:∀j j',(fun i=>some (nb+i)) j=some j'->(CI X nb).ρ j'=X.ρ j:=fun j j' e=>by
  simp only[bQ] at e;subst e;exact FH X nb j
 refine⟨rfl,?_,fun i d hd=>?_,fun k bx hk=>?_,BelowX.refl _ _ _,Nat.le_refl _,rfl,fun b _ _ o=>Iff.rfl⟩
 ·simp[LP,hl,tD]
 ·simp only[uA]
  simp only[LP,tD] at hd;rw[List.getElem?_append] at hd;simp only[List.length_map] at hd
  by_cases hi:i<args.length
  ·rw[if_pos hi,List.getElem?_map] at hd
   rw[dif_pos (by omega)]
   cases hx:args[i]? with
   |none=>rw[hx] at hd;simp at hd
   |some x=>
    rw[hx] at hd;simp only[Option.map_some,bQ] at hd;subst hd;exact VRel.tr (X:=X) (X':=CI X nb) (fun L L'=>L'=VM nb L) _ (fun L L' j e=>by rw[e];rfl) (Keeps.refl _ _) rfl hown (fun _ _=>rfl) hν (ha i x _ hx (by simp[hl,hi]))
  ·rw[if_neg hi] at hd
   have:=cD hd;simp at this;rw[this.2];trivial
 ·simp only[LP] at hk
  rw[List.getElem?_append] at hk
  split at hk
  ·have:=cD hk
   simp at this
  ·rename_i hk'
   simp only[List.length_replicate] at hk hk';rw[FR] at hk
   cases hb:bs[k-nb]? with
   |none=>rw[hb] at hk;simp at hk
   |some bx0=>
    rw[hb] at hk;simp only[Option.map_some,bQ] at hk;subst hk;obtain⟨h1,h2⟩:=xG hbs (cD hb);obtain⟨blk0,e1,e2,e3,e4,e5,e6⟩:=BX.info (hh.boxes _ _ hb) h1
    have:=BX.tr (X:=X) (X':=CI X nb) (base:=X.w.heap.size) (base':=X.w.heap.size) (i:=k-nb) (i':=nb+(k-nb)) (bx:=bx0) (fun L L'=>L'=VM nb L) _ (fun L L' j e=>by rw[e];rfl) (Keeps.refl _ _) rfl hown rfl (fun _ _=>rfl)
     (FH X nb _) hν true (fun _ blk hblk=>by rw[KB];rw[e1] at hblk;injection hblk with hblk;subst hblk;exact e4 h2) h1 (hh.boxes _ _ hb)
    rw[show nb+(k-nb)=k by omega] at this
    exact this
def PK(b:List (Option Box))(d:DV):Bool:=d.isRef&&(d.frz b).isNone
def r7(s:St)(rvs:List RV)(K:DV->Prop):Prop :=
 match rvs with
 |[.tmp t]=>if PK s.b (aT s.t t)=true then K (aT s.t t) else gE s [.tmp t] fun xs=>K (cN xs)
 |rvs=>gE s rvs fun xs=>K (cN xs)
def eB:Nat->Nat->List Nat
 |_,0=>[]
 |k,m+1=>k ::eB (k+1) m
theorem mT:∀{m k:Nat},(eB k m).length=m
 |0,_=>rfl
 |m+1,k=>by simp[eB,mT]
theorem sW:∀{m k i:Nat},i<m->(eB k m)[i]?=some (k+i)
 |m+1,k,0,_=>rfl
 |m+1,k,i+1,h=>by simp only[eB,List.getElem?_cons_succ];rw[sW (by omega)];congr 1;omega
theorem uD:∀{m k q:Nat},q∈eB k m->k<=q/\q<k+m
 |m+1,k,q,h=>by
  simp only[eB] at h;rcases List.mem_cons.1 h with rfl|h
  ·omega
  ·have:=uD h;omega
theorem oA:∀{m k:Nat},(eB k m).Nodup
 |0,_=>List.nodup_nil
 |m+1,k=>List.nodup_cons.2 ⟨fun h=>by have:=uD h;omega,oA⟩
def nP(b:List (Option Box))(nb m k:Nat):Bool :=
 match eH b k with
 |some bx=>bx.live&&(bx.old || !(Nat.ble nb k&&Nat.blt k (nb+m)))
 |none=>false
def sZ(b:List (Option Box)):List Nat->List Nat->List Nat
 |[],l=>l
 |k ::ks,l=>match eH b k with
  |some bx=>if bx.live then (bif c9 bx.rows then sZ b ks l else pM bx.rows (sZ b ks l)) else sZ b ks l
  |none=>sZ b ks l
def HV(b:List (Option Box))(nb m:Nat)(r:DV):List Nat:=dU b 4000 (sZ b (eB nb m) (nT r [])) (eB nb m)
def QA(b:List (Option Box))(nb m:Nat)(all:List Nat)(k:Nat):Option Nat:=if oP k all&&nP b nb m k then some (kQ k all 0) else none
def L9(b:List (Option Box))(nb m:Nat)(ν:Nat->Option Nat)(k:Nat):Option Box :=
 if nP b nb m k then match eH b k with
  |some bx=>some ⟨true,bx.size,dH ν bx.rows,false⟩
  |none=>none
 else none
def oO(b:List (Option Box))(nb m:Nat)(ν:Nat->Option Nat):List Nat->List (Option Box)
 |[]=>[]
 |k ::ks=>L9 b nb m ν k ::oO b nb m ν ks
def AX(b:List (Option Box))(nb m:Nat)(r:DV):List (Option Box)×DV :=
 (oO b nb m (QA b nb m (HV b nb m r)) (HV b nb m r),t6 (QA b nb m (HV b nb m r)) r)
theorem wU{b:List (Option Box)}{nb m:Nat}{ν:Nat->Option Nat}:∀{l:List Nat} {i:Nat},(oO b nb m ν l)[i]?=(l[i]?).map (L9 b nb m ν)
 |[],i=>by simp[oO]
 |x ::l,0=>by simp[oO]
 |x ::l,i+1=>by simp only[oO,List.getElem?_cons_succ];exact wU
theorem BO(xs:List TV):(cN xs).plain=true:=by
 unfold cN
 split
 ·rename_i x;cases x<;>rfl
 ·rfl
theorem IP{G:Gl}{X:Cx}{s:St}{a:Act}(h:Rel G X s a){fn:Func}{rvs:List RV}(hr:RVs P fn.results.toList rvs)(hnd:(rvs.map dX).Nodup){K:DV->Prop}(hK:r7 s rvs K) :
  ∃r v,K r/\(results fn a.tmps).run P X.w=.ok v X.w/\((r.isRef=true/\∃L,VRel X G.base L r v)\/(r.plain=true/\VRel (handOver (rvs.map dX) X) G.base (.tmp 0) r v)):=by
 have gen:gE s rvs (fun xs=>K (cN xs))->∃r v,K r/\(results fn a.tmps).run P X.w=.ok v X.w/\((r.isRef=true/\∃L,VRel X G.base L r v)\/(r.plain=true/\VRel (handOver (rvs.map dX) X) G.base (.tmp 0) r v)):=by
  intro hK;obtain⟨xs,vs,k1,k2,k3,k4,k5⟩:=xX h hr hK
  have hres:(results fn a.tmps).run P X.w=.ok (if h:vs.toArray.size=1 then vs.toArray[0] else .tuple vs.toArray) X.w:=by
   unfold results;rw[<-Array.toArray_toList (xs:=fn.results),List.mapM_toArray];simp only[Sem.run_bind,Sem.run_map];rw[k4 _ (fun _=>rfl) (fun _ _=>rfl)]
   rfl
  refine⟨_,_,k1,hres,.inr ⟨BO _,?_⟩⟩
  have hloc:∀(j:Nat) d u,xs[j]?=some d->vs[j]?=some u->TRel (handOver (rvs.map dX) X) G.base (if (rvs.map dX).length=1 then .tmp 0 else .comp (.tmp 0) j) d u:=by
   intro j d u hd hu;have hj:j<rvs.length:=by rw[<-k2];exact(bM.1 hd).1
   have hrv:rvs[j]?=some rvs[j]:=by simp[hj]
   exact TRel.handOver hnd (j:=j) (by rw[List.getElem?_map,hrv];rfl) (k5 j d u _ hd hu hrv)
  match xs,vs,k2,k3,hloc with
  |[x],[v],k2,k3,hloc=>
   have:=hloc 0 x v rfl rfl;simp at k2;rw[if_pos (by simp[<-k2])] at this
   exact EE this
  |[],[],k2,k3,hloc=>exact⟨#[],by simp,by simp,fun j d u hd=>by simp at hd⟩
  |x ::y ::xs,vs,k2,k3,hloc=>
   have hvl:vs.length=xs.length+2:=by rw[k3, <-k2];rfl
   refine⟨vs.toArray,by simp[hvl],by simp[hvl],fun j d u hd hu=>?_⟩
   have:=hloc j d u hd (by simpa using hu)
   rw[if_neg (by simp[<-k2])] at this
   exact this
  |[x],[],k2,k3,_=>simp at k2 k3;omega
  |[x],_ ::_ ::_,k2,k3,_=>simp at k2 k3;omega
  |[],_ ::_,k2,k3,_=>simp at k2 k3;omega
 unfold r7 at hK
 split at hK
 ·rename_i t
  split at hK
  ·rename_i hrf
   refine⟨_,_,hK,?_,.inl ⟨by simp only[PK,aY] at hrf;exact hrf.1,_,h.get t⟩⟩
   have e:fn.results.toList=[.tmp t]:=by
    generalize fn.results.toList=l at hr
    cases hr with
    |tmp t rs l h=>cases h;rfl
   unfold results;rw[<-Array.toArray_toList (xs:=fn.results),List.mapM_toArray,e];simp
  ·exact gen hK
 ·exact gen hK
theorem zU{ls:List Loc}{X:Cx}{g:Nat}{L':Loc}(h:(handOver ls X).own g=some L'):∃L,X.own g=some L/\L∈ls:=by
 simp only[handOver] at h
 split at h
 ·rename_i L hL
  cases hi:ls.idxOf? L with
  |none=>rw[hi] at h;simp at h
  |some j=>
   refine⟨L,hL,?_⟩
   by_cases hm:L∈ls
   ·exact hm
   ·rw[List.idxOf?_eq_none_iff.2 hm] at hi;cases hi
 ·cases h
theorem VRel.plain_mono{X X':Cx}{base:Nat}(hM:X'.M=X.M)(hw:X'.w=X.w)(ho:∀g L,X.own g=some L->X'.own g=some L){L:Loc}{r:DV}(hr:r.plain=true){v:Value}(h:VRel X base L r v):VRel X' base L r v:=by
 have ow:∀{L:Loc} {size:Nat} {nl:Bool} {rows:List PV} {u:Value},OwRel X base L size nl rows u->OwRel X' base L size nl rows u:=by
  intro L size nl rows u hu;rcases hu with hu|⟨h0,g,cap,cur,ty,g0,g1,g2,g3,g4,g5,g6⟩
  ·exact .inl hu
  ·exact .inr ⟨h0,g,cap,cur,ty,g0,ho g _ g1,g2,by rw[hw];exact g3,g4,by rw[hM,hw];exact g5,fun o ho=>by rw[hM];exact g6 o ho⟩
 cases r with
 |p x=>show Flat X'.M X'.w x v;rw[hM,hw];exact h
 |ow size nl rows=>exact ow h
 |tup ds=>
  obtain⟨vs,e1,e2,e3⟩:=h;refine⟨vs,e1,e2,fun j d u hd hu=>?_⟩
  have:=e3 j d u hd hu
  cases d with
  |p x=>show Flat X'.M X'.w x u;rw[hM,hw];exact this
  |ow size nl rows=>exact ow this
 |_=>simp[DV.plain] at hr
theorem CO{f:FuncId}{fn:Func}{code:Code}{c:C}{nb:Nat}{args:List DV}{bs:List Box}{bs':List (Option Box)}{r:DV}{rvs:List RV}(hf:P.funcs[f]?=some fn)(hb:fn.body=some code)(hn:fn.name ≠ "runtime.NumGoroutine")
  (ht:TrC P c code) (hr:RVs P fn.results.toList rvs) (hnd:(rvs.map dX).Nodup) (hrp:(r.plain||r.isRef)=true) (hbs:rC bs=true) (hlen:Nat.ble bs.length bs'.length=true)
  (hv:vc P c (LP fn.ntmps nb args bs) (fun s=>r7 s rvs fun r0=>AX s.b nb bs.length r0=(bs',r)) (fun _ _=>False) (fun s=>r7 s rvs fun r0=>AX s.b nb bs.length r0=(bs',r))):aM P f args bs bs' r:=by
 refine⟨⟨fn,hf,by rw[hb];rfl,hn⟩,by simpa using hrp,by simpa using hlen,fun X cargs hl hh ha=>?_⟩
 refine calls_of_wp hf hb ?_;have hrel:=JV hh (nb:=nb) (n:=fn.ntmps) hl hbs ha
 have fin:∀a w',aZ ⟨X.w.heap.size,X.M,X.w,(CI X nb).ex⟩ (fun s=>r7 s rvs fun r0=>AX s.b nb bs.length r0=(bs',r)) a w' ->
   bodyPost P fn (fun e w'=>∃v X',e=.returned v/\X'.w=w'/\Back X X' bs.length bs' r v) .ret a w':=by
  intro a w' ⟨s,X',h',e',hK⟩;subst e';obtain⟨r0,v,k1,hres,k3⟩:=IP h' hr hnd hK;generalize hall:HV s.b nb bs.length r0=all at *;obtain⟨es,f1,f2,f3,f4⟩:=gW (b:=s.b) (n:=4000) (ws:=sZ s.b (eB nb bs.length) (nT r0 [])) (ks:=eB nb bs.length);have ea:all=eB nb bs.length++es:=by rw[<-hall];exact f1
  have hnda:all.Nodup:=by
   rw[ea,List.nodup_append];exact⟨oA,f4,fun a ha b hb e=>by subst e;exact f3 a hb ha⟩
  generalize hνd:QA s.b nb bs.length all = ν at *
  have hfin:bs'=oO s.b nb bs.length ν all/\r=t6 ν r0:=by
   simp only[AX,hall,hνd,Prod.mk.injEq] at k1;exact⟨k1.1.symm,k1.2.symm⟩
  obtain⟨e1,e2⟩:=hfin;have hexe:X'.ex=(CI X nb).ex:=h'.mold.1
  have hgood:∀k b1,s.b[k]?=some (some b1)->nP s.b nb bs.length k=true->∀i,all[i]?=some k->i<bs.length->X'.ρ k=X.ρ i:=by
   intro k b1 hk hal i hi hilt
   have hki:k=nb+i:=by
    rw[ea,List.getElem?_append,if_pos (by rw[mT];exact hilt),sW hilt] at hi
    injection hi with hi;exact hi.symm
   have hold:b1.live=true/\b1.old=true:=by
    simp only[nP,cA.2 hk,aY,Bool.or_eq_true,Bool.not_eq_true',Bool.and_eq_false_iff] at hal;refine⟨hal.1,hal.2.resolve_right fun hc=>?_⟩
    rcases hc with hc|hc
    ·have:¬nb<=k:=fun hh=>by rw[Nat.ble_eq_true_of_le hh] at hc;cases hc
     omega
    ·have:¬k<nb+bs.length:=fun hh=>by
      have e:Nat.blt k (nb+bs.length)=true:=by simpa using hh
      rw[e] at hc;cases hc
     omega
   obtain⟨blk,g1,g2,g3,g4,g5,g6⟩:=BX.info (h'.boxes k b1 hk) hold.1;have g7:=g4 hold.2;rw[hexe] at g7;subst hki;simp only[CI] at g7;rw[if_neg (by omega),show nb+i-nb=i by omega] at g7
   have hbi:bs[i]?=some bs[i]:=by simp[hilt]
   obtain⟨l1,l2⟩:=xG hbs (cD hbi);obtain⟨blk0,q1,q2,q3,q4,q5,q6⟩:=BX.info (hh.boxes i _ hbi) l1;have q7:=q4 l2;rw[g7] at q7;injection q7 with q7
   rw[g1,q1,q7]
  generalize hX'' : ({ ρ := fun i => if i < bs.length then X.ρ i else (all[i]?).bind X'.ρ
                       own:=fun g=>match X'.own g with
                        |some L=>match i6 all L with
                         |some L'=>some L'
                         |none=>((rvs.map dX).idxOf? L).map fun j=>if (rvs.map dX).length=1 then .tmp 0 else .comp (.tmp 0) j
                        |none=>none
                       M:=X'.M,w:=X'.w,ex:=X.ex }:Cx)=X''
  have ew:X''.w=X'.w:=by subst hX'';rfl
  have eM:X''.M=X'.M:=by subst hX'';rfl
  have eex:X''.ex=X.ex:=by subst hX'';rfl
  have eρ1:∀i,i<bs.length->X''.ρ i=X.ρ i:=by subst hX'';intro i hi;simp[hi]
  have eρ2:∀i,¬i<bs.length->X''.ρ i=(all[i]?).bind X'.ρ:=by subst hX'';intro i hi;simp[hi]
  have eo1:∀g L L',X'.own g=some L->i6 all L=some L'->X''.own g=some L':=by subst hX'';intro g L L' h1 h2;simp[h1,h2]
  have eo2:∀g L',(handOver (rvs.map dX) X').own g=some L'->X''.own g=some L':=by
   intro g L' hg;obtain⟨L,h1,h2⟩:=zU hg
   have hn:i6 all L=none:=by
    obtain⟨rv,_,e⟩:=List.mem_map.1 h2;cases rv<;>simp only[dX] at e<;>subst e<;>rfl
   subst hX'';simp only[handOver,h1] at hg;simp only[h1,hn,hg]
  have hν:∀j j', ν j=some j'->X''.ρ j'=X'.ρ j:=by
   intro j j' hj;rw[<-hνd] at hj;simp only[QA] at hj
   split at hj
   ·rename_i hc
    simp only[aY] at hc;injection hj with hj
    have hm:=tO (jC.1 hc.1);rw[hj] at hm
    by_cases hlt:j'<bs.length
    ·rw[eρ1 _ hlt]
     obtain⟨b1,hb1⟩:∃b1,eH s.b j=some b1:=by
      have:=hc.2;unfold nP at this
      split at this
      ·exact⟨_,by assumption⟩
      ·cases this
     exact(hgood j b1 (cA.1 hb1) hc.2 j' hm hlt).symm
    ·rw[eρ2 _ hlt,hm];rfl
   ·cases hj
  refine⟨h'.defers,v,hres,v,X'',rfl,ew,eex,?_,fun i bx hi=>?_,fun i hi=>eρ1 i hi,fun b hb hx o=>?_,?_⟩
  ·rcases k3 with ⟨hrf,L,hvr⟩|⟨hpl,hvr⟩
   ·have e3:r=cF ν r0:=by
     rw[e2];unfold t6;rw[if_neg];cases r0<;>simp[DV.isRef,DV.plain] at hrf ⊢
    rw[e3];exact VRel.tr (X:=X') (X':=X'') (base:=X.w.heap.size) (base':=X.w.heap.size) (fun _ _=>False) ν (fun _ _ _ h=>h.elim) (by rw[eM,ew];exact Keeps.refl _ _) ew (fun _ _ _ h=>h.elim) (fun T e=>by rw[e] at hrf;simp[DV.isRef] at hrf) hν hvr
   ·have e3:r=r0:=by rw[e2];unfold t6;rw[if_pos hpl]
    rw[e3];exact hvr.plain_mono (by rw[eM];rfl) (by rw[ew];rfl) eo2 hpl
  ·rw[e1,wU] at hi
   cases hk:all[i]? with
   |none=>rw[hk] at hi;simp at hi
   |some k=>
    rw[hk] at hi;simp only[Option.map_some,bQ] at hi;unfold L9 at hi
    split at hi
    ·rename_i hal
     split at hi
     ·rename_i b1 hb1
      injection hi with hi
      subst hi;refine⟨rfl,?_⟩;have hkm:k∈all:=cD hk;have hki:kQ k all 0=i:=uQ hnda hk
      have hlive:b1.live=true:=by
       simp only[nP,hb1,aY] at hal;exact hal.1
      refine BX.tr (X:=X') (X':=X'') (base:=X.w.heap.size) (base':=X.w.heap.size) (i:=k) (i':=i) (fun L L'=>i6 all L=some L') ν (fun L L' j e=>by simp only[i6];rw[e];rfl) (by rw[eM,ew];exact Keeps.refl _ _) ew
       (fun g L L' hL h1 h2 h3 _=>⟨eo1 g L L' h1 hL,?_,by rw[eM];exact h3⟩) (by simp only[i6];rw[if_pos hkm,hki]) (fun r o=>by simp only[i6];rw[if_pos hkm,hki])
       (hν k i (by rw[<-hνd];simp only[QA];rw[if_pos (by simp[jC.2 hkm,hal]),hki])) hν false (fun h=>by cases h) hlive (h'.boxes k b1 (cA.1 hb1))
      rcases h2 with h2|⟨j,h2⟩
      ·exact .inl h2
      ·rw[hexe] at h2
       simp only[CI] at h2
       split at h2
       ·cases h2
       ·exact .inr ⟨_,by rw[eex];exact h2⟩
     ·cases hi
    ·cases hi
  ·rw[eM]
   refine h'.mold.2 b hb (fun j e=>?_) o
   simp only[CI] at e
   split at e
   ·cases e
   ·exact hx _ e
  ·rw[ew]
   have hbl:=h'.below;refine⟨hbl.os,hbl.tape,hbl.output,hbl.size,fun b hb hx=>hbl.block b hb fun j e=>?_,hbl.sz⟩
   simp only[CI] at e
   split at e
   ·cases e
   ·exact hx _ e
 have hwp:=HZ ht hrel hv;refine wp_mono hwp fun e a w' hq=>?_
 cases e with
 |normal=>exact fin a w' hq
 |ret=>exact fin a w' hq
 |exit j=>obtain⟨_,_,_,_,h⟩:=hq;exact h.elim
 |_=>exact hq.elim
open Go.RowKit
variable {P:Program}
def bO:Operand->O->Bool
 | .tmp n,.t m=>n ==m
 | .const (.int k n),.c (.p (.int k' n'))=>decide (k=k')&&n ==n'
 | .const (.bool b),.c (.p (.bool b'))=>b ==b'
 | .const (.string s),.c (.p (.str s'))=>decide (s.data.toList=s'.data.toList)
 | .const (.slice none 0 0),.c (.ow _ true [])=>true
 | .const (.slice none 0 0),.c (.p (.sl _ true []))=>true
 | .func f,.c (.p (.fn f' []))=>f ==f'
 | .const .nilIface,.c (.p (.atom .nilIface))=>true
 | .const (.pointer none),.c (.p (.atom (.pointer none)))=>true
 | .const (.map none),.c (.p (.atom (.map none)))=>true
 |_,.c .top=>true
 |_,_=>false
theorem yY{s t:ByteArray}(h:s.data.toList=t.data.toList):s=t:=by
 obtain⟨⟨a⟩⟩:=s;obtain⟨⟨b⟩⟩:=t;simp at h;subst h;rfl
theorem aN{x:Operand}{o:O}(h:bO x o=true):OT x o:=by
 unfold bO at h
 split at h
 ·simp at h;subst h;exact .tmp _
 ·simp at h;obtain⟨rfl,rfl⟩:=h;exact .int _ _
 ·simp at h;subst h;exact .bool _
 ·simp only[decide_eq_true_eq] at h;rw[yY h];exact .str _
 ·exact .nil _
 ·exact .nilp _
 ·simp at h;subst h;exact .func _
 ·exact .atom _ rfl
 ·exact .atom _ rfl
 ·exact .atom _ rfl
 ·exact .any _
 ·cases h
def CR:List Operand->List O->Bool
 |[],[]=>true
 |x ::xs,o ::os=>bO x o&&CR xs os
 |_,_=>false
theorem fU:∀{xs:List Operand} {os:List O},CR xs os=true->os.length=xs.length/\∀(k:Nat) x oo,xs[k]?=some x->os[k]?=some oo->OT x oo
 |[],[],_=>⟨rfl,fun k x oo h=>by simp at h⟩
 |x ::xs,o ::os,h=>by
  simp only[CR,aY] at h;obtain⟨e1,e2⟩:=fU h.2;refine⟨by simp[e1],fun k y oo hy ho=>?_⟩
  cases k with
  |zero=>simp at hy ho;subst hy;subst ho;exact aN h.1
  |succ k=>exact e2 k y oo (by simpa using hy) (by simpa using ho)
 |[],_ ::_,h=>by simp[CR] at h
 |_ ::_,[],h=>by simp[CR] at h
def a0T:TypeDesc->Bool
 | .struct _ | .array _ _=>true
 |_=>false
def uJ(P:Program)(t:TypeId)(n:Nat)(isA:Bool):Bool :=
 match P.info? t,P.underlying t with
 |some i,some d=>i.size ==n&&a0T d ==isA
 |_,_=>false
theorem gY{t:TypeId}{n:Nat}{isA:Bool}(h:uJ P t n isA=true):TyIs P t n isA:=by
 unfold uJ at h
 split at h
 ·rename_i i d hi hd
  simp at h;exact⟨⟨i,hi,h.1⟩,⟨d,hd,h.2⟩⟩
 ·cases h
def bZ:DV->Value->Bool
 | .p (.int k n),.int k' n'=>decide (k=k')&&n ==n'
 | .p (.bool b),.bool b'=>b ==b'
 | .p (.str s),.string s'=>decide (s.data.toList=s'.data.toList)
 | .ow _ true [],.slice none 0 0=>true
 | .p (.atom (.pointer none)),.pointer none=>true
 | .p (.atom (.map none)),.map none=>true
 | .top,v=>v.oneCell'
 |_,_=>false
theorem UL{d:DV}{v:Value}(h:bZ d v=true):ZR d v:=by
 unfold bZ at h
 split at h
 ·simp at h;obtain⟨rfl,rfl⟩:=h;exact .int _ _
 ·simp at h;subst h;exact .bool _
 ·simp only[decide_eq_true_eq] at h;rw[yY h];exact .str _
 ·exact .nil _
 ·exact .atom _ rfl
 ·exact .atom _ rfl
 ·exact .top _ h
 ·cases h
def NR:List DV->List Value->Bool
 |[],[]=>true
 |d ::ds,v ::vs=>bZ d v&&NR ds vs
 |_,_=>false
theorem yC:∀{ds:List DV} {vs:List Value},NR ds vs=true->vs.length=ds.length/\∀(i:Nat) d v,ds[i]?=some d->vs[i]?=some v->ZR d v
 |[],[],_=>⟨rfl,fun i d v h=>by simp at h⟩
 |d ::ds,v ::vs,h=>by
  simp only[NR,aY] at h;obtain⟨e1,e2⟩:=yC h.2;refine⟨by simp[e1],fun i y u hy ho=>?_⟩
  cases i with
  |zero=>simp at hy ho;subst hy;subst ho;exact UL h.1
  |succ i=>exact e2 i y u (by simpa using hy) (by simpa using ho)
 |[],_ ::_,h=>by simp[NR] at h
 |_ ::_,[],h=>by simp[NR] at h
theorem JR{ds:List DV}{vs:Array Value}(h:NR ds vs.toList=true):VN ds vs :=
 ⟨by have:=(yC h).1;simpa using this,fun i d v hd hv=>(yC h).2 i d v hd (by simpa using hv)⟩
def UT:PV->Value->Bool
 | .int k n,.int k' n'=>decide (k=k')&&n ==n'
 | .bool b,.bool b'=>b ==b'
 | .str s,.string s'=>decide (s.data.toList=s'.data.toList)
 | .sl _ true [],.slice none 0 0=>true
 | .atom (.pointer none),.pointer none=>true
 | .atom (.map none),.map none=>true
 |_,_=>false
theorem E4{d:PV}{v:Value}(h:UT d v=true):ZP d v:=by
 unfold UT at h
 split at h
 ·simp at h;obtain⟨rfl,rfl⟩:=h;exact .int _ _
 ·simp at h;subst h;exact .bool _
 ·simp only[decide_eq_true_eq] at h;rw[yY h];exact .str _
 ·exact .nil _
 ·exact .atom _ rfl
 ·exact .atom _ rfl
 ·cases h
def zB:List PV->List Value->Bool
 |[],[]=>true
 |d ::ds,v ::vs=>UT d v&&zB ds vs
 |_,_=>false
theorem oV:∀{ds:List PV} {vs:List Value},zB ds vs=true->vs.length=ds.length/\∀(i:Nat) d v,ds[i]?=some d->vs[i]?=some v->ZP d v
 |[],[],_=>⟨rfl,fun i d v h=>by simp at h⟩
 |d ::ds,v ::vs,h=>by
  simp only[zB,aY] at h;obtain⟨e1,e2⟩:=oV h.2;refine⟨by simp[e1],fun i y u hy ho=>?_⟩
  cases i with
  |zero=>simp at hy ho;subst hy;subst ho;exact E4 h.1
  |succ i=>exact e2 i y u (by simpa using hy) (by simpa using ho)
 |[],_ ::_,h=>by simp[zB] at h
 |_ ::_,[],h=>by simp[zB] at h
def FG(P:Program):List Field->Nat->Bool
 |[],_=>true
 |f ::fs,j=>f.name != "_" && (decide (f.offset=j)&&((match P.underlying f.type with|some (.int _)=>true|_=>false)&&(uJ P f.type 1 false&&FG P fs (j+1))))
theorem KK{fs:List Field}:∀{j:Nat},FG P fs j=true->∀(i:Nat) f,fs[i]?=some f->f.name ≠ "_" /\ f.offset=j+i/\(∃k,P.underlying f.type=some (.int k))/\TyIs P f.type 1 false:=by
 induction fs with
 |nil=>intro j _ i f hf;simp at hf
 |cons g fs ih=>
  intro j h i f hf;simp only[FG,aY,decide_eq_true_eq,bne_iff_ne] at h;obtain⟨h1,h2,h3,h4,h5⟩:=h
  cases i with
  |zero=>
   cases hf
   refine⟨h1,h2,?_,gY h4⟩
   split at h3
   ·exact⟨_, ‹_›⟩
   ·cases h3
  |succ i=>
   have:=ih h5 i f hf;rw[Nat.add_assoc,Nat.add_comm 1 i] at this;exact this
theorem BP{t:TypeId}{fs:Array Field}(h:P.underlying t=some (.struct fs)):P.fieldsOf t=fs:=by simp[Program.fieldsOf,h]
def vC(places:List (Nat×Nat))(n:Nat):List (Nat×Operand)->List (Nat×Nat)->Bool
 |[],[]=>true
 |p ::ps,o ::os=>decide (places[p.1]?=some o)&&decide (o.1+o.2<=n)&&vC places n ps os
 |_,_=>false
theorem u9{places:List (Nat×Nat)}{n:Nat}:∀{ps:List (Nat×Operand)} {os:List (Nat×Nat)},vC places n ps os=true->ps.length=os.length /\
  ∀(k:Nat) (p:Nat×Operand) (o:Nat×Nat),ps[k]?=some p->os[k]?=some o->places[p.1]?=some o/\o.1+o.2<=n
 |[],[],_=>⟨rfl,fun i d v h=>by simp at h⟩
 |d ::ds,v ::vs,h=>by
  simp only[vC,aY,decide_eq_true_eq] at h;obtain⟨e1,e2⟩:=u9 h.2;refine⟨by simp[e1],fun i y u hy ho=>?_⟩
  cases i with
  |zero=>simp at hy ho;subst hy;subst ho;exact h.1
  |succ i=>exact e2 i y u (by simpa using hy) (by simpa using ho)
 |[],_ ::_,h=>by simp[vC] at h
 |_ ::_,[],h=>by simp[vC] at h
def IR:Nat->List (Nat×Operand)->Bool
 |_,[]=>true
 |k,p ::ps=>p.1 ==k&&IR (k+1) ps
theorem xR:∀{k:Nat} {ps:List (Nat×Operand)},IR k ps=true->ps=((ps.map (·.2)).zipIdx k).map fun x=>(x.2,x.1)
 |_,[],_=>rfl
 |k,p ::ps,h=>by
  simp only[IR,aY,beq_iff_eq] at h;obtain⟨rfl,h2⟩:=h;have:=xR h2;simp only[List.map_cons,List.zipIdx_cons, <-this]
def bZV:PV->Value->Bool
 | .agg cs,.agg vs=>zB cs vs.toList
 |c,v=>UT c v
theorem QZ{c:PV}{v:Value}(h:bZV c v=true):ZV c v:=by
 unfold bZV at h
 split at h
 ·obtain⟨z1,z2⟩:=oV h
  exact .agg _ _ (by simpa using z1) fun i c v hc hv=>z2 i c v hc (by simpa using hv)
 ·exact .one _ _ (E4 h)
def KM(P:Program)(kt:TypeId):Option IntKind->Bool
 |some q=>match P.underlying kt with
  |some (.int q')=>decide (q'=q)
  |_=>false
 |none=>match P.underlying kt with
  |some .string=>true
  |_=>false
theorem EV{kt:TypeId}{q:Option IntKind}(h:KM P kt q=true):P.underlying kt=some (dN q):=by
 cases q with
 |none=>
  simp only[KM] at h
  split at h
  ·assumption
  ·cases h
 |some q=>
  simp only[KM] at h
  split at h
  ·simp only[decide_eq_true_eq] at h
   subst h
   assumption
  ·cases h
def KG(P:Program)(t:TypeId)(q:Option IntKind):Bool :=
 match P.underlying t with
 |some (.map kt _)=>KM P kt q
 |_=>false
theorem y8{t:TypeId}{q:Option IntKind}(h:KG P t q=true):∃kt et,P.underlying t=some (.map kt et)/\P.underlying kt=some (dN q):=by
 unfold KG at h
 split at h
 ·exact⟨_,_, ‹_›,EV h⟩
 ·cases h
def RT(P:Program)(o:Oper):KO->List O->Bool
 | .ldo _ _,[ox]=>match o.op with
  | .load t x=>uJ P t 1 false&&bO x ox
  |_=>false
 | .callo f _,os=>match o.op with
  | .call { callee:=.value (.func f'),args:=xs,.. }=>f' ==f&&CR xs.toList os
  |_=>false
 | .callvo _,ox ::os=>match o.op with
  | .call { callee:=.value x,args:=xs,.. }=>bO x ox&&CR xs.toList os
  |_=>false
 | .bldo zero offs,os=>match o.op with
  | .build t parts=>match P.underlying t with
   |some (.struct fields)=>match P.info? t with
    |some it=>match it.zero with
     |some z=>match fields.toList.mapM (fun f=>(P.info? f.type).map fun i=>(f.offset,i.size)) with
      |some places=>zB zero z.cells.toList&&(vC places zero.length parts.toList offs&&CR (parts.toList.map (·.2)) os)
      |none=>false
     |none=>false
    |none=>false
   |_=>false
  |_=>false
 | .eqp neq,[ox,oy]=>match o.op with
  | .binOp op t x y _=>match P.underlying t with
   |some (.pointer _)=>decide (op=if neq then .neq else .eql)&&(bO x ox&&bO y oy)
   |_=>false
  |_=>false
 | .appd size bytes _,[ox,oy]=>match o.op with
  | .call { callee:=.builtin .append,args:=⟨[x,y]⟩,argTypes:=⟨[t,t']⟩ }=>match P.underlying t with
   |some (.slice e)=>match P.info? e with
    |some i=>match i.zero with
     |some z=>decide (t=t')&&(decide ((i.size=size/\i.bytes=bytes/\z.cells.size=size)/\size≠0)&&(bO x ox&&bO y oy))
     |none=>false
    |none=>false
   |_=>false
  |_=>false
 | .bsld _ n _,os=>match o.op with
  | .buildSlice t m parts=>match P.underlying t with
   |some (.slice e)=>match P.info? e with
    |some i=>i.zero.isSome&&(decide (m=n/\i.size=1/\n<=16777216)&&(decide (n<=maxLen)&&(IR 0 parts.toList&&CR (parts.toList.map (·.2)) os)))
    |none=>false
   |_=>false
  |_=>false
 | .slx size,[ox,om]=>match o.op with
  | .slice t x none (some m) none=>match P.underlying t with
   |some (.slice e)=>(uJ P e size true||uJ P e size false)&&(bO x ox&&bO m om)
   |_=>false
  |_=>false
 | .lookx q zero ok,[ox,oy]=>match o.op with
  | .lookup t x y ok'=>match P.underlying t with
   |some (.map kt et)=>match P.info? et with
    |some i=>match i.zero with
     |some zv=>decide (ok'=ok)&&(KM P kt q&&(bZV zero zv&&(bO x ox&&bO y oy)))
     |none=>false
    |_=>false
   |_=>false
  |_=>false
 | .mupx q,[ox,oy,oz]=>match o.op with
  | .mapUpdate t x y z=>KG P t q&&(o.dst.isNone&&(bO x ox&&(bO y oy&&bO z oz)))
  |_=>false
 | .mdel q,[ox,oy]=>match o.op with
  | .call { callee:=.builtin .delete,args:=⟨[x,y]⟩,argTypes:=⟨t ::_⟩ }=>KG P t q&&(bO x ox&&bO y oy)
  |_=>false
 | .mpe q,[ox,oy]=>match o.op with
  | .mapEntry t x y=>KG P t q&&(bO x ox&&bO y oy)
  |_=>false
 | .lda n,[ox]=>match o.op with
  | .load t x=>uJ P t n true&&bO x ox
  |_=>false
 | .ents,[ox,oy,oz]=>match o.op with
  | .entryStore t x y z=>o.dst.isNone&&(bO x ox&&(bO y oy&&bO z oz))
  |_=>false
 | .mlen,[ox]=>match o.op with
  | .call { callee:=.builtin .len,args:=⟨[x]⟩,argTypes:=⟨[t]⟩ }=>match P.underlying t with
   |some (.map _ _)=>bO x ox
   |_=>false
  |_=>false
 | .callr f,os=>match o.op with
  | .call { callee:=.value (.func f'),args:=xs,.. }=>f' ==f&&CR xs.toList os
  |_=>false
 |_,_=>false
theorem LQ{t:TypeId}{n:Nat}(h:(uJ P t n true||uJ P t n false)=true):∃isA,TyIs P t n isA:=by
 simp only[Bool.or_eq_true] at h;rcases h with h|h
 ·exact⟨_,gY h⟩
 ·exact⟨_,gY h⟩
theorem LI{o:Oper}{κ:KO}{xs:List O}(h:RT P o κ xs=true):TrO P o κ xs:=by
 unfold RT at h
 split at h
 ·split at h
  ·simp only[aY] at h
   exact .ldo _ _ _ (gY h.1) _ _ (aN h.2) ‹_›
  ·cases h
 ·(repeat' split at h)<;>try cases h
  simp only[aY,beq_iff_eq] at h;obtain⟨rfl,h2⟩:=h;obtain⟨p1,p2⟩:=fU h2;exact .callo _ _ _ _ _ ‹_› (by simpa using p1) p2
 ·(repeat' split at h)<;>try cases h
  simp only[aY] at h;obtain⟨h1,h2⟩:=h;obtain⟨p1,p2⟩:=fU h2;exact .callvo _ _ _ (aN h1) _ _ _ ‹_› (by simpa using p1) p2
 ·(repeat' split at h)<;>try cases h
  simp only[aY] at h;obtain⟨h1,h2,h3⟩:=h;obtain⟨z1,z2⟩:=oV h1;obtain⟨o1,o2⟩:=u9 h2;obtain⟨p1,p2⟩:=fU h3;refine .bldo _ _ _ _ _ ‹_› _ ‹_› _ _ ‹_› ‹_› _ ‹_› (by simpa using z1) (fun i c v hc hv=>z2 i c v hc (by simpa using hv)) (by simpa using o1) (by simpa using p1) (fun k p o hp ho=>o2 k p o (by simpa using hp) ho) fun k p oo hp ho=>p2 k p.2 oo (by rw[List.getElem?_map];simp[hp]) ho
 ·split at h
  ·split at h
   ·rename_i hu
    simp only[aY,decide_eq_true_eq] at h;obtain⟨rfl,h2,h3⟩:=h;exact .eqp _ _ _ _ _ _ _ (aN h2) (aN h3) ‹_› (by simp[Program.pointee,hu])
   ·cases h
  ·cases h
 ·(repeat' split at h)<;>try cases h
  simp only[aY,decide_eq_true_eq] at h;obtain⟨rfl,⟨⟨h3,h4,h5⟩,h8⟩,h6,h7⟩:=h;exact .appd _ _ _ _ _ _ _ _ _ (aN h6) (aN h7) ‹_› ‹_› _ _ ‹_› ‹_› h3 h4 h5 h8
 ·(repeat' split at h)<;>try cases h
  simp only[aY,decide_eq_true_eq] at h;obtain⟨h1,⟨rfl,h3,h5⟩,h6,h7,h8⟩:=h;obtain⟨z,hz⟩:=Option.isSome_iff_exists.1 h1;obtain⟨p1,p2⟩:=fU h8;exact .bsld _ _ _ _ _ _ _ _ ‹_› ‹_› _ z ‹_› hz h3 h5 h6 (xR h7) p1 p2
 ·split at h
  ·split at h
   ·simp only[aY] at h
    obtain⟨h1,h2,h3⟩:=h;obtain⟨isA,hty⟩:=LQ h1;exact .slx _ isA _ _ _ _ _ _ (aN h2) (aN h3) ‹_› ‹_› hty
   ·cases h
  ·cases h
 ·(repeat' split at h)<;>try cases h
  simp only[aY,decide_eq_true_eq] at h;obtain⟨rfl,h0,h1,h2,h3⟩:=h;exact .lookx _ _ _ _ _ _ _ _ _ _ _ _ (aN h2) (aN h3) ‹_› ‹_› (EV h0) ‹_› ‹_› (QZ h1)
 ·split at h
  ·simp only[aY,Option.isNone_iff_eq_none] at h
   obtain⟨h1,h2,h3,h4,h5⟩:=h;obtain⟨kt,et,e1,e2⟩:=y8 h1;exact .mupx _ _ _ _ _ _ _ _ _ _ (aN h3) (aN h4) (aN h5) ‹_› h2 e1 e2
  ·cases h
 ·(repeat' split at h)<;>try cases h
  simp only[aY] at h;obtain⟨h1,h2,h3⟩:=h;obtain⟨kt,et,e1,e2⟩:=y8 h1;exact .mdel _ _ _ _ _ _ _ _ _ (aN h2) (aN h3) ‹_› rfl e1 e2
 ·split at h
  ·simp only[aY] at h
   obtain⟨h1,h3,h4⟩:=h;obtain⟨kt,et,e1,e2⟩:=y8 h1;exact .mpe _ _ _ _ _ _ _ _ (aN h3) (aN h4) ‹_› e1 e2
  ·cases h
 ·split at h
  ·simp only[aY] at h
   exact .lda _ _ (gY h.1) _ _ (aN h.2) ‹_›
  ·cases h
 ·split at h
  ·simp only[aY,Option.isNone_iff_eq_none] at h
   obtain⟨h2,h3,h4,h5⟩:=h;exact .ents _ _ _ _ _ _ _ (aN h3) (aN h4) (aN h5) ‹_› h2
  ·cases h
 ·(repeat' split at h)<;>try cases h
  exact .mlen _ _ _ _ _ (aN h) ‹_› ‹_›
 ·(repeat' split at h)<;>try cases h
  simp only[aY,beq_iff_eq] at h;obtain⟨rfl,h2⟩:=h;obtain⟨p1,p2⟩:=fU h2;exact .callr _ _ _ _ ‹_› (by simpa using p1) p2
 ·cases h
def XV(P:Program)(o:Oper):Kd->List O->Bool
 | .mov _,[ox]=>match o.op with
  | .move x=>bO x ox
  | .assign x=>bO x ox
  |_=>false
 | .pick,[oc,ox,oy]=>match o.op with
  | .pick c x y=>bO c oc&&(bO x ox&&bO y oy)
  |_=>false
 | .box _ size,[ox]=>match o.op with
  | .box _ x=>decide (size≠0)&&bO x ox
  |_=>false
 | .alloc _ size zero,[]=>match o.op with
  | .alloc t=>match P.info? t with
   |some i=>match i.zero with
    |some z=>decide (size≠0)&&NR zero z.cells.toList
    |none=>false
   |none=>false
  |_=>false
 | .build zero offs,os=>match o.op with
  | .build t parts=>match P.underlying t with
   |some (.struct fields)=>match P.info? t with
    |some it=>match it.zero with
     |some z=>match fields.toList.mapM (fun f=>(P.info? f.type).map fun i=>(f.offset,i.size)) with
      |some places=>zB zero z.cells.toList&&(vC places zero.length parts.toList offs&&CR (parts.toList.map (·.2)) os)
      |none=>false
     |none=>false
    |none=>false
   |_=>false
  |_=>false
 | .bsl size n,os=>match o.op with
  | .buildSlice t m parts=>match P.underlying t with
   |some (.slice e)=>match P.info? e with
    |some i=>i.zero.isSome&&(o.dst.isSome&&(decide (m=n/\i.size=size/\0<size/\n*size<=16777216)&&(decide (n<=maxLen)&&(IR 0 parts.toList&&CR (parts.toList.map (·.2)) os))))
    |none=>false
   |_=>false
  |_=>false
 | .load n isA _,[ox]=>match o.op with
  | .load t x=>uJ P t n isA&&bO x ox
  |_=>false
 | .loadp n isA,[ox]=>match o.op with
  | .load t x=>uJ P t n isA&&bO x ox
  |_=>false
 | .store n,[ox,oy]=>match o.op with
  | .store t x y=>(uJ P t n true||uJ P t n false)&&(bO x ox&&(bO y oy&&(o.dst.isNone&&(match oy,ox with | .t m,.t m'=>m !=m'|_,_=>true))))
  |_=>false
 | .bin op,[ox,oy]=>match o.op with
  | .binOp op' _ x y _=>decide (op'=op)&&(bO x ox&&bO y oy)
  |_=>false
 | .eqnil neq,[ox,oy]=>match o.op with
  | .binOp op t x y _=>match P.underlying t with
   |some (.slice _)=>decide (op=if neq then .neq else .eql)&&(bO x ox&&(bO y oy&&(match oy with | .t _=>false|_=>true)))
   |_=>false
  |_=>false
 | .un op,[ox]=>match o.op with
  | .unOp op' _ x=>decide (op'=op)&&bO x ox
  |_=>false
 | .conv k,[ox]=>match o.op with
  | .convert src dst x=>match P.underlying dst with
   |some (.int k')=>decide (k'=k)&&((P.underlying src).isSome&&bO x ox)
   |_=>false
  |_=>false
 | .fad off,[ox]=>match o.op with
  | .fieldAddr t x f=>match P.underlying t with
   |some (.struct fs)=>match fs[f]? with
    |some fd=>match P.info? fd.type with
     |some i=>decide (i.size≠0/\fd.offset=off)&&bO x ox
     |none=>false
    |none=>false
   |_=>false
  |_=>false
 | .fld off n isA,[ox]=>match o.op with
  | .field t x f=>match P.underlying t with
   |some (.struct fs)=>match fs[f]? with
    |some fd=>uJ P fd.type n isA&&(decide (fd.offset=off)&&bO x ox)
    |none=>false
   |_=>false
  |_=>false
 | .iad size,[ox,oi]=>match o.op with
  | .indexAddr t x ix=>match P.underlying t with
   |some (.slice e)=>(uJ P e size true||uJ P e size false)&&(bO x ox&&bO ix oi)
   |_=>false
  |_=>false
 | .sidx,[ox,oi]=>match o.op with
  | .index t x ix=>match P.underlying t with
   |some .string=>bO x ox&&bO ix oi
   |_=>false
  |_=>false
 | .len,[ox]=>match o.op with
  | .call { callee:=.builtin .len,args:=⟨[x]⟩,argTypes:=⟨[t]⟩ }=>match P.underlying t with
   |some (.slice _)=>bO x ox
   |_=>false
  |_=>false
 | .lenD,[ox]=>match o.op with
  | .call { callee:=.builtin .len,args:=⟨[x]⟩,argTypes:=⟨[t]⟩ }=>match P.underlying t with
   |some (.slice _)=>bO x ox
   |_=>false
  |_=>false
 | .slen,[ox]=>match o.op with
  | .call { callee:=.builtin .len,args:=⟨[x]⟩,argTypes:=⟨[t]⟩ }=>match P.underlying t with
   |some .string=>bO x ox
   |_=>false
  |_=>false
 | .mn,[ox,oy]=>match o.op with
  | .call { callee:=.builtin .min,args:=⟨[x,y]⟩,argTypes:=⟨[t,t']⟩ }=>decide (t=t')&&(bO x ox&&bO y oy)
  |_=>false
 | .mx,[ox,oy]=>match o.op with
  | .call { callee:=.builtin .max,args:=⟨[x,y]⟩,argTypes:=⟨[t,t']⟩ }=>decide (t=t')&&(bO x ox&&bO y oy)
  |_=>false
 | .app size bytes,[ox,oy]=>match o.op with
  | .call { callee:=.builtin .append,args:=⟨[x,y]⟩,argTypes:=⟨[t,t']⟩ }=>match P.underlying t with
   |some (.slice e)=>match P.info? e with
    |some i=>match i.zero with
     |some z=>decide (t=t')&&(o.dst.isSome&&(decide (i.size=size/\i.bytes=bytes/\z.cells.size=size)&&(bO x ox&&bO y oy)))
     |none=>false
    |none=>false
   |_=>false
  |_=>false
 | .ext j,[ox]=>match o.op with
  | .extract x j'=>j' ==j&&bO x ox
  |_=>false
 | .extp j,[ox]=>match o.op with
  | .extract x j'=>j' ==j&&bO x ox
  |_=>false
 | .call f,os=>match o.op with
  | .call { callee:=.value (.func f'),args:=xs,.. }=>f' ==f&&CR xs.toList os
  |_=>false
 | .callv,ox ::os=>match o.op with
  | .call { callee:=.value x,args:=xs,.. }=>bO x ox&&CR xs.toList os
  |_=>false
 | .mkfn f,os=>match o.op with
  | .makeFunc (.func f') ⟨[]⟩ caps=>f' ==f&&CR caps.toList os
  |_=>false
 | .mksl _ size bytes _ zero,[ox,oy]=>match o.op with
  | .makeSlice t x y=>match P.underlying t with
   |some (.slice e)=>match P.info? e with
    |some i=>match i.zero with
     |some z=>decide ((i.size=size/\i.bytes=bytes)/\size≠0)&&(NR zero z.cells.toList&&(bO x ox&&bO y oy))
     |none=>false
    |none=>false
   |_=>false
  |_=>false
 | .slc size lo hi,ox ::ys=>match o.op with
  | .slice t x l h none=>match P.underlying t with
   |some (.slice e)=>(uJ P e size true||uJ P e size false)&&(bO x ox&&(decide (lo=l.isSome)&&(decide (hi=h.isSome)&&(match l,h,ys with
    |some l,some m,[ol,om]=>bO l ol&&bO m om
    |some l,none,[ol]=>bO l ol
    |none,some m,[om]=>bO m om
    |_,_,_=>false))))
   |_=>false
  |_=>false
 | .nilchk,[ox]=>match o.op with
  | .nilCheck x=>bO x ox
  |_=>false
 | .ssl lo hi,ox ::ys=>match o.op with
  | .slice t x l h none=>match P.underlying t with
   |some .string=>bO x ox&&(decide (lo=l.isSome)&&(decide (hi=h.isSome)&&(match l,h,ys with
    |some l,some m,[ol,om]=>bO l ol&&bO m om
    |some l,none,[ol]=>bO l ol
    |none,some m,[om]=>bO m om
    |_,_,_=>false)))
   |_=>false
  |_=>false
 | .slb _ size,[ox,om]=>match o.op with
  | .slice t x none (some m) none=>match P.underlying t with
   |some (.slice e)=>(uJ P e size true||uJ P e size false)&&(bO x ox&&bO m om)
   |_=>false
  |_=>false
 | .stk,_=>true
 | .mkmap _,[]=>match o.op with
  | .makeMap _ none=>true
  |_=>false
 | .look q zero,[ox,oy]=>match o.op with
  | .lookup t x y false=>match P.underlying t with
   |some (.map kt et)=>match P.underlying kt,P.info? et with
    |some (.int q'),some i=>match i.zero with
     |some zv=>decide (q'=q)&&(UT zero zv&&(bO x ox&&bO y oy))
     |none=>false
    |_,_=>false
   |_=>false
  |_=>false
 | .mupd q,[ox,oy,oz]=>match o.op with
  | .mapUpdate t x y z=>match P.underlying t with
   |some (.map kt _)=>match P.underlying kt with
    |some (.int q')=>decide (q'=q)&&(o.dst.isNone&&(bO x ox&&(bO y oy&&bO z oz)))
    |_=>false
   |_=>false
  |_=>false
 | .eqat true,[ox,_]=>match o.op with
  | .binOp .neq t x (.const .nilIface) _=>match P.underlying t with
   |some (.interface _)=>bO x ox
   |_=>false
  |_=>false
 | .eqs n neq,[ox,oy]=>match o.op with
  | .binOp op t x y _=>match P.underlying t with
   |some (.struct fs)=>decide (op=if neq then .neq else .eql)&&(decide (fs.toList.length=n)&&(FG P fs.toList 0&&(!P.stoodInHeld t&&(!P.eqGuardType P.depth t&&(bO x ox&&bO y oy)))))
   |_=>false
  |_=>false
 | .eqb neq,[ox,oy]=>match o.op with
  | .binOp op t x y _=>match P.underlying t with
   |some .bool=>decide (op=if neq then .neq else .eql)&&(bO x ox&&bO y oy)
   |_=>false
  |_=>false
 | .mkz size bytes row,[ox,oy]=>match o.op,o.dst with
  | .makeSlice t x y,some _=>match P.underlying t with
   |some (.slice e)=>match P.info? e with
    |some i=>match i.zero with
     |some z=>decide ((i.size=size/\i.bytes=bytes)/\0<size)&&(zB (aE row) z.cells.toList&&(bO x ox&&bO y oy))
     |none=>false
    |none=>false
   |_=>false
  |_,_=>false
 | .s2b,[ox]=>match o.op with
  | .convert src dst x=>match P.underlying src,P.underlying dst with
   |some .string,some (.slice e)=>match P.underlying e with
    |some (.int .u8)=>bO x ox
    |_=>false
   |_,_=>false
  |_=>false
 | .callm f _,os=>match o.op with
  | .call { callee:=.value (.func f'),args:=xs,.. }=>f' ==f&&CR xs.toList os
  |_=>false
 | .ob κ,os=>RT P o κ os
 |_,_=>false
theorem sF{t:TypeId}{n:Nat}(h:(uJ P t n true||uJ P t n false)=true):∃isA,TyIs P t n isA:=by
 simp only[Bool.or_eq_true] at h;rcases h with h|h
 ·exact⟨_,gY h⟩
 ·exact⟨_,gY h⟩
theorem sM{α:Type}{x:Option α}(h:x.isSome=true):∃y,x=some y:=Option.isSome_iff_exists.1 h
theorem DY{o:Oper}{κ:Kd}{xs:List O}(h:XV P o κ xs=true):Tr P o κ xs:=by
 unfold XV at h
 split at h
 ·split at h
  ·exact .mov _ _ _ (aN h) (.inl ‹_›)
  ·exact .mov _ _ _ (aN h) (.inr ‹_›)
  ·cases h
 ·split at h
  ·simp only[aY] at h
   exact .pick _ _ _ _ _ _ (aN h.1) (aN h.2.1) (aN h.2.2) ‹_›
  ·cases h
 ·split at h
  ·simp only[aY,decide_eq_true_eq] at h
   exact .box _ _ _ _ _ (aN h.2) ‹_› h.1
  ·cases h
 ·(repeat' split at h)<;>try cases h
  simp only[aY,decide_eq_true_eq] at h;exact .alloc _ _ _ _ _ _ ‹_› ‹_› ‹_› (JR h.2) h.1
 ·(repeat' split at h)<;>try cases h
  simp only[aY] at h;obtain⟨h1,h2,h3⟩:=h;obtain⟨z1,z2⟩:=oV h1;obtain⟨o1,o2⟩:=u9 h2;obtain⟨p1,p2⟩:=fU h3;refine .build _ _ _ _ _ ‹_› _ ‹_› _ _ ‹_› ‹_› _ ‹_› (by simpa using z1) (fun i c v hc hv=>z2 i c v hc (by simpa using hv)) (by simpa using o1) (by simpa using p1) (fun k p o hp ho=>o2 k p o (by simpa using hp) ho) fun k p oo hp ho=>p2 k p.2 oo (by rw[List.getElem?_map];simp[hp]) ho
 ·(repeat' split at h)<;>try cases h
  simp only[aY,decide_eq_true_eq] at h;obtain⟨h1,h2,⟨rfl,h3,h4,h5⟩,h6,h7,h8⟩:=h;obtain⟨z,hz⟩:=sM h1;obtain⟨d,hd⟩:=sM h2;obtain⟨p1,p2⟩:=fU h8;exact .bsl _ _ _ _ _ _ _ ‹_› d hd ‹_› _ z ‹_› hz h3 h4 h5 h6 (xR h7) p1 p2
 ·split at h
  ·simp only[aY] at h
   exact .load _ _ _ _ (gY h.1) _ _ (aN h.2) ‹_›
  ·cases h
 ·split at h
  ·simp only[aY] at h
   exact .loadp _ _ _ (gY h.1) _ _ (aN h.2) ‹_›
  ·cases h
 ·split at h
  ·simp only[aY] at h
   obtain⟨h1,h2,h3,h4,h5⟩:=h;obtain⟨isA,hty⟩:=sF h1;refine .store _ isA _ hty _ _ _ _ (aN h2) (aN h3) ‹_› (by simpa using h4) fun m e1 e2=>?_
   subst e1;subst e2;simp at h5
  ·cases h
 ·split at h
  ·simp only[aY,decide_eq_true_eq] at h
   obtain⟨rfl,h2,h3⟩:=h;exact .bin _ _ _ _ _ _ _ (aN h2) (aN h3) ‹_›
  ·cases h
 ·split at h
  ·split at h
   ·simp only[aY,decide_eq_true_eq] at h
    obtain⟨rfl,h2,h3,h4⟩:=h;refine .eqnil _ _ _ _ _ _ _ _ (aN h2) (aN h3) ‹_› ‹_› fun n e=>?_
    subst e;simp at h4
   ·cases h
  ·cases h
 ·split at h
  ·simp only[aY,decide_eq_true_eq] at h
   obtain⟨rfl,h2⟩:=h;exact .un _ _ _ _ (aN h2) ‹_›
  ·cases h
 ·(repeat' split at h)<;>try cases h
  simp only[aY,decide_eq_true_eq] at h;obtain⟨rfl,h2,h3⟩:=h;exact .conv _ _ _ _ _ (aN h3) ‹_› (sM h2) ‹_›
 ·(repeat' split at h)<;>try cases h
  simp only[aY,decide_eq_true_eq] at h;obtain⟨⟨h1,h2⟩,h3⟩:=h;exact .fad _ _ _ _ _ (aN h3) ‹_› _ _ _ ‹_› ‹_› ‹_› h1 h2
 ·(repeat' split at h)<;>try cases h
  simp only[aY,decide_eq_true_eq] at h;obtain⟨h1,h2,h3⟩:=h;exact .fld _ _ _ _ _ _ _ (aN h3) ‹_› _ _ ‹_› ‹_› (gY h1) h2
 ·(repeat' split at h)<;>try cases h
  simp only[aY] at h;obtain⟨h1,h2,h3⟩:=h;obtain⟨isA,hty⟩:=sF h1;exact .iad _ isA _ _ _ _ _ _ (aN h2) (aN h3) ‹_› ‹_› hty
 ·(repeat' split at h)<;>try cases h
  simp only[aY] at h;exact .sidx _ _ _ _ _ (aN h.1) (aN h.2) ‹_› ‹_›
 ·(repeat' split at h)<;>try cases h
  exact .len _ _ _ _ (aN h) ‹_› ‹_›
 ·(repeat' split at h)<;>try cases h
  exact .lenD _ _ _ _ (aN h) ‹_› ‹_›
 ·(repeat' split at h)<;>try cases h
  exact .slen _ _ _ (aN h) ‹_› ‹_›
 ·(repeat' split at h)<;>try cases h
  simp only[aY,decide_eq_true_eq] at h;obtain⟨rfl,h2,h3⟩:=h;exact .minmax false _ _ _ _ _ (aN h2) (aN h3) ‹_›
 ·(repeat' split at h)<;>try cases h
  simp only[aY,decide_eq_true_eq] at h;obtain⟨rfl,h2,h3⟩:=h;exact .minmax true _ _ _ _ _ (aN h2) (aN h3) ‹_›
 ·(repeat' split at h)<;>try cases h
  simp only[aY,decide_eq_true_eq] at h;obtain⟨rfl,h2,⟨h3,h4,h5⟩,h6,h7⟩:=h;obtain⟨d,hd⟩:=sM h2;exact .app _ _ _ _ _ _ _ _ (aN h6) (aN h7) ‹_› d hd ‹_› _ _ ‹_› ‹_› h3 h4 h5
 ·(repeat' split at h)<;>try cases h
  simp only[aY,beq_iff_eq] at h;obtain⟨rfl,h2⟩:=h;exact .ext _ _ _ (aN h2) ‹_›
 ·(repeat' split at h)<;>try cases h
  simp only[aY,beq_iff_eq] at h;obtain⟨rfl,h2⟩:=h;exact .extp _ _ _ (aN h2) ‹_›
 ·(repeat' split at h)<;>try cases h
  simp only[aY,beq_iff_eq] at h;obtain⟨rfl,h2⟩:=h;obtain⟨p1,p2⟩:=fU h2;exact .call _ _ _ _ ‹_› (by simpa using p1) p2
 ·(repeat' split at h)<;>try cases h
  simp only[aY] at h;obtain⟨h1,h2⟩:=h;obtain⟨p1,p2⟩:=fU h2;exact .callv _ _ (aN h1) _ _ _ ‹_› (by simpa using p1) p2
 ·(repeat' split at h)<;>try cases h
  simp only[aY,beq_iff_eq] at h;obtain⟨rfl,h2⟩:=h;obtain⟨p1,p2⟩:=fU h2;exact .mkfn _ _ _ ‹_› (by simpa using p1) p2
 ·(repeat' split at h)<;>try cases h
  simp only[aY,decide_eq_true_eq] at h;obtain⟨⟨⟨h1,h2⟩,h0⟩,h3,h4,h5⟩:=h;exact .mksl _ _ _ _ _ _ _ _ _ _ _ (aN h4) (aN h5) ‹_› ‹_› _ _ ‹_› ‹_› h1 h2 (JR h3) h0
 ·split at h
  ·split at h
   ·simp only[aY,decide_eq_true_eq] at h
    obtain⟨h1,h2,rfl,rfl,h3⟩:=h;obtain⟨isA,hty⟩:=sF h1;refine .slc _ isA _ _ _ _ _ _ _ (aN h2) ‹_› ‹_› hty ?_
    split at h3
    ·simp only[aY] at h3;exact⟨aN h3.1,aN h3.2⟩
    ·exact aN h3
    ·exact aN h3
    ·cases h3
   ·cases h
  ·cases h
 ·split at h
  ·exact .nilchk _ _ (aN h) ‹_›
  ·cases h
 ·split at h
  ·split at h
   ·simp only[aY,decide_eq_true_eq] at h
    obtain⟨h2,rfl,rfl,h3⟩:=h;refine .ssl _ _ _ _ _ _ (aN h2) ‹_› ‹_› ?_
    split at h3
    ·simp only[aY] at h3;exact⟨aN h3.1,aN h3.2⟩
    ·exact aN h3
    ·exact aN h3
    ·cases h3
   ·cases h
  ·cases h
 ·split at h
  ·split at h
   ·simp only[aY] at h
    obtain⟨h1,h2,h3⟩:=h;obtain⟨isA,hty⟩:=sF h1;exact .slb _ _ isA _ _ _ _ _ _ (aN h2) (aN h3) ‹_› ‹_› hty
   ·cases h
  ·cases h
 ·exact .stk _
 ·split at h
  ·exact .mkmap _ _ ‹_›
  ·cases h
 ·split at h
  ·split at h
   ·split at h
    ·split at h
     ·simp only[aY,decide_eq_true_eq] at h
      obtain⟨rfl,h⟩:=h;exact .look _ _ _ _ _ _ _ _ _ _ _ (aN h.2.1) (aN h.2.2) ‹_› ‹_› ‹_› ‹_› ‹_› (E4 h.1)
     ·cases h
    ·cases h
   ·cases h
  ·cases h
 ·split at h
  ·split at h
   ·split at h
    ·simp only[aY,Option.isNone_iff_eq_none,decide_eq_true_eq] at h
     obtain⟨rfl,h⟩:=h;exact .mupd _ _ _ _ _ _ _ _ _ _ (aN h.2.1) (aN h.2.2.1) (aN h.2.2.2) ‹_› h.1 ‹_› ‹_›
    ·cases h
   ·cases h
  ·cases h
 ·split at h
  ·split at h
   ·exact .eqat _ _ _ _ _ _ (aN h) ‹_› ‹_›
   ·cases h
  ·cases h
 ·split at h
  ·split at h
   ·rename_i hu
    simp only[aY,decide_eq_true_eq,Bool.not_eq_true'] at h;obtain⟨rfl,h1,h2,h3,h4,h5,h6⟩:=h;have hfs:=BP hu;refine .eqs _ _ _ _ _ _ _ _ (aN h5) (aN h6) ‹_› (by rw[hfs];exact hu) h3 h4 (by rw[hfs];exact h1) fun i f hf=>?_
    rw[hfs] at hf;have:=KK h2 i f hf;rw[Nat.zero_add] at this;exact this
   ·cases h
  ·cases h
 ·split at h
  ·split at h
   ·simp only[aY,decide_eq_true_eq] at h
    obtain⟨rfl,h5,h6⟩:=h;exact .eqb _ _ _ _ _ _ _ (aN h5) (aN h6) ‹_› ‹_›
   ·cases h
  ·cases h
 ·(repeat' split at h)<;>try cases h
  simp only[aY,decide_eq_true_eq] at h;obtain⟨⟨⟨h1,h2⟩,h0⟩,h3,h4,h5⟩:=h;have hz:=oV h3;exact .mkz _ _ _ _ _ _ _ _ _ (aN h4) (aN h5) ‹_› _ ‹_› ‹_› _ _ ‹_› ‹_› h1 h2 (by simpa using hz.1) (fun i c v hc hv=>hz.2 i c v hc (by simpa using hv)) h0
 ·split at h
  ·split at h
   ·split at h
    ·exact .s2b _ _ _ _ _ (aN h) ‹_› ‹_› ‹_› ‹_›
    ·cases h
   ·cases h
  ·cases h
 ·(repeat' split at h)<;>try cases h
  simp only[aY,beq_iff_eq] at h;obtain⟨rfl,h2⟩:=h;obtain⟨p1,p2⟩:=fU h2;exact .callm _ _ _ _ _ ‹_› (by simpa using p1) p2
 ·exact .ob _ _ (LI h)
 ·cases h
def RB(P:Program)(o:Oper)(κ:Kd)(xs:List O):Bool :=
 match κ with
 | .at _ κ'=>(fF κ').isNone&&(!oK κ'&&XV P o κ' xs)
 | .pl κ'=>(fF κ').isNone&&(!oK κ'&&XV P o κ' xs)
 | κ'=>XV P o κ' xs
theorem M2{o:Oper}{κ:Kd}{xs:List O}(h:RB P o κ xs=true):TrJ P o κ xs:=by
 unfold RB at h
 split at h
 ·simp only[aY,Option.isNone_iff_eq_none,Bool.not_eq_true'] at h
  exact .at _ _ _ (DY h.2.2) h.1 h.2.1
 ·simp only[aY,Option.isNone_iff_eq_none,Bool.not_eq_true'] at h
  exact .pl _ _ (DY h.2.2) h.1 h.2.1
 ·exact .base _ _ (DY h)
def P1(P:Program)(ops:Array Oper)(o:Oper)(i:Ins):Bool :=
 decide (i.d=o.dst)&&(RB P o i.k i.xs&&match o.guard,i.g with
  |none,none=>true
  |some (j,want),some (t,want')=>want ==want'&&decide ((ops[j]?).bind (·.dst)=some t)
  |_,_=>false)
theorem ME{ops:Array Oper}{o:Oper}{i:Ins}(h:P1 P ops o i=true):TrI P ops o i:=by
 simp only[P1,aY,decide_eq_true_eq] at h;refine⟨h.1,M2 h.2.1,?_⟩;have h3:=h.2.2
 split at h3
 ·rename_i e1 e2;rw[e1,e2];trivial
 ·rename_i e1 e2;rw[e1,e2];simpa using h3
 ·cases h3
def vA(P:Program)(ops:Array Oper):List Oper->List Ins->Bool
 |[],[]=>true
 |o ::os,i ::is=>P1 P ops o i&&vA P ops os is
 |_,_=>false
theorem m9{ops:Array Oper}:∀{os:List Oper} {is:List Ins},vA P ops os is=true->os.length=is.length/\∀(k:Nat) i,is[k]?=some i->∃o,os[k]?=some o/\TrI P ops o i
 |[],[],_=>⟨rfl,fun k i h=>by simp at h⟩
 |o ::os,i ::is,h=>by
  simp only[vA,aY] at h;obtain⟨e1,e2⟩:=m9 h.2;refine⟨by simp[e1],fun k j hj=>?_⟩
  cases k with
  |zero=>simp at hj;subst hj;exact⟨o,rfl,ME h.1⟩
  |succ k=>obtain⟨o',h1,h2⟩:=e2 k j (by simpa using hj);exact⟨o',by simpa using h1,h2⟩
 |[],_ ::_,h=>by simp[vA] at h
 |_ ::_,[],h=>by simp[vA] at h
def MV:Nat->List Oper->List (Ins×List Nat)->Bool
 |k,o ::os,p ::ps=>nK o k p.2&&MV (k+1) os ps
 |_,_,_=>true
theorem FX:∀{os:List Oper} {l:List (Ins×List Nat)} {k:Nat},MV k os l=true->∀(j:Nat) o p,os[j]?=some o->l[j]?=some p->nK o (k+j) p.2=true
 |[],_,_,_,j,o,p,h,_=>by simp at h
 |_ ::_,[],_,_,j,o,p,_,h=>by simp at h
 |o0 ::os,p0 ::ps,k,h,j,o,p,ho,hp=>by
  simp only[MV,aY] at h
  cases j with
  |zero=>simp at ho hp;subst ho;subst hp;exact h.1
  |succ j=>rw[show k+(j+1)=(k+1)+j by omega];exact FX h.2 j o p (by simpa using ho) (by simpa using hp)
def KD:List (Ins×List Nat)->List Ins
 |[]=>[]
 |p ::l=>p.1 ::KD l
theorem ER(l:List (Ins×List Nat)):KD l=l.map (·.1):=by induction l with|nil=>rfl|cons p l ih=>simp[KD,ih]
def dW(P:Program):C->Code->Bool
 | .stuck,_=>true
 | .skip,.skip=>true
 | .reg is,.region _ ops false=>vA P ops ops.toList is
 | .regd is,.region _ ops true=>P.follows .mixedOrders&&(vA P ops ops.toList is&&EB ops is)
 | .rega is,.region _ ops true=>P.follows .mixedOrders&&(vA P ops ops.toList is&&(YK is&&kJ nI ops is))
 | .regm is,.region _ ops true=>P.follows .mixedOrders&&(vA P ops ops.toList is&&(stM is&&kJ nM ops is))
 | .seq a b,.seq x y=>dW P a x&&dW P b y
 | .cond o a b,.cond c x y=>bO c o&&(dW P a x&&dW P b y)
 | .block id a,.block id' x=>id' ==id&&dW P a x
 | .loop _ _ a,.loop x=>dW P a x
 | .exit id,.exit id'=>id' ==id
 | .ret,.ret=>true
 | .pre _ _ _ a,x=>dW P a x
 | .own _ _ _ a,x=>dW P a x
 | .gh _ a,x=>dW P a x
 | .gp a _,x=>dW P a x
 | .regx l,.region _ ops true=>P.follows .mixedOrders&&(vA P ops ops.toList (KD l)&&MV 0 ops.toList l)
 |_,_=>false
theorem y1:∀{c:C} {x:Code},dW P c x=true->TrC P c x:=by
 intro c
 induction c with
 |stuck=>intro x _;exact .stuck x
 |skip=>intro x h;cases x<;>simp[dW] at h;exact .skip
 |reg is=>
  intro x h;cases x<;>try (simp[dW] at h;done)
  rename_i id ops dr
  cases dr with
  |true=>simp[dW] at h
  |false=>
   obtain⟨e1,e2⟩:=m9 (show vA P ops ops.toList is=true from h)
   exact .reg id ops is (by simpa using e1) fun k i hi=>by obtain⟨o,h1,h2⟩:=e2 k i hi;exact⟨o,by simpa using h1,h2⟩
 |regd is=>
  intro x h;cases x<;>try (simp[dW] at h;done)
  rename_i id ops dr
  cases dr with
  |false=>simp[dW] at h
  |true=>
   simp only[dW,aY] at h;obtain⟨h0,h1,h2⟩:=h;obtain⟨e1,e2⟩:=m9 h1;exact .regd id ops is h0 (by simpa using e1) (fun k i hi=>by obtain⟨o,h1,h2⟩:=e2 k i hi;exact⟨o,by simpa using h1,h2⟩) h2
 |rega is=>
  intro x h;cases x<;>try (simp[dW] at h;done)
  rename_i id ops dr
  cases dr with
  |false=>simp[dW] at h
  |true=>
   simp only[dW,aY] at h;obtain⟨h0,h1,h2,h3⟩:=h;obtain⟨e1,e2⟩:=m9 h1;exact .rega id ops is h0 (by simpa using e1) (fun k i hi=>by obtain⟨o,h1,h2⟩:=e2 k i hi;exact⟨o,by simpa using h1,h2⟩) h2 h3
 |regm is=>
  intro x h;cases x<;>try (simp[dW] at h;done)
  rename_i id ops dr
  cases dr with
  |false=>simp[dW] at h
  |true=>
   simp only[dW,aY] at h;obtain⟨h0,h1,h2,h3⟩:=h;obtain⟨e1,e2⟩:=m9 h1;exact .regm id ops is h0 (by simpa using e1) (fun k i hi=>by obtain⟨o,h1,h2⟩:=e2 k i hi;exact⟨o,by simpa using h1,h2⟩) h2 h3
 |seq a b iha ihb=>intro x h;cases x<;>simp[dW] at h;exact .seq _ _ _ _ (iha h.1) (ihb h.2)
 |cond o a b iha ihb=>intro x h;cases x<;>simp[dW] at h;exact .cond _ _ _ _ _ _ (aN h.1) (iha h.2.1) (ihb h.2.2)
 |block id a iha=>intro x h;cases x<;>simp[dW] at h;obtain⟨rfl,h⟩:=h;exact .block _ _ _ (iha h)
 |loop fs ds a iha=>intro x h;cases x<;>simp[dW] at h;exact .loop _ _ _ _ (iha h)
 |exit id=>intro x h;cases x<;>simp[dW] at h;subst h;exact .exit _
 |ret=>intro x h;cases x<;>simp[dW] at h;exact .ret
 |pre fs zs ds a iha=>intro x h;exact .pre _ _ _ _ _ (iha h)
 |own i k ag a iha=>intro x h;exact .own _ _ _ _ _ (iha h)
 |gh g a iha=>intro x h;exact .gh _ _ _ (iha h)
 |gp a g iha=>intro x h;exact .gp _ _ _ (iha h)
 |regx l=>
  intro x h;cases x<;>try (simp[dW] at h;done)
  rename_i id ops dr
  cases dr with
  |false=>simp[dW] at h
  |true=>
   simp only[dW,aY] at h;obtain⟨h0,h1,h2⟩:=h;obtain⟨e1,e2⟩:=m9 h1;refine .regx id ops l h0 (by simpa [ER] using e1) fun k p hp=>?_
   obtain⟨o,g1,g2⟩:=e2 k p.1 (by rw[ER,List.getElem?_map,hp];rfl)
   exact⟨o,by simpa using g1,g2,by simpa using FX h2 k o p g1 hp⟩
def mN(P:Program):List ResultVar->List RV->Bool
 |[],[]=>true
 | .tmp t ::rs,.tmp t' ::l=>t' ==t&&mN P rs l
 | .cell t ty ::rs,.cell t' n ::l=>t' ==t&&(uJ P ty n true&&mN P rs l)
 |_,_=>false
theorem lN:∀{rs:List ResultVar} {l:List RV},mN P rs l=true->RVs P rs l
 |[],[],_=>.nil
 | .tmp t ::rs,.tmp t' ::l,h=>by simp[mN] at h;obtain⟨rfl,h⟩:=h;exact .tmp _ _ _ (lN h)
 | .cell t ty ::rs,.cell t' n ::l,h=>by simp[mN] at h;obtain⟨rfl,h1,h2⟩:=h;exact .cell _ _ _ _ _ (gY h1) (lN h2)
 |[],_ ::_,h=>by simp[mN] at h
 |_ ::_,[],h=>by simp[mN] at h
 | .tmp _ ::_,.cell _ _ ::_,h=>by simp[mN] at h
 | .cell _ _ ::_,.tmp _ ::_,h=>by simp[mN] at h
abbrev Z0:DV:=.p (.int .i64 0)
abbrev cI(x:Int):O:=.c (.p (.int .i64 x))
abbrev C.sr(l:List Ins)(c:C):C:=.seq (.reg l) c
structure Fn where
 n:Nat
 nb:Nat
 rv:List RV
 c:C
def aC(P:Program)(f:FuncId)(F:Fn):Bool :=
 match P.funcs[f]? with
 |some fn=>match fn.body with
  |some code=>fn.ntmps ==F.n&&(mN P fn.results.toList F.rv&&(decide (F.rv.map dX).Nodup&&(dW P F.c code&&fn.name != "runtime.NumGoroutine")))
  |none=>false
 |none=>false
def Fn.post(F:Fn)(r:DV)(s:St):Prop:=gE s F.rv fun xs=>cN xs=r
def Fn.vc(P:Program)(F:Fn)(args:List PV)(r:DV):Prop :=
 Vc.vc P F.c (NW F.n F.nb args) (F.post r) (fun _ _=>False) (F.post r)
theorem Fn.pure{f:FuncId}{F:Fn}(h:aC P f F=true){args:List PV}{r:DV}(hr:r.plain=true)(hv:F.vc P args r):aB P f args r:=by
 unfold aC at h
 split at h
 ·rename_i fn hf
  split at h
  ·rename_i code hb
   simp only[aY,beq_iff_eq,decide_eq_true_eq,bne_iff_ne] at h;obtain⟨h1,h2,h3,h4,h5⟩:=h;exact DA hf hb h5 (y1 h4) (lN h2) h3 hr (by rw[h1];exact hv)
  ·cases h
 ·cases h
def Fn.postM(F:Fn)(size:Nat)(rows':List (List DV))(r:DV)(s:St):Prop:=bF s.b F.nb=some ⟨true,size,rows',true⟩/\gE s F.rv fun xs=>cN xs=r
theorem Fn.mcall{f:FuncId}{F:Fn}(h:aC P f F=true){size:Nat}{args:List DV}{rows rows':List (List DV)}{r:DV}(hr:r.plain=true)(hrows:c9 rows=true)(hrows':c9 rows'=true)(hargs:args.all DV.arg=true)(hsz0:size≠0)
  (hv:Vc.vc P F.c (P7 F.n F.nb args size rows) (F.postM size rows' r) (fun _ _=>False) (F.postM size rows' r)):EU P f size args rows rows' r:=by
 unfold aC at h
 split at h
 ·rename_i fn hf
  split at h
  ·rename_i code hb
   simp only[aY,beq_iff_eq,decide_eq_true_eq,bne_iff_ne] at h;obtain⟨h1,h2,h3,h4,h5⟩:=h;exact AS hf hb h5 (y1 h4) (lN h2) h3 hr hrows hrows' hargs hsz0 (by rw[h1];exact hv)
  ·cases h
 ·cases h
def Fn.postO(F:Fn)(m:Nat)(bs':List (Option Box))(r:DV)(s:St):Prop:=r7 s F.rv fun r0=>AX s.b F.nb m r0=(bs',r)
theorem Fn.ocall{f:FuncId}{F:Fn}(h:aC P f F=true){args:List DV}{bs:List Box}{bs':List (Option Box)}{r:DV}(hr:(r.plain||r.isRef)=true)(hbs:rC bs=true)(hlen:Nat.ble bs.length bs'.length=true)
  (hv:Vc.vc P F.c (LP F.n F.nb args bs) (F.postO bs.length bs' r) (fun _ _=>False) (F.postO bs.length bs' r)):aM P f args bs bs' r:=by
 unfold aC at h
 split at h
 ·rename_i fn hf
  split at h
  ·rename_i code hb
   simp only[aY,beq_iff_eq,decide_eq_true_eq,bne_iff_ne] at h;obtain⟨h1,h2,h3,h4,h5⟩:=h;exact CO hf hb h5 (y1 h4) (lN h2) h3 hr hbs hlen (by rw[h1];exact hv)
  ·cases h
 ·cases h
end Go.Proofs.YtnjphclbpgajpaaGreatDoor.Vc
