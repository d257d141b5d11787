/- Part of a proof over a Go program: VcFrz, VcApp, VcCall. No condition. -/
import Derived.Test.YtnjphclbpgajpaaGreatDoorX01
import Derived.Great.BuildSlice
set_option linter.unnecessarySimpa false
set_option linter.unusedSectionVars false
set_option linter.unusedSimpArgs false
set_option linter.unusedVariables false
namespace Go.Proofs.YtnjphclbpgajpaaGreatDoor.Vc
open Go.RowKit
variable {P:Program}
theorem AC{α:Type}{size:Nat}(rows:List (List α))(hw:∀row,row∈rows->row.length=size)(j:Nat)(d : α)(h:rows.flatten[j]?=some d) :
  ∃r o row,j=r*size+o/\rows[r]?=some row/\row[o]?=some d/\o<size:=by
 induction rows generalizing j with
 |nil=>simp at h
 |cons row rows ih=>
  have h0:=hw row (by simp)
  rw[List.flatten_cons,List.getElem?_append] at h
  by_cases hj:j<row.length
  ·rw[if_pos hj] at h
   exact⟨0,j,row,by simp,by simp,h,by omega⟩
  ·rw[if_neg hj] at h
   obtain⟨r,o,row',e1,e2,e3,e4⟩:=ih (fun row hr=>hw row (by simp[hr])) _ h
   refine⟨r+1,o,row',?_,by simpa using e2,e3,e4⟩
   rw[Nat.add_mul];omega
theorem tW{ds:List DV}{xs:List PV}(h:fA ds=some xs):xs.length=ds.length/\∀(i:Nat) x,xs[i]?=some x->ds[i]?=some (.p x):=by
 induction ds generalizing xs with
 |nil=>simp[fA] at h;subst h;exact⟨rfl,fun i x hx=>by simp at hx⟩
 |cons d ds ih=>
  cases d with
  |p y=>
   simp only[fA] at h
   cases hds:fA ds with
   |none=>simp[hds] at h
   |some ys=>
    simp[hds] at h;subst h;obtain⟨e1,e2⟩:=ih hds;refine⟨by simp[e1],fun i x hx=>?_⟩
    cases i with
    |zero=>simp at hx;subst hx;rfl
    |succ i=>exact e2 i x (by simpa using hx)
  |_=>simp[fA] at h
theorem GC{ag:Bool}{rs:List (List DV)}{xs:List PV}(h:fZ ag rs=some xs):xs.length=rs.length/\∀(i:Nat) x,xs[i]?=some x->∃row cs,rs[i]?=some row/\fA row=some cs/\x=(if ag then .agg cs else cs.headD (.bool false)):=by
 induction rs generalizing xs with
 |nil=>simp[fZ] at h;subst h;exact⟨rfl,fun i x hx=>by simp at hx⟩
 |cons row rs ih=>
  simp only[fZ] at h
  cases hc:fA row with
  |none=>simp[hc] at h
  |some cs=>
   cases hrs:fZ ag rs with
   |none=>simp[hc,hrs] at h
   |some ys=>
    simp only[hc,hrs,bQ] at h;subst h;obtain⟨e1,e2⟩:=ih hrs;refine⟨by simp[e1],fun i x hx=>?_⟩
    cases i with
    |zero=>simp only[List.getElem?_cons_zero,bQ] at hx;subst hx;exact⟨row,cs,rfl,hc,rfl⟩
    |succ i=>exact e2 i x (by simpa using hx)
section
variable {G:Gl} {X:Cx} {s:St} {a:Act}
theorem EA(h:Rel G X s a){c:CapV}{x:PV}{v:Value}(hc:CRel X c v)(hf:c.frz s.b=some x):Flat X.M X.w x v:=by
 cases c with
 |p y=>simp[CapV.frz] at hf;subst hf;exact hc
 |addr k size r off=>
  obtain⟨blk,hρ,rfl⟩:=hc;simp only[CapV.frz] at hf
  cases hb:bF s.b k with
  |none=>simp[hb] at hf
  |some bx=>
   simp only[hb] at hf
   cases hl:bx.live with
   |true=>simp[hl] at hf
   |false=>
    simp only[hl,Bool.false_eq_true,if_false] at hf
    cases hcs:fA bx.rows.flatten with
    |none=>simp[hcs] at hf
    |some cs=>
     simp[hcs] at hf;subst hf;obtain⟨blk',cur,ty,hbr⟩:=h.cbox (b8 hb) (bG hb);have:blk'=blk:=by have:=hbr.ρ;rw[hρ] at this;injection this with h;exact h.symm
     subst this;obtain⟨e1,e2⟩:=tW hcs;obtain⟨f1,f2⟩:=hbr.fixed hl
     have hlen:cs.length=bx.rows.length*bx.size:=by
      rw[e1,List.length_flatten]
      have:bx.rows.map List.length=List.replicate bx.rows.length bx.size:=by
       apply List.eq_replicate_iff.2
       refine⟨by simp,fun n hn=>?_⟩
       obtain⟨row,hrow,rfl⟩:=List.mem_map.1 hn;exact hbr.width row hrow
      rw[this];simp
     have hcell:∀(j:Nat) c,cs[j]?=some c->∃u,cur[j]?=some u/\Flat X.M X.w c u/\u.oneCell'=true:=by
      intro j c hc;obtain⟨r',o',row,e3,e4,e5,e6⟩:=AC bx.rows hbr.width j (.p c) (e2 j c hc);obtain⟨u,g1,g2,g3,g4⟩:=hbr.cell e4 (i:=o') (bM.1 e5).1;rw[(bM.1 e5).2] at g3;subst e3;exact⟨u,g1,g3,g4⟩
     have:=Flat.ptr (M:=X.M) (w:=X.w) cs (r*size+off) blk' 0 (fun j=>cur.getD j undef) (fun j hj=>?_) (fun c hc=>?_) (fun j c hc=>?_)
     ·simpa using this
     ·rw[hlen] at hj
      have hj':j<cur.size:=Nat.lt_of_lt_of_le hj hbr.size;refine⟨by rw[dE hbr.heap];simp[Array.getD,hj'],by simpa using f1 j hj⟩
     ·obtain⟨j,hj⟩:=List.getElem?_of_mem hc
      obtain⟨u,_,g1,g2⟩:=hcell j c hj;exact g1.one_of_cell g2
     ·obtain⟨u,g0,g1,_⟩:=hcell j c hc
      have:cur.getD j undef=u:=by
       have:=(Array.getElem?_eq_some_iff.1 g0);simp[Array.getD,this.1,this.2]
      rw[this];exact g1
theorem MD(h:Rel G X s a){caps:List CapV}{xs:List PV}(hf:mR s.b caps=some xs):xs.length=caps.length /\
  ∀(j:Nat) c x u,caps[j]?=some c->xs[j]?=some x->CRel X c u->Flat X.M X.w x u:=by
 induction caps generalizing xs with
 |nil=>simp[mR] at hf;subst hf;exact⟨rfl,fun j c x u hc=>by simp at hc⟩
 |cons c cs ih=>
  simp only[mR] at hf
  cases h1:c.frz s.b with
  |none=>simp[h1] at hf
  |some x=>
   cases h2:mR s.b cs with
   |none=>simp[h1,h2] at hf
   |some ys=>
    simp[h1,h2] at hf;subst hf;obtain⟨e1,e2⟩:=ih h2;refine⟨by simp[e1],fun j c' x' u hc hx hr=>?_⟩
    cases j with
    |zero=>simp at hc hx;subst hc;subst hx;exact EA h hr h1
    |succ j=>exact e2 j c' x' u (by simpa using hc) (by simpa using hx) hr
theorem NP(h:Rel G X s a){L:Loc}{k size lo n:Nat}{ag:Bool}{x:PV}{v:Value}(hv:VRel X G.base L (.bs k size ag lo n) v)(hf:YU s.b k size ag lo n=some x):Flat X.M X.w x v:=by
 obtain⟨blk,cap,hρ,hnc,hcm,_,rfl⟩:=hv;simp only[YU] at hf
 cases hb:bF s.b k with
 |none=>simp[hb] at hf
 |some bx=>
  simp only[hb] at hf
  split at hf
  ·rename_i hcond
   obtain⟨hl,hag,rfl,rfl,rfl⟩:=hcond
   cases hrs:fZ ag bx.rows with
   |none=>simp[hrs] at hf
   |some rows=>
    simp[hrs] at hf;subst hf;obtain⟨blk',cur,ty,hbr⟩:=h.cbox (b8 hb) (bG hb);have:blk'=blk:=by have:=hbr.ρ;rw[hρ] at this;injection this with h;exact h.symm
    subst this;obtain⟨e1,e2⟩:=GC hrs;obtain⟨f1,f2⟩:=hbr.fixed hl
    have hrow:∀(i:Nat) x,rows[i]?=some x->(aE x).length=bx.size/\∀(j:Nat) c,(aE x)[j]?=some c->∃u,cur[i*bx.size+j]?=some u/\Flat X.M X.w c u/\c.one=true:=by
     intro i x hx;obtain⟨row,cs,g1,g2,rfl⟩:=e2 i x hx;obtain⟨c1,c2⟩:=tW g2;have hw:=hbr.width row (cD g1)
     have hcells:∀(j:Nat) c,cs[j]?=some c->∃u,cur[i*bx.size+j]?=some u/\Flat X.M X.w c u/\c.one=true:=by
      intro j c hc;have hd:=c2 j c hc;obtain⟨u,q1,q2,q3,q4⟩:=hbr.cell g1 (i:=j) (bM.1 hd).1;rw[(bM.1 hd).2] at q3;exact⟨u,q1,q3,Flat.one_of_cell q3 q4⟩
     cases ag with
     |true=>simp only[if_true,aE];exact⟨by rw[c1,hw],hcells⟩
     |false=>
      simp only[Bool.false_eq_true,if_false,false_or] at hag ⊢
      match cs,c1,hcells with
      |[c0],_,hcells=>
       obtain⟨u,q1,q2,q3⟩:=hcells 0 c0 rfl;rw[show ([c0]:List PV).headD (.bool false)=c0 from rfl,kN q3]
       exact⟨by simp[hag],hcells⟩
      |[],c1,_=>simp at c1;omega
      |_ ::_ ::_,c1,_=>simp at c1;omega
    have:=Flat.sl (M:=X.M) (w:=X.w) bx.size rows blk' 0 cap (fun j=>cur.getD j undef) (by rw[e1];exact hnc) hcm (fun j hj=>?_) (fun x hx=>?_) (fun x hx c hc=>?_) (fun i j x c hx hc=>?_)
    ·rw[e1] at this;simpa using this
    ·rw[e1] at hj
     have hj':j<cur.size:=Nat.lt_of_lt_of_le hj hbr.size;exact⟨by rw[dE hbr.heap];simp[Array.getD,hj'],by simpa using f1 j hj⟩
    ·obtain⟨i,hi⟩:=List.getElem?_of_mem hx
     exact(hrow i x hi).1
    ·obtain⟨i,hi⟩:=List.getElem?_of_mem hx
     obtain⟨j,hj⟩:=List.getElem?_of_mem hc;obtain⟨u,_,_,q⟩:=(hrow i x hi).2 j c hj;exact q
    ·obtain⟨u,q0,q1,_⟩:=(hrow i x hx).2 j c hc
     have:cur.getD (i*bx.size+j) undef=u:=by
      have:=(Array.getElem?_eq_some_iff.1 q0);simp[Array.getD,this.1,this.2]
     rw[this];exact q1
  ·cases hf
theorem W8(h:Rel G X s a){c:RfV}{x:PV}{v:Value}(hv:RRel X c v)(hf:c.frz s.b=some x):Flat X.M X.w x v:=by
 cases c with
 |p y=>simp[RfV.frz] at hf;subst hf;exact hv
 |addr k size r off=>exact EA (c:=.addr k size r off) h hv hf
 |bs k size ag lo n=>exact NP h (L:=.tmp 0) hv hf
 |mh k=>simp[RfV.frz] at hf
theorem K3(h:Rel G X s a):∀{cs:List RfV} {xs:List PV},wD s.b cs=some xs->xs.length=cs.length/\∀(j:Nat) c x v,cs[j]?=some c->xs[j]?=some x->RRel X c v->Flat X.M X.w x v
 |[],xs,hf=>by simp[wD] at hf;subst hf;exact⟨rfl,fun j c x v hc=>by simp at hc⟩
 |c ::cs,xs,hf=>by
  simp only[wD] at hf
  cases h1:c.frz s.b with
  |none=>simp[h1] at hf
  |some y=>
   cases h2:wD s.b cs with
   |none=>simp[h1,h2] at hf
   |some ys=>
    simp[h1,h2] at hf;subst hf;obtain⟨e1,e2⟩:=K3 h h2;refine⟨by simp[e1],fun j c' x' u hc hx hr=>?_⟩
    cases j with
    |zero=>simp at hc hx;subst hc;subst hx;exact W8 h hr h1
    |succ j=>exact e2 j c' x' u (by simpa using hc) (by simpa using hx) hr
theorem frz(h:Rel G X s a){L:Loc}{d:DV}{x:PV}{v:Value}(hv:VRel X G.base L d v)(hf:d.frz s.b=some x):Flat X.M X.w x v:=by
 cases d with
 |top=>simp[DV.frz] at hf
 |mh k=>simp[DV.frz] at hf
 |ob T=>simp[DV.frz] at hf
 |pk o=>simp[DV.frz] at hf
 |agd cs=>
  simp only[DV.frz] at hf
  cases hc:wD s.b cs with
  |none=>simp[hc] at hf
  |some xs=>
   simp[hc] at hf;subst hf;obtain⟨e1,e2⟩:=K3 h hc;obtain⟨vs,rfl,hl,hh⟩:=hv;refine .agg xs vs (by rw[hl,e1]) (fun c hcm=>?_) fun i c u hci hu=>?_
   ·obtain⟨i,hi⟩:=List.getElem?_of_mem hcm
    have hil:i<cs.length:=by rw[<-e1];exact(bM.1 hi).1
    have hiv:i<vs.size:=by rw[hl];exact hil
    obtain⟨q1,q2⟩:=hh i cs[i] vs[i] (by simp[hil]) (by simp[hiv])
    exact(e2 i cs[i] c vs[i] (by simp[hil]) hi q1).one_of_cell q2
   ·have hi:i<cs.length:=by rw[<-e1];exact(bM.1 hci).1
    exact e2 i cs[i] c u (by simp[hi]) hci (hh i cs[i] u (by simp[hi]) hu).1
 |tup ds=>simp[DV.frz] at hf
 |p y=>simp[DV.frz] at hf;subst hf;exact hv
 |ow size n rows=>simp[DV.frz] at hf;subst hf;exact OwRel.flat hv
 |addr k size r off=>exact EA (c:=.addr k size r off) h hv hf
 |fn f caps=>
  simp only[DV.frz] at hf
  cases hc:mR s.b caps with
  |none=>simp[hc] at hf
  |some xs=>
   simp[hc] at hf;subst hf;obtain⟨e1,e2⟩:=MD h hc;obtain⟨vs,rfl,hl,hh⟩:=hv;refine .fn f xs vs (by rw[hl,e1]) fun i c u hci hu=>?_
   have hi:i<caps.length:=by rw[<-e1];exact(bM.1 hci).1
   exact e2 i caps[i] c u (by simp[hi]) hci (hh i caps[i] u (by simp[hi]) hu)
 |bs k size ag lo n=>exact NP h hv hf
theorem xP(h:Rel G X s a){xs:List Operand}{os:List O}(hl:os.length=xs.length)(ho:∀(i:Nat) x o,xs[i]?=some x->os[i]?=some o->OT x o){ys:List PV}(hf:lH s.b (os.map (O.val s.t))=some ys) :
  ys.length=xs.length/\∀(j:Nat) x y,xs[j]?=some x->ys[j]?=some y->Flat X.M X.w y (a.eval x):=by
 induction os generalizing xs ys with
 |nil=>
  simp[lH] at hf;subst hf
  cases xs with
  |nil=>exact⟨rfl,fun j x y hx=>by simp at hx⟩
  |cons x xs=>simp at hl
 |cons o os ih=>
  cases xs with
  |nil=>simp at hl
  |cons x xs=>
   simp only[List.map_cons,lH] at hf
   cases h1:(o.val s.t).frz s.b with
   |none=>simp[h1] at hf
   |some y=>
    cases h2:lH s.b (os.map (O.val s.t)) with
    |none=>simp[h1,h2] at hf
    |some ys'=>
     simp[h1,h2] at hf;subst hf;obtain⟨e1,e2⟩:=ih (xs:=xs) (by simpa using hl) (fun i x o hx ho'=>ho (i+1) x o (by simpa using hx) (by simpa using ho')) h2
     refine⟨by simp[e1],fun j x' y' hx hy=>?_⟩
     cases j with
     |zero=>
      simp at hx hy;subst hx;subst hy;obtain⟨L,hr⟩:=h.opnd (ho 0 x o rfl rfl);exact frz h hr h1
     |succ j=>exact e2 j x' y' (by simpa using hx) (by simpa using hy)
end
open Go.RowKit
variable {P:Program}
def Cx.fresh(X:Cx)(m n0:Nat)(w':World):Cx :=
 {ρ := X.ρ
  own:=fun g=>if g=X.w.heap.size then some (.tmp m) else X.own g
  M:=fun b o=>if b=X.w.heap.size then n0<=o else X.M b o
  w:=w'
  ex:=X.ex }
structure NewBlock (w w':World) (cs:Array Value) (ty:TypeId):Prop where
 heap:w'.heap=w.heap.push (.cells cs ty)
 os:w'.os=w.os
 tape:w'.tape=w.tape
 output:w'.output=w.output
theorem NewBlock.below{w w':World}{cs:Array Value}{ty:TypeId}(h:NewBlock w w' cs ty){B:Nat}(hB:B<=w.heap.size):Below B w w':=by
 refine⟨h.os,h.tape,h.output,by rw[h.heap];simp,fun k hk=>?_⟩
 rw[h.heap,Array.getElem?_push,if_neg (by omega)]
theorem NewBlock.alloc(w:World)(cs:Array Value)(ty:TypeId):NewBlock w (w.alloc (.cells cs ty)) cs ty:=⟨rfl,rfl,rfl,rfl⟩
theorem NewBlock.drew(w:World)(cs:Array Value)(ty:TypeId):NewBlock w (w.drew.alloc (.cells cs ty)) cs ty:=⟨rfl,rfl,rfl,rfl⟩
theorem NewBlock.new{w w':World}{cs:Array Value}{ty:TypeId}(h:NewBlock w w' cs ty):w'.heap[w.heap.size]?=some (.cells cs ty (0,0)):=by rw[h.heap];simp
theorem oN{X:Cx}{m n0:Nat}{w':World}{cs:Array Value}{ty:TypeId}(h:NewBlock X.w w' cs ty):Ev (fun _=>True) X (X.fresh m n0 w'):=by
 refine⟨fun b o v hM hc=>?_,fun g L hg _ hlt=>⟨?_,?_,fun o hM=>?_⟩,rfl,.below fun b hb=>(h.below (Nat.le_refl _)).block b hb⟩
 ·have hlt:b<X.w.heap.size:=World.block_lt_of_cell? _ _ hc
  refine⟨(World.cell?_of_block (w:=X.w) ((h.below (Nat.le_refl _)).block b hlt)).trans hc,?_⟩
  show ¬(if b=X.w.heap.size then _ else X.M b o)
  rw[if_neg (by omega)];exact hM
 ·show (if g=X.w.heap.size then _ else X.own g)=_
  rw[if_neg (by omega)];exact hg
 ·exact(h.below (Nat.le_refl _)).block g hlt
 ·show (if g=X.w.heap.size then _ else X.M g o)
  rw[if_neg (by omega)];exact hM
theorem Rel.fresh{G:Gl}{X:Cx}{s:St}{a:Act}(h:Rel G X s a)(m n0:Nat){w':World}{cs:Array Value}{ty:TypeId}(hn:NewBlock X.w w' cs ty):Rel G (X.fresh m n0 w') s a:=by
 refine h.change (fun _=>True) (fun _ _ h=>h) (oN hn) (fun i d hd=>.inl ⟨trivial,fun _ _=>rfl⟩) (fun k bx hk=>.inl ⟨trivial,fun _ _=>trivial,rfl,fun _ _ _ _ _ _=>rfl⟩) (hn.below h.hb) (fun b hb o=>?_)
 have:=h.hb
 show (if b=X.w.heap.size then _ else X.M b o)↔_
 rw[if_neg (by omega)]
theorem Flat.list{M:Nat->Nat->Prop}{w:World}{size:Nat}{nl:Bool}{rows:List PV}{v:Value}(h:Flat M w (.sl size nl rows) v) :
  (∀row,row∈rows->(aE row).length=size/\∀c,c∈aE row->c.one=true) /\
  ∃(vs:List Value),vs.length=rows.length*size /\
   ((rows=[]/\∃b2 c2,v=.slice b2 0 c2)\/∃b o cap,v=.slice (some ⟨b,o,none⟩) rows.length cap/\∀j u,vs[j]?=some u->w.cell? ⟨b,o+j,none⟩=some u) /\
   (∀(i j:Nat) row c,rows[i]?=some row->(aE row)[j]?=some c->∃u,vs[i*size+j]?=some u/\Flat M w c u)/\(∀u,u∈vs->u.oneCell'=true):=by
 cases h with
 |nilsl=>exact⟨fun row hr=>by simp at hr,[],by simp,.inl ⟨rfl,_,_,rfl⟩,fun i j row c hr=>by simp at hr,fun u hu=>by simp at hu⟩
 |sl0=>exact⟨fun row hr=>by simp at hr,[],by simp,.inl ⟨rfl,_,_,rfl⟩,fun i j row c hr=>by simp at hr,fun u hu=>by simp at hu⟩
 |sl _ _ b off cap cv hcap hmax hc hs h1 hr=>
  refine⟨fun row hrow=>⟨hs row hrow,h1 row hrow⟩,(List.range (rows.length*size)).map cv,by simp,.inr ⟨b,off,cap,rfl,fun j u hu=>?_⟩,fun i j row c hri hcj=>?_,fun u hu=>?_⟩
  ·rw[List.getElem?_map] at hu
   cases hj:(List.range (rows.length*size))[j]? with
   |none=>rw[hj] at hu;simp at hu
   |some k=>
    rw[hj] at hu;have hk:=bM.1 hj;have hjl:j<rows.length*size:=by simpa using hk.1
    have:k=j:=by have:=hk.2;simp at this;exact this.symm
    subst this;simp at hu;subst hu;exact(hc k hjl).1
  ·have hil:=(bM.1 hri).1
   have hjl:=(bM.1 hcj).1;rw[hs row (cD hri)] at hjl
   have hlt:i*size+j<rows.length*size:=by
    have:(i+1)*size<=rows.length*size:=Nat.mul_le_mul_right _ hil;rw[Nat.add_mul] at this;omega
   exact⟨cv (i*size+j),by simp[hlt],hr i j row c hri hcj⟩
  ·obtain⟨k,hk,rfl⟩:=List.mem_map.1 hu
   have hk:k<rows.length*size:=by simpa using hk
   have hsz:0<size:=by
    rcases Nat.eq_zero_or_pos size with h0|h0
    ·subst h0;simp at hk
    ·exact h0
   have hkr:k/size<rows.length:=(Nat.div_lt_iff_lt_mul hsz).2 hk;have hkm:=Nat.mod_lt k hsz;have hrow:rows[k/size]?=some rows[k/size]:=by simp[hkr]
   have hm:=cD hrow;have hl:k%size<(aE rows[k/size]).length:=by rw[hs _ hm];exact hkm
   have hcell:(aE rows[k/size])[k%size]?=some (aE rows[k/size])[k%size]:=by simp[hl]
   have:=hr (k/size) (k%size) _ _ hrow hcell;have e:k/size*size+k%size=k:=by rw[Nat.mul_comm];exact Nat.div_add_mod k size
   rw[e] at this;exact this.oneCell (h1 _ hm _ (cD hcell))
theorem k8{M:Nat->Nat->Prop}{w:World}{size:Nat}{rows:List PV}{g cap:Nat}{cur:Array Value}{ty:TypeId}(hg:w.heap[g]?=some (.cells cur ty (0,0)))(hcap:rows.length<=cap)(hmax:cap<=maxLen)
  (hM:∀o,o<rows.length*size->¬M g o) (hsz:rows.length*size<=cur.size) (hs:∀row,row∈rows->(aE row).length=size/\∀c,c∈aE row->c.one=true)
  (hr:∀(i j:Nat) row c,rows[i]?=some row->(aE row)[j]?=some c->∃u,cur[i*size+j]?=some u/\Flat M w c u):Flat M w (.sl size false rows) (.slice (some ⟨g,0,none⟩) rows.length cap):=by
 refine .sl size rows g 0 cap (fun j=>cur.getD j undef) hcap hmax (fun j hj=>⟨?_,by simpa using hM j hj⟩) (fun row h=>(hs row h).1) (fun row h=>(hs row h).2) fun i j row c h1 h2=>?_
 ·rw[Nat.zero_add,dE hg]
  have:j<cur.size:=by omega
  simp[Array.getD,this]
 ·obtain⟨u,e,hu⟩:=hr i j row c h1 h2
  have:cur.getD (i*size+j) undef=u:=by
   have:=Array.getElem?_eq_some_iff.1 e;simp[Array.getD,this.1,this.2]
  rw[this];exact hu
section
variable {G:Gl} {X:Cx} {s:St} {a:Act} {Q:Exit->Act->World->Prop} {o:Oper} {K:St->Prop}
theorem Flat.keep{S:Loc->Prop}{X X':Cx}(h:Ev S X X'){x:PV}{v:Value}(hf:Flat X.M X.w x v):Flat X'.M X'.w x v:=hf.mono h.keeps
theorem s_bsl(h:Rel G X s a){size n:Nat}{t e:TypeId}{parts:Array (Nat×Operand)}{os:List O}{xs:List Operand}(ho:o.op=.buildSlice t n parts){d:Nat}(hd:o.dst=some d)
  (hu:P.underlying t=some (.slice e)) {i:TypeInfo} {z:Value} (hi:P.info? e=some i) (hz:i.zero=some z) (hsz:i.size=size) (hpos:0<size) (hn:n*size<=16777216) (hnm:n<=maxLen)
  (hp:parts.toList=(xs.zipIdx 0).map fun x=>(x.2,x.1)) (hl:os.length=xs.length) (hos:∀(j:Nat) x oo,xs[j]?=some x->os[j]?=some oo->OT x oo)
  (hK:aD P (.bsl size n) (os.map (O.val s.t)) s.b fun v b=>K ⟨aH s.t o.dst v,b⟩):o.wp P a X.w (aZ G K) Q:=by
 simp only[aD] at hK
 cases hps:cH (os.map (O.val s.t)) with
 |none=>simp[hps] at hK
 |some rows=>
  simp only[hps] at hK;obtain⟨hrl,hrs,hK⟩:=hK;obtain⟨e1,e2⟩:=lR hps;subst hsz;have hlen:xs.length=n:=by rw[<-hrl,e1];simp[hl]
  have hrow:∀(j:Nat) x r,xs[j]?=some x->rows[j]?=some r->Flat X.M X.w r (a.eval x):=by
   intro j x r hx hr;have hj:=(bM.1 hx).1;have hoj:os[j]?=some os[j]:=by simp[show j<os.length by omega]
   obtain⟨L,hv⟩:=h.opnd (hos j x os[j] hx hoj);exact EJ hv (e2 j _ r (by rw[List.getElem?_map,hoj];rfl) hr)
  generalize hvs:xs.map a.eval=vs;have hvl:vs.length=n:=by rw[<-hvs];simp[hlen]
  have hvcells:∀v∈vs,v.cells.size=i.size:=by
   intro v hv;rw[<-hvs] at hv;obtain⟨x,hx,rfl⟩:=List.mem_map.1 hv;obtain⟨j,hj⟩:=List.getElem?_of_mem hx;have hjl:=(bM.1 hj).1;have hr:rows[j]?=some rows[j]:=by simp[show j<rows.length by omega]
   rw[(hrow j x _ hj hr).cells.1,hrs _ (cD hr)]
  have hev:(parts.map fun (i,x)=>(i,a.eval x)).toList=(vs.zipIdx 0).map fun x=>(x.2,x.1):=by
   rw[Array.toList_map,hp, <-hvs,List.zipIdx_map,List.map_map,List.map_map]
   rfl
  rw[hd] at hK
  by_cases hn0:n=0
  ·subst hn0
   have hxs:xs=[]:=List.eq_nil_of_length_eq_zero hlen;have hrows:rows=[]:=List.eq_nil_of_length_eq_zero hrl;subst hxs;subst hrows
   have hp0:(parts.map fun (i,x)=>(i,a.eval x)) = #[]:=by
    apply Array.ext'
    rw[hev, <-hvs];rfl
   have run:(execOp a.eval o).run P X.w=.ok (.value (.slice (some ⟨X.w.heap.size,0,none⟩) 0 0)) (X.w.alloc (.cells #[] e)):=by
    simp only[execOp,ho,hp0];simp[Instr.buildSlice,run_underlying hu,sizeOf,typeInfo,hi,newRow,Instr.fill,Array.range_zero']
   unfold Oper.wp;rw[run,Oper.upon_value,hd];have hnb:=NewBlock.alloc X.w #[] e;exact⟨_,_,(h.fresh d 0 hnb).put (d:=some d) (v:=.ow i.size false []) (fun j hj=>.inl ⟨rfl,.inr ⟨rfl,_,_,rfl⟩⟩),rfl,hK⟩
  ·have hcap:=Go.Great.fill_whole hpos vs ((Array.range (n*i.size)).map (z.cells[·%z.cells.size]!)) hvcells (by simp[hvl])
   have hr:=run_buildSlice (P:=P) X.w t e n (parts.map fun (i,x)=>(i,a.eval x)) _ i z hu hi hz (by omega) (by
    intro h0;rcases Nat.mul_eq_zero.1 h0 with h0|h0<;>omega) (by rw[hev];exact hcap)
   generalize hcur:(vs.flatMap fun v=>v.cells.toList).toArray=cur at *
   have run:(execOp a.eval o).run P X.w=.ok (.value (.slice (some ⟨X.w.heap.size,0,none⟩) n n)) (X.w.alloc (.cells cur e)):=by
    simp only[execOp,ho,Sem.run_bind];rw[hr];rfl
   have hcg:∀k,cur[k]?=(vs[k/i.size]?).bind (fun v=>v.cells[k%i.size]?):=by
    intro k;rw[<-hcur,List.getElem?_toArray];exact Go.Great.flat_get hpos vs hvcells k
   have hcs:cur.size=n*i.size:=by
    rw[<-hcur,List.size_toArray,List.length_flatMap]
    have:vs.map (fun v=>v.cells.toList.length)=List.replicate vs.length i.size:=by
     apply List.eq_replicate_iff.2
     refine⟨by simp,fun m hm=>?_⟩
     obtain⟨v,hv,rfl⟩:=List.mem_map.1 hm
     simpa using hvcells v hv
    rw[this];simp[hvl]
   unfold Oper.wp;rw[run,Oper.upon_value,hd];have hnb:=NewBlock.alloc X.w cur e;have hev':=oN (m:=d) (n0:=n*i.size) hnb;refine⟨_,_,(h.fresh d (n*i.size) hnb).put (d:=some d) (v:=.ow i.size false rows) (fun j hj=>?_),rfl,hK⟩
   injection hj with hj
   subst hj
   have hfl:Flat (X.fresh d (n*i.size) (X.w.alloc (.cells cur e))).M (X.w.alloc (.cells cur e)) (.sl i.size false rows) (.slice (some ⟨X.w.heap.size,0,none⟩) rows.length n):=by
    refine k8 hnb.new (by omega) hnm (fun o ho=>?_) (by rw[hrl,hcs];exact Nat.le_refl _) (fun row hrm=>?_) (fun k j row c hr hc=>?_)
    ·show ¬(if X.w.heap.size=X.w.heap.size then n*i.size<=o else _)
     rw[if_pos rfl];rw[hrl] at ho;omega
    ·obtain⟨j,hj⟩:=List.getElem?_of_mem hrm
     have hjl:=(bM.1 hj).1;have hx:xs[j]?=some xs[j]:=by simp[show j<xs.length by omega]
     obtain⟨c1,c2⟩:=(hrow j _ row hx hj).cells;refine⟨hrs row hrm,fun c hc=>?_⟩
     obtain⟨q,hq⟩:=List.getElem?_of_mem hc;have hql:=(bM.1 hq).1;have:(a.eval xs[j]).cells[q]?=some (a.eval xs[j]).cells[q]:=by simp[show q<(a.eval xs[j]).cells.size by omega]
     exact(c2 q c _ hq this).2
    ·have hkl:=(bM.1 hr).1
     have hx:xs[k]?=some xs[k]:=by simp[show k<xs.length by omega]
     obtain⟨c1,c2⟩:=(hrow k _ row hx hr).cells;have hjl:=(bM.1 hc).1;have hjs:j<i.size:=by rw[hrs row (cD hr)] at hjl;exact hjl
     have hu':(a.eval xs[k]).cells[j]?=some (a.eval xs[k]).cells[j]:=by simp[show j<(a.eval xs[k]).cells.size by omega]
     have hvk:∀(l:List Value),xs.map a.eval=l->l[k]?=some (a.eval xs[k]):=fun l hl=>by rw[<-hl,List.getElem?_map,hx];rfl
     refine⟨_,?_,(c2 j c _ hc hu').1.mono hev'.keeps⟩;rw[hcg,Nat.mul_comm,Nat.mul_add_div hpos,Nat.div_eq_of_lt hjs,Nat.mul_add_mod,Nat.mod_eq_of_lt hjs,Nat.add_zero,hvk vs hvs];exact hu'
   refine .inr ⟨rfl,X.w.heap.size,n,cur,e,by rw[hrl],?_,h.hb,hnb.new,hcs,?_,fun o ho=>?_⟩
   ·show (if X.w.heap.size=X.w.heap.size then _ else _)=_;rw[if_pos rfl]
   ·rw[hrl] at hfl;exact hfl
   ·show (if X.w.heap.size=X.w.heap.size then n*i.size<=o else _)
    rw[if_pos rfl];rw[hrl] at ho;exact ho
theorem fT{t ty e:TypeId}(hu:P.underlying t=some (.slice e)){i:TypeInfo}(hi:P.info? e=some i)(b:Option Addr)(n c:Nat)(hnc:n<=c)(b2:Option Addr)(c2:Nat)(w:World) :
  (Builtin.append_ #[t,t] ty #[.slice b n c,.slice b2 0 c2]).run P w=.ok (.slice b n c) w:=by
 have hu2:∀w,(underlying t).run P w=.ok (.slice e) w:=run_underlying hu;cases b<;>cases b2<;>simp[Builtin.append_,hu2,sizeOf,typeInfo,hi,Builtin.lenOf,hnc,Builtin.firstCells,loadCells,loadCellsFrom,storeCells]
theorem iV{t ty e ty':TypeId}{i:TypeInfo}(ht:P.underlying t=some (.slice e))(hi:P.info? e=some i)
  (w:World) (g sLen sCap:Nat) (cur:Array Value) (hg:w.heap[g]?=some (.cells cur ty' (0,0)))
  (b:Addr) (m c:Nat) (news:List Value) (hl:news.length=m*i.size) (hnews:∀j u,news[j]?=some u->w.cell? (b.add j)=some u) (h1:∀u∈news,u.oneCell'=true)
  (hroom:sLen+m<=sCap) (hfit:sLen*i.size+news.length<=cur.size) :
  (Builtin.append_ #[t, t] ty #[.slice (some ⟨g, 0, none⟩) sLen sCap, .slice (some b) m c]).run P w =
   .ok (.slice (some ⟨g,0,none⟩) (sLen+m) sCap) (w.setRow g (cur.toList.take (sLen*i.size)++news++cur.toList.drop (sLen*i.size+news.length)).toArray):=by
 have hf:=run_firstCells_some (P:=P) w i.size m b m c news hl hnews
 have hst:=run_storeCells_at P g (sLen*i.size) ty' news 0 cur w hg (by simpa using hfit) h1
 simp only[Nat.add_zero] at hst;simp[Builtin.append_,run_underlying ht,sizeOf,typeInfo,hi,Builtin.lenOf,hroom,hf,Addr.add_lit,hst]
theorem C5{size:Nat}{M:Nat->Nat->Prop}{w:World}{r1 r2:List PV}{v1 v2:List Value}(h1:v1.length=r1.length*size)
  (f1:∀(i j:Nat) row c,r1[i]?=some row->(aE row)[j]?=some c->∃u,v1[i*size+j]?=some u/\Flat M w c u)
  (f2:∀(i j:Nat) row c,r2[i]?=some row->(aE row)[j]?=some c->∃u,v2[i*size+j]?=some u/\Flat M w c u) (hs1:∀row,row∈r1->(aE row).length=size) :
  ∀(i j:Nat) row c,(r1++r2)[i]?=some row->(aE row)[j]?=some c->∃u,(v1++v2)[i*size+j]?=some u/\Flat M w c u:=by
 intro i j row c hr hc;rw[List.getElem?_append] at hr
 by_cases hi:i<r1.length
 ·rw[if_pos hi] at hr
  obtain⟨u,hu,hf⟩:=f1 i j row c hr hc;exact⟨u,by rw[List.getElem?_append,if_pos (bM.1 hu).1];exact hu,hf⟩
 ·rw[if_neg hi] at hr
  obtain⟨u,hu,hf⟩:=f2 _ j row c hr hc;refine⟨u,?_,hf⟩;have:r1.length*size<=i*size:=Nat.mul_le_mul_right _ (by omega)
  rw[List.getElem?_append,if_neg (by rw[h1];omega),h1]
  have e:i*size+j-r1.length*size=(i-r1.length)*size+j:=by rw[Nat.sub_mul];omega
  rw[e];exact hu
theorem MM{X:Cx}{base d:Nat}{w':World}{size:Nat}{rows:List PV}{vs:List Value}{cap:Nat}{rest:Array Value}{ty:TypeId}(hb:base<=X.w.heap.size)
  (hn:NewBlock X.w w' (vs.toArray++rest) ty) (hvl:vs.length=rows.length*size) (hcap:rows.length<=cap) (hmax:cap<=maxLen) (hsz:vs.length+rest.size=cap*size)
  (hs:∀row,row∈rows->(aE row).length=size/\∀c,c∈aE row->c.one=true)
  (hr:∀(i j:Nat) row c,rows[i]?=some row->(aE row)[j]?=some c->∃u,vs[i*size+j]?=some u/\Flat X.M X.w c u) :
  OwRel (X.fresh d (rows.length*size) w') base (.tmp d) size false rows (.slice (some ⟨X.w.heap.size,0,none⟩) rows.length cap):=by
 have hev:=oN (m:=d) (n0:=rows.length*size) hn;refine .inr ⟨rfl,X.w.heap.size,cap,_,ty,rfl,?_,hb,hn.new,by simp[hsz],?_,fun o ho=>?_⟩
 ·show (if X.w.heap.size=X.w.heap.size then _ else _)=_;rw[if_pos rfl]
 ·refine k8 hn.new hcap hmax (fun o ho=>?_) (by simp[hvl]) hs (fun i j row c h1 h2=>?_)
  ·show ¬(if X.w.heap.size=X.w.heap.size then rows.length*size<=o else _)
   rw[if_pos rfl];omega
  ·obtain⟨u,hu,hf⟩:=hr i j row c h1 h2
   refine⟨u,?_,hf.mono hev.keeps⟩;have:=(bM.1 hu).1;rw[Array.getElem?_append,if_pos (by simpa using this)]
   simpa using hu
 ·show (if X.w.heap.size=X.w.heap.size then rows.length*size<=o else _)
  rw[if_pos rfl];exact ho
theorem DG(h:Rel G X s a){d size bytes:Nat}(hd:∀e,s.t[d]?=some e->e=.top){nl:Bool}{rows:List PV}{v:Value}(ho:OwRel X G.base (.tmp d) size nl rows v)
  {t ty e:TypeId} (hu:P.underlying t=some (.slice e)) {i:TypeInfo} {z:Value} (hi:P.info? e=some i) (hz:i.zero=some z) (hsz:i.size=size) (hby:i.bytes=bytes) (hzs:z.cells.size=size)
  {sz2:Nat} {nl2:Bool} {rows2:List PV} {x:Value} (hx:Flat X.M X.w (.sl sz2 nl2 rows2) x) (h2:sz2=size\/rows2=[]) (hb:(rows.length+rows2.length)*bytes<=140737488355328) (hm:rows.length+rows2.length<=maxLen) :
  ∃v' w' X',(Builtin.append_ #[t,t] ty #[v,x]).run P X.w=.ok v' w'/\X'.w=w'/\Rel G X' s a/\OwRel X' G.base (.tmp d) size (nl&&rows2.isEmpty) (rows++rows2) v':=by
 subst hsz;subst hby;obtain⟨hs2,news,hnl,hform,hnr,hone⟩:=hx.list;obtain⟨hs1,olds,hol,hform1,hor,hone1⟩:=ho.flat.list;have hm63:rows.length+rows2.length<=9223372036854775807:=by simpa [maxLen] using hm
 have ⟨bx,cx,ex⟩:=hx.slv
 by_cases hr2:rows2=[]
 ·subst hr2
  have hvc:∃b n c,v=.slice b n c/\n<=c:=by
   rcases ho with ⟨rfl,⟨_,rfl⟩|⟨_,b,o,rfl⟩⟩|⟨_,g,cap,cur,ty',rfl,_,_,_,_,hf,_⟩
   ·exact⟨_,_,_,rfl,Nat.le_refl _⟩
   ·exact⟨_,_,_,rfl,Nat.le_refl _⟩
   ·refine⟨_,_,_,rfl,?_⟩
    cases hf with
    |sl _ _ _ _ _ _ hcap=>exact hcap
    |sl0=>exact Nat.zero_le _
  obtain⟨b,n,c,rfl,hnc⟩:=hvc;subst ex;exact⟨_,_,X,fT hu hi b n c hnc bx cx X.w,rfl,h,by simpa using ho⟩
 ·have hsz2:sz2=i.size:=h2.resolve_right hr2
  subst hsz2;have hpos2:0<rows2.length:=List.length_pos_iff.2 hr2;have hem:rows2.isEmpty=false:=by cases rows2 with|nil=>exact absurd rfl hr2|cons _ _=>rfl
  rw[hem,Bool.and_false]
  obtain⟨b2,o2,cap2,rfl,hnews⟩:∃b o cap,x=.slice (some ⟨b,o,none⟩) rows2.length cap/\∀j u,news[j]?=some u->X.w.cell? ((⟨b,o,none⟩:Addr).add j)=some u:=by
   rcases hform with ⟨e,_⟩|⟨b,o,cap,rfl,hc⟩
   ·exact absurd e hr2
   ·exact⟨b,o,cap,rfl,fun j u hj=>by rw[Addr.add_lit];exact hc j u hj⟩
  have hall:∀row,row∈rows++rows2->(aE row).length=i.size/\∀c,c∈aE row->c.one=true:=by
   intro row hr;rcases List.mem_append.1 hr with hr|hr
   ·exact hs1 row hr
   ·exact hs2 row hr
  have hrows:=C5 hol hor hnr (fun row hr=>(hs1 row hr).1)
  have hvl:(olds++news).length=(rows++rows2).length*i.size:=by simp[hol,hnl,Nat.add_mul]
  have grow:∀(old:Nat) v' (w':World),old<rows.length+rows2.length->v'=.slice (some ⟨X.w.heap.size,0,none⟩) (rows.length+rows2.length) (grownCap X.w (rows.length+rows2.length) old e) ->
    w'=X.w.drew.alloc (.cells (olds.toArray++news.toArray++Builtin.zeroCells z.cells (grownCap X.w (rows.length+rows2.length) old e-(rows.length+rows2.length))) e) ->
    ∃X',X'.w=w'/\Rel G X' s a/\OwRel X' G.base (.tmp d) i.size false (rows++rows2) v':=by
   intro old v' w' hlt ev ew;subst ev;subst ew;have hge:=grownCap_ge X.w (rows.length+rows2.length) old e;have hcm:=grownCap_le_maxLen X.w (rows.length+rows2.length) old e hm;have hn:=NewBlock.drew X.w ((olds++news).toArray++Builtin.zeroCells z.cells (grownCap X.w (rows.length+rows2.length) old e-(rows.length+rows2.length))) e;have e1:(olds++news).toArray=olds.toArray++news.toArray:=by simp
   rw[e1] at hn;refine⟨_,rfl,h.fresh d ((rows++rows2).length*i.size) hn,?_⟩;rw[<-e1] at hn
   have:=MM (base:=G.base) (d:=d) (rows:=rows++rows2) (cap:=grownCap X.w (rows.length+rows2.length) old e) h.hb hn hvl (by simpa using hge) hcm (by
    rw[hvl,size_zeroCells,hzs, <-Nat.add_mul];congr 1;simp;omega) hall hrows
   rw[List.length_append] at this;rw[List.length_append];rw[e1] at this;exact this
  rcases ho with ⟨rfl,hv⟩|⟨rfl,g,cap,cur,ty',rfl,g1,g2,g3,g4,g5,g6⟩
  ·have ho0:olds=[]:=List.eq_nil_of_length_eq_zero (by simpa using hol)
   subst ho0;rcases hv with ⟨_,rfl⟩|⟨_,b,o,rfl⟩
   ·have hr:=run_append_nil (P:=P) X.w t ty e i z hu hi hz ⟨b2,o2,none⟩ rows2.length cap2 news hnl hnews hpos2 (by simp at hm63;omega) (by simp at hb;omega)
    obtain⟨X',e1,e2,e3⟩:=grow 0 (.slice (some ⟨X.w.heap.size,0,none⟩) rows2.length (grownCap X.w rows2.length 0 e)) _ (by simpa using hpos2) (by simp) rfl
    refine⟨_,_,X',hr,?_,e2,e3⟩;rw[e1];simp
   ·have hr:=run_append_grow (P:=P) X.w t ty e i z hu hi hz ⟨b,o,none⟩ 0 0 [] (by simp) (fun j u hj=>by simp at hj) ⟨b2,o2,none⟩ rows2.length cap2 news hnl hnews (by omega) (by simp at hm63;omega)
     (growslice_fits (by omega) (by simpa using hb))
    obtain⟨X',e1,e2,e3⟩:=grow 0 (.slice (some ⟨X.w.heap.size,0,none⟩) (0+rows2.length) (grownCap X.w (0+rows2.length) 0 e)) _ (by simpa using hpos2) (by simp) rfl
    refine⟨_,_,X',hr,?_,e2,e3⟩;rw[e1];simp
  ·have hcapr:rows.length<=cap/\cap<=maxLen:=by
    cases g5 with
    |sl _ _ _ _ _ _ hcap hmax=>exact⟨hcap,hmax⟩
    |sl0=>exact⟨Nat.zero_le _,Nat.zero_le _⟩
   by_cases hroom:rows.length+rows2.length<=cap
   ·have hfit:rows.length*i.size+news.length<=cur.size:=by rw[hnl,g4, <-Nat.add_mul];exact Nat.mul_le_mul_right _ hroom
    have hr:=iV (P:=P) (ty:=ty) hu hi X.w g rows.length cap cur g3 ⟨b2,o2,none⟩ rows2.length cap2 news hnl hnews hone hroom hfit;generalize hnew:(cur.toList.take (rows.length*i.size)++news++cur.toList.drop (rows.length*i.size+news.length)).toArray=new at *
    have hnewget:∀j,new[j]?=if rows.length*i.size<=j/\j<rows.length*i.size+news.length then news[j-rows.length*i.size]? else cur[j]?:=by
     intro j;rw[<-hnew];exact nD cur _ news j hfit
    have hnewsize:new.size=cur.size:=by rw[<-hnew];simp;omega
    have hheap:(X.w.setRow g new).heap[g]?=some (.cells new ty' (0,0)):=setRow_heap _ _ cur new ty' (0,0) g3
    have holds:∀(j:Nat) u,olds[j]?=some u->cur[j]?=some u:=by
     intro j u hj;rcases hform1 with ⟨e0,_⟩|⟨b',o',cap',e1,hc⟩
     ·have h1:=(bM.1 hj).1
      rw[hol,e0] at h1;simp at h1
     ·injection e1 with e1 e2 e3
      injection e1 with e1
      injection e1 with e1 e4
      subst e1;subst e4;have:=hc j u hj;rw[Nat.zero_add,dE g3] at this;exact this
    generalize hX':({ X with M:=fun b o=>X.M b o/\¬(b=g/\o<(rows.length+rows2.length)*i.size),w:=X.w.setRow g new }:Cx)=X'
    have eM:∀b o,X'.M b o↔X.M b o/\¬(b=g/\o<(rows.length+rows2.length)*i.size):=by subst hX';exact fun _ _=>Iff.rfl
    have ew:X'.w=X.w.setRow g new:=by subst hX';rfl
    have eo:X'.own=X.own:=by subst hX';rfl
    have eρ:X'.ρ=X.ρ:=by subst hX';rfl
    have hev:Ev (fun L=>L.root≠.tmp d) X X':=by
     refine⟨fun b o u hM hc=>⟨?_,fun hM'=>hM ((eM b o).1 hM').1⟩,fun g' L hg' hS hlt=>?_,by subst hX';rfl,by rw[ew];exact .heap g3 hheap hnewsize fun b hb _=>setRow_other _ _ _ _ hb⟩
     ·rw[ew]
      by_cases hbg:b=g
      ·subst hbg
       have ho:o<rows.length*i.size:=by
        rcases Nat.lt_or_ge o (rows.length*i.size) with h0|h0
        ·exact h0
        ·exact absurd (g6 o h0) hM
       rw[dE g3] at hc;rw[dE hheap,hnewget,if_neg (by omega)]
       exact hc
      ·exact(World.cell?_of_block (w:=X.w) (setRow_other _ _ _ _ hbg)).trans hc
     ·have hne:g'≠g:=fun e=>by subst e;rw[g1] at hg';injection hg' with hg';subst hg';exact hS rfl
      exact⟨by rw[eo];exact hg',by rw[ew];exact setRow_other _ _ _ _ hne,fun o hM=>(eM g' o).2 ⟨hM,fun hh=>hne hh.1⟩⟩
    refine⟨_,_,X',hr,ew,?_,?_⟩
    ·refine h.change (fun L=>L.root≠.tmp d) (fun L j h=>h) hev (fun j e he=>?_) (fun k bx hk=>.inl ⟨by simp[Loc.root],by simp[Loc.root],by rw[eρ],fun _ _ _ _ _ _=>by rw[eρ]⟩) ?_ (fun b hb o=>?_)
     ·by_cases hj:j=d
      ·subst hj
       rw[hd e he];exact .inr trivial
      ·exact .inl ⟨by simp[Loc.root,hj],fun _ _=>by rw[eρ]⟩
     ·rw[ew]
      exact⟨rfl,rfl,rfl,by simp[World.setRow],fun q hq=>setRow_other _ _ _ _ (by omega)⟩
     ·rw[eM]
      exact⟨fun h=>h.1,fun h=>⟨h,fun hh=>by omega⟩⟩
    ·refine .inr ⟨rfl,g,cap,new,ty',by rw[List.length_append],by rw[eo];exact g1,g2,by rw[ew];exact hheap,by rw[hnewsize];exact g4,?_,fun o ho=>(eM g o).2 ⟨g6 o (by
      rw[List.length_append,Nat.add_mul] at ho;omega),fun hh=>by rw[List.length_append] at ho;omega⟩⟩
     have:=k8 (M:=X'.M) (w:=X'.w) (size:=i.size) (rows:=rows++rows2) (g:=g) (cap:=cap) (cur:=new) (ty:=ty') (by rw[ew];exact hheap) (by rw[List.length_append];exact hroom) hcapr.2 (fun o ho hM=>?_) (by
      rw[hnewsize,List.length_append,Nat.add_mul];rw[hnl] at hfit;omega) hall (fun k j row c hk hc=>?_)
     ·rw[List.length_append] at this;exact this
     ·rw[List.length_append] at ho
      exact((eM g o).1 hM).2 ⟨rfl,ho⟩
     ·obtain⟨u,hu',hf⟩:=hrows k j row c hk hc
      refine⟨u,?_,hf.mono hev.keeps⟩;rw[hnewget];rw[List.getElem?_append,hol] at hu'
      by_cases hlt:k*i.size+j<rows.length*i.size
      ·rw[if_pos hlt] at hu'
       rw[if_neg (by omega)]
       exact holds _ _ hu'
      ·rw[if_neg hlt] at hu'
       have:=(bM.1 hu').1;rw[if_pos (by omega)]
       exact hu'
   ·have hr:=run_append_grow (P:=P) X.w t ty e i z hu hi hz ⟨g,0,none⟩ rows.length cap olds hol (fun j u hj=>?_) ⟨b2,o2,none⟩ rows2.length cap2 news hnl hnews (by omega) (by omega) (growslice_fits (by omega) hb)
    ·obtain⟨X',e1,e2,e3⟩:=grow cap _ _ (by omega) rfl rfl
     exact⟨_,_,X',hr,e1,e2,e3⟩
    ·rcases hform1 with ⟨e0,_⟩|⟨b',o',cap',e1,hc⟩
     ·have h1:=(bM.1 hj).1
      rw[hol,e0] at h1;simp at h1
     ·injection e1 with e1 e2 e3
      injection e1 with e1
      injection e1 with e1 e4
      subst e1;subst e4;rw[Addr.add_lit];exact hc j u hj
theorem MX{K:DV->List (Option Box)->Prop}{size bytes sz:Nat}{y:DV}{b:List (Option Box)}(hK:aD P (.app size bytes) [.p (.sl sz true []),y] b K):aD P (.app size bytes) [.ow sz true [],y] b K:=by
 cases hfz:y.frz b with
 |none=>simp[aD,hfz] at hK
 |some x=>cases x with
  |sl sz2 nl2 rows2=>
   simp only[aD,hfz] at hK;obtain⟨a1,a2,a3,a4,a5⟩:=hK;simp only[aD,hfz];exact⟨.inl a1,a2,by simpa using a3,by simpa using a4,by simpa using a5⟩
  |_=>simp[aD,hfz] at hK
theorem xH{X:Cx}{base:Nat}{L:Loc}{sz:Nat}{v:Value}(h:Flat X.M X.w (.sl sz true []) v):OwRel X base L sz true [] v:=.inl ⟨rfl,.inl ⟨rfl,by cases h;rfl⟩⟩
theorem s_app(h:Rel G X s a){size bytes:Nat}{x y:Operand}{ox oy:O}{t e:TypeId}(hx:OT x ox)(hy:OT y oy)(ho:o.op=.call { callee:=.builtin .append,args := #[x,y],argTypes := #[t,t] })
  {d:Nat} (hd:o.dst=some d) (hu:P.underlying t=some (.slice e)) {i:TypeInfo} {z:Value} (hi:P.info? e=some i) (hz:i.zero=some z) (hsz:i.size=size) (hby:i.bytes=bytes) (hzs:z.cells.size=size)
  (hK:aD P (.app size bytes) [ox.val s.t,oy.val s.t] s.b fun v b=>K ⟨aH (fE (.app size bytes) [ox,oy] s.t) o.dst v,b⟩):o.wp P a X.w (aZ G K) Q:=by
 obtain⟨sz,nl,rows,e1,hK⟩:∃sz nl rows,(ox.val s.t=.ow sz nl rows\/(ox.val s.t=.p (.sl sz true [])/\nl=true/\rows=[])) /\
   aD P (.app size bytes) [.ow sz nl rows,oy.val s.t] s.b fun v b=>K ⟨aH (fE (.app size bytes) [ox,oy] s.t) o.dst v,b⟩:=by
  revert hK
  generalize ox.val s.t=vx;intro hK
  cases vx with
  |ow sz nl rows=>exact⟨_,_,_,.inl rfl,hK⟩
  |p x=>cases x with
   |sl sz nl rows=>cases nl with
    |true=>cases rows with
     |nil=>
      refine⟨sz,true,[],.inr ⟨rfl,rfl,rfl⟩,?_⟩;exact MX hK
     |cons _ _=>simp[aD] at hK
    |false=>simp[aD] at hK
   |_=>simp[aD] at hK
  |_=>simp[aD] at hK
 obtain⟨L,ry⟩:=h.opnd hy;simp only[aD] at hK;generalize hfz:(oy.val s.t).frz s.b=fz at *
 match fz,hK with
 |some (.sl sz2 nl2 rows2),hK=>
  obtain⟨c1,c2,c3,c4,hK⟩:=hK;have hflat:=frz h ry hfz
  have hsrc:∃X1,X1.w=X.w/\X1.M=X.M/\Rel G X1 ⟨fE (.app size bytes) [ox,oy] s.t,s.b⟩ a/\OwRel X1 G.base (.tmp d) size nl rows (a.eval x):=by
   have fix:∀{X1:Cx} {v:Value},OwRel X1 G.base (.tmp d) sz nl rows v->OwRel X1 G.base (.tmp d) size nl rows v:=by
    intro X1 v hv;rcases c1 with rfl|⟨rfl,rfl⟩
    ·exact hv
    ·rcases hv with hv|⟨h0,g,cap,cur,ty,g0,g1,g2,g3,g4,g5,g6⟩
     ·exact .inl hv
     ·cases h0
   cases ox with
   |c dv=>
    refine⟨X,rfl,rfl,h,fix ?_⟩;have:=VRel.const (X:=X) (base:=G.base) (L:=.tmp d) (a:=a) (t:=s.t) hx (by intro n hn;cases hn)
    rcases e1 with e1|⟨e1,rfl,rfl⟩
    ·rw[e1] at this
     exact this
    ·rw[e1] at this
     exact xH this
   |t n=>
    have hxe:x=.tmp n:=by cases hx;rfl
    subst hxe;obtain⟨h1,h2⟩:=h.toSlot n d;simp only[O.val] at e1;rcases e1 with e1|⟨e1,rfl,rfl⟩
    ·rw[e1] at h2
     exact⟨X.moved (toSlot n d),rfl,rfl,h1,fix h2⟩
    ·rw[e1] at h2
     exact⟨X.moved (toSlot n d),rfl,rfl,h1,fix (xH h2)⟩
  obtain⟨X1,ew,eM,hrel,how⟩:=hsrc;have hrel':=hrel.weak d .top trivial
  obtain⟨v',w',X',hrun,ew',hrel2,how2⟩:=DG (ty:=o.type) hrel' (fun e he=>by
   rcases pF he with ⟨_,rfl,_⟩|⟨hne,_⟩
   ·rfl
   ·exact absurd rfl hne) how hu hi hz hsz hby hzs (by rw[ew,eM];exact hflat) c2 c3 c4
  rw[ew] at hrun
  have run:(execOp a.eval o).run P X.w=.ok (.value v') w':=by
   simp[execOp,ho,resolve,invoke,builtin,hrun]
  unfold Oper.wp;rw[run,Oper.upon_value];have hput:=hrel2.put (d:=some d) (v:=.ow size (nl&&rows2.isEmpty) (rows++rows2)) (u:=v') (fun j hj=>by injection hj with hj;subst hj;exact how2)
  rw[hd] at hK;rw[hd];refine⟨_,X',?_,ew',hK⟩
  have e2:∀(l:List DV) (v:DV),aH (aF l d .top) (some d) v=aH l (some d) v:=by
   intro l v
   apply List.ext_getElem?
   intro j;simp only[aH,getElem?_setL]
   by_cases hj:j=d
   ·subst hj;cases l[j]?<;>simp
   ·simp[hj]
  rw[e2] at hput;exact hput
end
open Go.RowKit
variable {P:Program}
theorem p8(l:List PV)(o:Nat)(cs:List PV):(rE l o cs).length=l.length:=by
 induction cs generalizing l o with
 |nil=>rfl
 |cons c cs ih=>simp[rE,ih,aI]
theorem GZ(l:List PV)(o:Nat)(cs:List PV)(i:Nat):(rE l o cs)[i]?=if o<=i/\i<o+cs.length/\i<l.length then cs[i-o]? else l[i]?:=by
 induction cs generalizing l o with
 |nil=>simp[rE];intro h1 h2;omega
 |cons c cs ih=>
  rw[rE,ih,aI,getElem?_setL]
  by_cases h1:i=o
  ·subst h1
   rw[if_neg (by omega),if_pos rfl]
   by_cases hl:i<l.length
   ·rw[if_pos ⟨Nat.le_refl _,by simp,hl⟩];simp[hl]
   ·rw[if_neg (by omega)];simp[hl]
  ·by_cases h2:o+1<=i/\i<o+1+cs.length/\i<l.length
   ·rw[if_pos h2,if_pos ⟨by omega,by simp;omega,h2.2.2⟩]
    have:i-o=(i-(o+1))+1:=by omega
    rw[this];simp
   ·rw[if_neg h2,if_neg h1,if_neg (by simp;omega)]
def v6(M:Nat->Nat->Prop)(w:World)(cs:List PV)(vs:Array Value):Prop :=
 vs.size=cs.length/\∀(i:Nat) c v,cs[i]?=some c->vs[i]?=some v->Flat M w c v/\c.one=true
theorem BG{M:Nat->Nat->Prop}{w:World}{place:Nat->Option (Nat×Nat)}:∀(parts:List (Nat×Value)) (offs:List (Nat×Nat)) (ps:List PV) (zero:List PV) (zs:Array Value) (cs:List PV),
  v6 M w zero zs->parts.length=offs.length ->
  (∀(k:Nat) (p:Nat×Value) (o:Nat×Nat),parts[k]?=some p->offs[k]?=some o->place p.1=some o/\o.1+o.2<=zero.length) ->
  (∀(k:Nat) (p:Nat×Value) x,parts[k]?=some p->ps[k]?=some x->Flat M w x p.2)->oW zero offs ps=some cs ->
  ∃cells,Instr.fill place zs parts=some cells/\v6 M w cs cells
 |[],[],[],zero,zs,cs,hz,_,_,_,hf=>by
  simp[oW] at hf;subst hf;exact⟨zs,rfl,hz⟩
 |[],[],_ ::_,_,_,_,_,_,_,_,hf=>by simp[oW] at hf
 |[],_ ::_,_,_,_,_,_,hl,_,_,_=>by simp at hl
 |_ ::_,[],_,_,_,_,_,hl,_,_,_=>by simp at hl
 |_ ::_,_ ::_,[],_,_,_,_,_,_,_,hf=>by simp[oW] at hf
 |p ::parts,o ::offs,x ::ps,zero,zs,cs,hz,hl,hpl,hfl,hf=>by
  simp only[oW] at hf
  split at hf
  ·rename_i hlen
   obtain⟨hp,hb⟩:=hpl 0 p o rfl rfl;have hx:=hfl 0 p x rfl rfl;obtain⟨c1,c2⟩:=hx.cells;obtain⟨pi,pv⟩:=p;obtain⟨oo,os⟩:=o;simp only at hp hb hlen c1 c2 hf;have hsz:pv.cells.size=os:=by rw[c1,hlen]
   obtain⟨f1,f2⟩:=Go.Great.foldl_set oo pv.cells.toList 0 zs
   have hz':v6 M w (rE zero oo (aE x)) ((pv.cells.toList.zipIdx 0).foldl (fun cs (x:Value×Nat)=>cs.setIfInBounds (oo+x.2) x.1) zs):=by
    refine⟨by rw[f1,p8,hz.1],fun i c v hc hv=>?_⟩
    rw[GZ] at hc;rw[f2] at hv;simp only[Nat.add_zero,Array.length_toList,hz.1,c1] at hv
    by_cases hin:oo<=i/\i<oo+(aE x).length/\i<zero.length
    ·rw[if_pos hin] at hc hv
     exact c2 _ c v hc (by simpa using hv)
    ·rw[if_neg hin] at hc hv
     exact hz.2 i c v hc hv
   obtain⟨cells,g1,g2⟩:=BG (place:=place) parts offs ps _ _ cs hz' (by simpa using hl) (fun k p o hp ho=>by
    have:=hpl (k+1) p o (by simpa using hp) (by simpa using ho)
    rw[p8];exact this) (fun k p x hp hx=>hfl (k+1) p x (by simpa using hp) (by simpa using hx)) hf
   refine⟨cells,?_,g2⟩;unfold Instr.fill;rw[hp];simp only;rw[if_neg (by rw[hz.1,hsz];simp;omega)]
   have e:pv.cells.zipIdx.foldl (fun cs (x:Value×Nat)=>match x with|(c,j)=>cs.setIfInBounds (oo+j) c) zs=(pv.cells.toList.zipIdx 0).foldl (fun cs (x:Value×Nat)=>cs.setIfInBounds (oo+x.2) x.1) zs:=by
    rw[<-Array.foldl_toList];simp
   rw[e];exact g1
  ·cases hf
inductive ZP:PV->Value->Prop
 |int (k:IntKind) (n:Int):ZP (.int k n) (.int k n)
 |bool (b:Bool):ZP (.bool b) (.bool b)
 |str (s:ByteArray):ZP (.str s) (.string s)
 |nil (n:Nat):ZP (.sl n true []) (.slice none 0 0)
 |atom (v:Value) (h:v.oneCell'=true):ZP (.atom v) v
theorem ZP.rel{M:Nat->Nat->Prop}{w:World}{c:PV}{v:Value}(h:ZP c v):Flat M w c v/\c.one=true:=by
 cases h with
 |int k n=>exact⟨.int k n,rfl⟩
 |bool b=>exact⟨.bool b,rfl⟩
 |str s=>exact⟨.str s,rfl⟩
 |nil n=>exact⟨.nilsl n,rfl⟩
 |atom v h=>exact⟨.atom v h,rfl⟩
theorem oI{f:FuncId}(h:B6 P f)(args:Array Value)(w:World):(callFunc f args).run P w=.ok (.enter f args) w:=by
 obtain⟨fn,h1,h2,h3⟩:=h;obtain⟨c,hc⟩:=Option.isSome_iff_exists.1 h2;simp[callFunc,h1,h3,hc]
section
variable {G:Gl} {X:Cx} {s:St} {a:Act} {Q:Exit->Act->World->Prop} {o:Oper} {K:St->Prop}
theorem s_build(h:Rel G X s a){t:TypeId}{parts:Array (Nat×Operand)}{os:List O}{zero:List PV}{offs:List (Nat×Nat)}(ho:o.op=.build t parts)
  {fields:Array Field} (hu:P.underlying t=some (.struct fields)) {it:TypeInfo} {z:Value} (hi:P.info? t=some it) (hz:it.zero=some z)
  {places:List (Nat×Nat)} (hpl:fields.toList.mapM (fun f=>(P.info? f.type).map fun i=>(f.offset,i.size))=some places)
  (hzs:z.cells.size=zero.length) (hzr:∀(i:Nat) c v,zero[i]?=some c->z.cells[i]?=some v->ZP c v)
  (hl:parts.size=offs.length) (hl2:os.length=parts.size)
  (hoff:∀(k:Nat) (p:Nat×Operand) (o:Nat×Nat),parts[k]?=some p->offs[k]?=some o->places[p.1]?=some o/\o.1+o.2<=zero.length)
  (hos:∀(k:Nat) (p:Nat×Operand) oo,parts[k]?=some p->os[k]?=some oo->OT p.2 oo)
  (hK:aD P (.build zero offs) (os.map (O.val s.t)) s.b fun v b=>K ⟨aH s.t o.dst v,b⟩):o.wp P a X.w (aZ G K) Q:=by
 simp only[aD] at hK
 cases hps:cH (os.map (O.val s.t)) with
 |none=>simp[hps] at hK
 |some ps=>
  simp only[hps] at hK
  cases hf:oW zero offs ps with
  |none=>simp[hf] at hK
  |some cs=>
   simp only[hf] at hK;obtain⟨e1,e2⟩:=lR hps
   obtain⟨cells,g1,g2⟩:=BG (M:=X.M) (w:=X.w) (place:=fun x=>places.toArray[x]?) (parts.toList.map fun (i,x)=>(i,a.eval x)) offs ps zero z.cells cs ⟨hzs,fun i c v hc hv=>(hzr i c v hc hv).rel⟩
    (by simp [hl]) (fun k p o hp ho => by
     rw[List.getElem?_map] at hp
     cases hpk:parts.toList[k]? with
     |none=>rw[hpk] at hp;simp at hp
     |some q=>
      rw[hpk] at hp;simp at hp;subst hp;have:=hoff k q o (by simpa using hpk) ho
      simpa using this) (fun k p x hp hx=>by
     rw[List.getElem?_map] at hp
     cases hpk:parts.toList[k]? with
     |none=>rw[hpk] at hp;simp at hp
     |some q=>
      rw[hpk] at hp;simp at hp;subst hp
      have hkl:k<os.length:=by
       have:=(bM.1 hpk).1;simp at this;omega
      have hok:os[k]?=some os[k]:=by simp[hkl]
      obtain⟨L,hv⟩:=h.opnd (hos k q os[k] (by simpa using hpk) hok)
      exact EJ hv (e2 k _ x (by rw[List.getElem?_map,hok];rfl) hx)) hf
   have hb:P.built t (parts.map fun (i,x)=>(i,a.eval x)).toList=some cells:=by
    unfold Program.built;simp only[hi,hu,hz,hpl];rw[Array.toList_map];exact g1
   have run:(execOp a.eval o).run P X.w=.ok (.value (.agg cells)) X.w:=by
    simp only[execOp,ho,Sem.run_bind];rw[run_build X.w t _ cells hb];rfl
   refine bC (z:=.agg cs) h run (.agg cs cells g2.1 (fun c hc=>?_) fun i c v hc hv=>(g2.2 i c v hc hv).1) hK
   obtain⟨i,hi⟩:=List.getElem?_of_mem hc;have hlt:i<cells.size:=by rw[g2.1];exact(bM.1 hi).1
   exact(g2.2 i c cells[i] hi (by simp[hlt])).2
theorem s_mkfn(h:Rel G X s a){f:FuncId}{caps:Array Operand}{os:List O}(ho:o.op=.makeFunc (.func f) #[] caps)(hl:os.length=caps.size)
  (hos:∀(k:Nat) x oo,caps.toList[k]?=some x->os[k]?=some oo->OT x oo)
  (hK:aD P (.mkfn f) (os.map (O.val s.t)) s.b fun v b=>K ⟨aH s.t o.dst v,b⟩):o.wp P a X.w (aZ G K) Q:=by
 simp only[aD] at hK
 cases hf:lH s.b (os.map (O.val s.t)) with
 |none=>simp[hf] at hK
 |some xs=>
  simp only[hf] at hK;obtain⟨e1,e2⟩:=xP h (xs:=caps.toList) (by simpa using hl) hos hf
  refine bC (z:=.fn f xs) (u:=.func (.func f) #[] (caps.map a.eval)) h ?_ (.fn f xs _ (by simp at e1 ⊢;omega) fun i c v hc hv=>?_) hK
  ·simp[execOp,ho,Instr.makeFunc]
  ·rw[Array.getElem?_map] at hv
   cases hk:caps[i]? with
   |none=>rw[hk] at hv;simp at hv
   |some x=>rw[hk] at hv;simp at hv;subst hv;exact e2 i x c (by simpa using hk) hc
def Cx.back(X X1:Cx)(d:Nat):Cx :=
 {ρ := X.ρ
  own:=fun g=>if g<X.w.heap.size then X.own g else (X1.own g).map (toSlot 0 d)
  M:=fun b o=>if b<X.w.heap.size then X.M b o else X1.M b o
  w:=X1.w
  ex:=X.ex }
theorem n9(h:Rel G X s a){X1:Cx}(hM:∀b,b<X.w.heap.size->∀o,X1.M b o↔X.M b o)(hb:Below X.w.heap.size X.w X1.w)(d:Nat){r:DV}{v:Value}
  (hr:r.plain=true) (hv:VRel X1 X.w.heap.size (.tmp 0) r v):Rel G (X.back X1 d) s a/\VRel (X.back X1 d) G.base (.tmp d) r v:=by
 have hev:Ev (fun _=>True) X (X.back X1 d):=by
  refine⟨fun b o u hMb hc=>?_,fun g L hg _ hlt=>⟨?_,hb.block g hlt,fun o hMo=>?_⟩,rfl,.below hb.block⟩
  ·have hlt:b<X.w.heap.size:=World.block_lt_of_cell? _ _ hc
   refine⟨(World.cell?_of_block (w:=X.w) (hb.block b hlt)).trans hc,?_⟩
   show ¬(if b<X.w.heap.size then X.M b o else X1.M b o)
   rw[if_pos hlt];exact hMb
  ·show (if g<X.w.heap.size then X.own g else _)=_
   rw[if_pos hlt];exact hg
  ·show (if g<X.w.heap.size then X.M g o else _)
   rw[if_pos hlt];exact hMo
 have hkeep:Keeps X1.M X1.w (X.back X1 d).M (X.back X1 d).w:=by
  intro b o u hMb hc;refine⟨hc,?_⟩
  show ¬(if b<X.w.heap.size then X.M b o else X1.M b o)
  split
  ·rename_i hlt;rw[<-hM b hlt o];exact hMb
  ·exact hMb
 refine⟨h.change (fun _=>True) (fun _ _ h=>h) hev (fun i d' hd=>.inl ⟨trivial,fun _ _=>rfl⟩) (fun k bx hk=>.inl ⟨trivial,fun _ _=>trivial,rfl,fun _ _ _ _ _ _=>rfl⟩) (hb.mono h.hb) (fun b hlt o=>?_),?_⟩
 ·have:=h.hb
  show (if b<X.w.heap.size then X.M b o else _)↔_
  rw[if_pos (by omega)]
 ·have own:∀{L:Loc} {size:Nat} {nl:Bool} {rows:List PV} {u:Value},OwRel X1 X.w.heap.size L size nl rows u->OwRel (X.back X1 d) G.base (toSlot 0 d L) size nl rows u:=by
   intro L size nl rows u ho;rcases ho with ho|⟨h0,g,cap,cur,ty,g0,g1,g2,g3,g4,g5,g6⟩
   ·exact .inl ho
   ·refine .inr ⟨h0,g,cap,cur,ty,g0,?_,Nat.le_trans h.hb g2,g3,g4,g5.mono hkeep,fun o ho=>?_⟩
    ·show (if g<X.w.heap.size then X.own g else (X1.own g).map _)=_
     rw[if_neg (by omega),g1];rfl
    ·show (if g<X.w.heap.size then X.M g o else X1.M g o)
     rw[if_neg (by omega)];exact g6 o ho
  cases r with
  |p x=>exact Flat.mono hkeep hv
  |ow size nl rows=>exact own hv
  |tup ds=>
   obtain⟨vs,e1,e2,e3⟩:=hv;refine⟨vs,e1,e2,fun j d' u hd hu=>?_⟩
   have:=e3 j d' u hd hu
   cases d' with
   |p x=>exact Flat.mono hkeep this
   |ow size nl rows=>exact own this
  |_=>simp[DV.plain] at hr
theorem EP(h:Rel G X s a){f:FuncId}{args:List PV}{r:DV}(hp:aB P f args r){cargs:Array Value}(hl:cargs.size=args.length)
  (hc:∀(j:Nat) x v,args[j]?=some x->cargs[j]?=some v->Flat X.M X.w x v) (run:(execOp a.eval o).run P X.w=(callFunc f cargs).run P X.w) (hK:K ⟨aH s.t o.dst r,s.b⟩):o.wp P a X.w (aZ G K) Q:=by
 rcases hp.2 X.M X.w cargs hl hc with ⟨hf,hcall⟩|⟨v,X1,hcall,hv,hM,hb⟩
 ·unfold Oper.wp
  rw[run,oI hf,Oper.upon_enter];refine hcall.mono fun e w' ⟨v,X1,he,hw,hv,hM,hb⟩=>?_
  subst he;subst hw;obtain⟨h1,h2⟩:=n9 h hM hb (o.dst.getD 0) hp.1 hv
  exact ⟨_, _, h1.put (d := o.dst) (fun j hj => by have e : o.dst.getD 0 = j := by rw [hj]; rfl
                                                   rw[e] at h2 ⊢;exact h2),rfl,hK⟩
 ·unfold Oper.wp
  rw[run,hcall,Oper.upon_value];obtain⟨h1,h2⟩:=n9 h hM hb (o.dst.getD 0) hp.1 hv
  exact ⟨_, _, h1.put (d := o.dst) (fun j hj => by have e : o.dst.getD 0 = j := by rw [hj]; rfl
                                                   rw[e] at h2 ⊢;exact h2),rfl,hK⟩
theorem s_call(h:Rel G X s a){f:FuncId}{xs:Array Operand}{ts:Array TypeId}{os:List O}(ho:o.op=.call { callee:=.value (.func f),args:=xs,argTypes:=ts })
  (hl:os.length=xs.size) (hos:∀(k:Nat) x oo,xs.toList[k]?=some x->os[k]?=some oo->OT x oo)
  (hK:aD P (.call f) (os.map (O.val s.t)) s.b fun v b=>K ⟨aH s.t o.dst v,b⟩):o.wp P a X.w (aZ G K) Q:=by
 simp only[aD] at hK
 cases hfz:lH s.b (os.map (O.val s.t)) with
 |none=>simp[hfz] at hK
 |some args=>
  simp only[hfz] at hK;obtain⟨r,hp,hK⟩:=hK;obtain⟨e1,e2⟩:=xP h (xs:=xs.toList) (by simpa using hl) hos hfz
  refine EP h hp (cargs:=xs.map a.eval) (by simp at e1 ⊢;omega) (fun j x v hx hv=>?_) ?_ hK
  ·rw[Array.getElem?_map] at hv
   cases hk:xs[j]? with
   |none=>rw[hk] at hv;simp at hv
   |some y=>rw[hk] at hv;simp at hv;subst hv;exact e2 j y x (by simpa using hk) hx
  ·simp[execOp,ho,resolve,Deferred.ofValue,invoke,Act.eval]
theorem s_callv(h:Rel G X s a){x:Operand}{ox:O}(hx:OT x ox){xs:Array Operand}{ts:Array TypeId}{os:List O}(ho:o.op=.call { callee:=.value x,args:=xs,argTypes:=ts })
  (hl:os.length=xs.size) (hos:∀(k:Nat) x oo,xs.toList[k]?=some x->os[k]?=some oo->OT x oo)
  (hK:aD P .callv (ox.val s.t ::os.map (O.val s.t)) s.b fun v b=>K ⟨aH s.t o.dst v,b⟩):o.wp P a X.w (aZ G K) Q:=by
 obtain⟨L,rx⟩:=h.opnd hx;simp only[aD] at hK;generalize hfx:(ox.val s.t).frz s.b=fx at *
 cases hfz:lH s.b (os.map (O.val s.t)) with
 |none=>rw[hfz] at hK;cases fx with
  |none=>simp at hK
  |some y=>cases y<;>simp at hK
 |some args=>
  rw[hfz] at hK
  match fx,hK with
  |some (.fn f caps),hK=>
   obtain⟨r,hp,hK⟩:=hK;obtain⟨e1,e2⟩:=xP h (xs:=xs.toList) (by simpa using hl) hos hfz
   have hfl:=frz h rx hfx;generalize hvx:a.eval x=vx at *
   cases hfl with
   |fn _ _ vs hvl hh=>
    refine EP h hp (cargs:=xs.map a.eval++vs) (by simp at e1 ⊢;omega) (fun j y v hy hv=>?_) ?_ hK
    ·rw[List.getElem?_append] at hy
     rw[Array.getElem?_append] at hv;simp only[Array.size_map] at hv
     by_cases hj:j<args.length
     ·rw[if_pos hj] at hy
      rw[if_pos (by simp at e1;omega),Array.getElem?_map] at hv
      cases hk:xs[j]? with
      |none=>rw[hk] at hv;simp at hv
      |some q=>rw[hk] at hv;simp at hv;subst hv;exact e2 j q y (by simpa using hk) hy
     ·rw[if_neg hj] at hy
      rw[if_neg (by simp at e1;omega)] at hv
      simp at e1;rw[e1] at hy;exact hh _ y v hy hv
    ·simp[execOp,ho,resolve,hvx,Deferred.ofValue,invoke]
end
end Go.Proofs.YtnjphclbpgajpaaGreatDoor.Vc
