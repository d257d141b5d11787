/- Part of a proof over a Go program: VcOmp, VcOin, VcReg. No condition. -/
import Derived.Test.YtnjphclbpgajpaaGreatDoorX03
import Derived.WalkSpells
set_option linter.unnecessarySimpa false
set_option linter.unusedSectionVars false
set_option linter.unusedSimpArgs false
set_option linter.unusedVariables false
namespace Go.Proofs.YtnjphclbpgajpaaGreatDoor.Vc
open Go.RowKit
variable {P:Program}
inductive ZV:PV->Value->Prop
 |one (c:PV) (v:Value) (h:ZP c v):ZV c v
 |agg (cs:List PV) (vs:Array Value) (hl:vs.size=cs.length) (h:∀(i:Nat) c v,cs[i]?=some c->vs[i]?=some v->ZP c v):ZV (.agg cs) (.agg vs)
theorem ZV.flat{M:Nat->Nat->Prop}{w:World}{c:PV}{v:Value}(h:ZV c v):Flat M w c v:=by
 cases h with
 |one _ _ h=>exact h.rel.1
 |agg cs vs hl h=>
  refine .agg cs vs hl (fun c hc=>?_) fun i c v hc hv=>(h i c v hc hv).rel.1
  obtain⟨i,hi⟩:=List.getElem?_of_mem hc;have hlt:i<vs.size:=by rw[hl];exact(bM.1 hi).1
  exact(h i c vs[i] hi (by simp[hlt])).rel (M:=M) (w:=w) |>.2
def Rows(rows:List (List DV))(es:List MapEntry):Prop :=
 es.length=rows.length/\∀(i:Nat) row e,rows[i]?=some row->es[i]?=some e->∃(q:PV) (n:Bool) (d:DV),row=.p q ::d ::cR n e/\e.key=cO q
theorem Rows.tail{r:List DV}{rows:List (List DV)}{e:MapEntry}{es:List MapEntry}(h:Rows (r ::rows) (e ::es)):Rows rows es :=
 ⟨by simpa using h.1,fun i row e h1 h2=>h.2 (i+1) row e (by simpa using h1) (by simpa using h2)⟩
theorem lT{q:Option IntKind}{x:PV}(h:dK q x=true):MapKept.IsKey (dN q) (cO x):=by
 cases q<;>cases x<;>simp[dK] at h<;>simp[dN,cO,MapKept.IsKey,h]
theorem lQ{M:Nat->Nat->Prop}{w:World}{q:Option IntKind}{x:PV}{v:Value}(h:dK q x=true)(hv:Flat M w x v):v=cO x:=by
 cases q<;>cases x<;>simp[dK] at h<;>cases hv<;>rfl
theorem qQ{a b:ByteArray}(h:a.data.toList=b.data.toList):a=b:=by
 obtain⟨⟨a⟩⟩:=a;obtain⟨⟨b⟩⟩:=b;simp at h;subst h
 rfl
theorem pX{q:Option IntKind}{x k:PV}(hx:dK q x=true)(hk:dK q k=true):fX x k=true↔cO x=cO k:=by
 cases q with
 |none=>
  cases x<;>simp[dK] at hx
  cases k<;>simp[dK] at hk
  simp only[fX,cO,decide_eq_true_eq,Value.string.injEq];exact⟨fun h=>(qQ h).symm,fun h=>by rw[h]⟩
 |some q=>
  cases x<;>simp[dK] at hx
  cases k<;>simp[dK] at hk
  subst hx;subst hk;simp only[fX,cO,decide_eq_true_eq,Value.int.injEq,true_and];exact eq_comm
theorem mE{q:Option IntKind}{x k:PV}(hx:dK q x=true)(hk:dK q k=true):Instr.sameNow (dN q) (cO x) (cO k)=some (fX x k):=by
 obtain⟨r,h1,h2⟩:=MapKept.sameNow_of_keys (lT hx) (lT hk);rw[h1]
 congr 1
 rw[Bool.eq_iff_iff,h2,pX hx hk]
theorem xA{q:Option IntKind}{x:PV}(hx:dK q x=true):∀{rows:List (List DV)} {es:List MapEntry} {r:Option DV} {i0:Nat},Rows rows es->r9 q x rows=some r ->
  (r=none/\Instr.findNow (dN q) (cO x) es i0=some none)\/∃j e d k,r=some d/\Instr.findNow (dN q) (cO x) es i0=some (some (i0+j,e.val))/\es[j]?=some e/\rows[j]?=some [.p k,d]
 |[],[],r,i0,_,h=>by simp only[r9,bQ] at h;subst h;exact .inl ⟨rfl,rfl⟩
 |[],_ ::_,_,_,hr,_=>by have:=hr.1;simp at this
 |_ ::_,[],_,_,hr,_=>by have:=hr.1;simp at this
 |row ::rows,e ::es,r,i0,hr,h=>by
  obtain⟨k,n3,d,rfl,ek⟩:=hr.2 0 row e rfl rfl;obtain rfl:n3=false:=by cases n3<;>first|rfl|(simp[r9,cR] at h)
  simp only[cR] at h ⊢;simp only[r9] at h
  split at h
  ·rename_i hk
   have hs:=mE hx hk
   split at h
   ·rename_i hn
    rw[hn] at hs;injection h with h
    subst h;exact .inr ⟨0,e,d,k,rfl,by simp[Instr.findNow,ek,hs],rfl,rfl⟩
   ·rename_i hn
    rw[Bool.not_eq_true] at hn;rw[hn] at hs;rcases xA hx (i0:=i0+1) hr.tail h with ⟨h1,h2⟩|⟨j,e',d',k',h1,h2,h3,h4⟩
    ·exact .inl ⟨h1,by simp[Instr.findNow,ek,hs,h2]⟩
    ·exact .inr ⟨j+1,e',d',k',h1,by simp[Instr.findNow,ek,hs,h2];omega,by simpa using h3,by simpa using h4⟩
  ·cases h
theorem AT{q:Option IntKind}{x:PV}(hx:dK q x=true){v:DV}:∀{rows rows':List (List DV)} {es:List MapEntry} {i0:Nat},Rows rows es->CK q x v rows=some rows' ->
  (Instr.findNow (dN q) (cO x) es i0=some none/\rows'=rows++[[.p x,v]]) \/
  ∃j e k,Instr.findNow (dN q) (cO x) es i0=some (some (i0+j,e.val))/\es[j]?=some e/\e.key=cO x/\cO x=cO k/\rows'=aF rows j [.p k,v]
 |[],rows',[],i0,_,h=>by simp only[CK,bQ] at h;subst h;exact .inl ⟨rfl,rfl⟩
 |[],_,_ ::_,_,hr,_=>by have:=hr.1;simp at this
 |_ ::_,_,[],_,hr,_=>by have:=hr.1;simp at this
 |row ::rows,rows',e ::es,i0,hr,h=>by
  obtain⟨k,n3,d,rfl,ek⟩:=hr.2 0 row e rfl rfl;obtain rfl:n3=false:=by cases n3<;>first|rfl|(simp[CK,cR] at h)
  simp only[cR] at h ⊢;simp only[CK] at h
  split at h
  ·rename_i hk
   have hs:=mE hx hk
   split at h
   ·rename_i hn
    have hkk:=(pX hx hk).1 hn;rw[hn] at hs;injection h with h
    subst h;exact .inr ⟨0,e,k,by simp[Instr.findNow,ek,hs],rfl,ek.trans hkk.symm,hkk,rfl⟩
   ·rename_i hn
    rw[Bool.not_eq_true] at hn;rw[hn] at hs
    split at h
    ·rename_i l hl'
     injection h with h
     subst h;rcases AT hx (i0:=i0+1) hr.tail hl' with ⟨h1,h2⟩|⟨j,e',k',h1,h2,h3,h4,h5⟩
     ·exact .inl ⟨by simp[Instr.findNow,ek,hs,h1],by rw[h2];rfl⟩
     ·exact .inr ⟨j+1,e',k',by simp[Instr.findNow,ek,hs,h1];omega,by simpa using h2,h3,h4,by rw[h5];rfl⟩
    ·cases h
  ·cases h
theorem AZ{q:Option IntKind}{x:PV}(hx:dK q x=true):∀{rows rows':List (List DV)} {es:List MapEntry} {i0:Nat},Rows rows es->AJ q x rows=some rows' ->
  (Instr.findNow (dN q) (cO x) es i0=some none/\rows'=rows) \/
  ∃j e,Instr.findNow (dN q) (cO x) es i0=some (some (i0+j,e.val))/\es[j]?=some e/\rows'=rows.eraseIdx j
 |[],rows',[],i0,_,h=>by simp only[AJ,bQ] at h;subst h;exact .inl ⟨rfl,rfl⟩
 |[],_,_ ::_,_,hr,_=>by have:=hr.1;simp at this
 |_ ::_,_,[],_,hr,_=>by have:=hr.1;simp at this
 |row ::rows,rows',e ::es,i0,hr,h=>by
  obtain⟨k,n3,d,rfl,ek⟩:=hr.2 0 row e rfl rfl;obtain rfl:n3=false:=by cases n3<;>first|rfl|(simp[AJ,cR] at h)
  simp only[cR] at h ⊢;simp only[AJ] at h
  split at h
  ·rename_i hk
   have hs:=mE hx hk
   split at h
   ·rename_i hn
    rw[hn] at hs;injection h with h
    subst h;exact .inr ⟨0,e,by simp[Instr.findNow,ek,hs],rfl,rfl⟩
   ·rename_i hn
    rw[Bool.not_eq_true] at hn;rw[hn] at hs
    split at h
    ·rename_i l hl'
     injection h with h
     subst h;rcases AZ hx (i0:=i0+1) hr.tail hl' with ⟨h1,h2⟩|⟨j,e',h1,h2,h3⟩
     ·exact .inl ⟨by simp[Instr.findNow,ek,hs,h1],by rw[h2]⟩
     ·exact .inr ⟨j+1,e',by simp[Instr.findNow,ek,hs,h1];omega,by simpa using h2,by rw[h3];rfl⟩
    ·cases h
  ·cases h
section
variable {G:Gl} {X:Cx} {s:St} {a:Act} {Q:Exit->Act->World->Prop} {o:Oper} {K:St->Prop}
theorem xN(h:Rel G X s a){k:Nat}{bx:Box}(hb:dV s.b k=some bx){L:Loc}{v:Value}(hv:VRel X G.base L (.mh k) v) :
  ∃blk es clock,v=.map (some blk)/\X.ρ k=some blk/\X.own blk=some (.box k)/\((G.base<=blk\/∃j,X.ex j=some blk)/\(bx.old=true->X.ex k=some blk))/\X.w.heap[blk]?=some (.map es clock)/\(∀o,X.M blk o) /\
   Rows bx.rows es.toList/\eO es clock/\(∀(i:Nat) row e,bx.rows[i]?=some row->es[i]?=some e->∃(q:PV) (n:Bool) (d:DV),row=.p q ::d ::cR n e/\e.key=cO q/\VRel X G.base (.cell k i 1) d e.val):=by
 obtain⟨hsb,hs0⟩:=eE hb;have hB:=h.boxes k bx hsb;unfold BX at hB;rw[if_pos hs0] at hB;obtain⟨blk,es,clock,m1,m2,m3,m4,m5,m6,m0,m7⟩:=hB;obtain⟨blk',e1,e2⟩:=hv;have:blk'=blk:=by rw[e1] at m1;injection m1
 subst this
 exact⟨blk',es,clock,e2,e1,m2,m3,m4,m6,⟨by simpa using m5,fun i row e hr he=>by
  obtain⟨q,n,d,f1,f2,f3⟩:=m7 i row e hr (by simpa using he);exact⟨q,n,d,f1,f2⟩⟩,m0,m7⟩
theorem s_lookx(h:Rel G X s a){zero:PV}{ok:Bool}{t kt et:TypeId}{q:Option IntKind}{zv:Value}{i:TypeInfo}{x y:Operand}{ox oy:O}(hx:OT x ox)(hy:OT y oy)(ho:o.op=.lookup t x y ok)(hu:P.underlying t=some (.map kt et))
  (hk:P.underlying kt=some (dN q)) (hi:P.info? et=some i) (hz:i.zero=some zv) (hzr:ZV zero zv)
  (hK:bB P (.lookx q zero ok) [ox.val s.t,oy.val s.t] s.b fun v b=>K ⟨aH s.t o.dst v,b⟩):o.wp P a X.w (aZ G K) Q:=by
 obtain⟨_,rx⟩:=h.opnd hx;obtain⟨_,ry⟩:=h.opnd hy;generalize ox.val s.t=vx at *;generalize oy.val s.t=vy at *
 cases vx with
 |mh k=>
  obtain⟨n,rfl⟩:∃n,vy=.p n:=by
   rcases vy with _|x|_|_|_|_|_|_<;>first|(simp[bB] at hK;done)|exact⟨_,rfl⟩
  simp only[bB] at hK;obtain⟨hkp,hK⟩:=hK;have ey:=lQ hkp ry;have hik:=lT hkp
  cases hbk:dV s.b k with
  |none=>simp[hbk] at hK
  |some bx=>
   simp only[hbk] at hK;obtain⟨blk,es,clock,e2,e1,m2,m3,m4,m6,m7,m0,m8⟩:=xN h hbk rx
   cases hf:r9 q n bx.rows with
   |none=>simp[hf] at hK
   |some r=>
    have hkey:∀e n0,(Instr.checkKey e (n0+1) kt (cO n)).run P X.w=.ok () X.w:=fun e n0=>MapKept.run_checkKey hk hik e n0
    rcases xA hkp (i0:=0) m7 hf with ⟨rfl,g1⟩|⟨j,e,d,k0,rfl,g1,g2,g3⟩
    ·simp only[hf] at hK
     have hfind:(Instr.findKey kt (cO n) es.toList).run P X.w=.ok none X.w:=MapKept.run_findKey hk g1;have hzv:∀w,(zeroValue et).run P w=.ok zv w:=fun w=>by simp[zeroValue,typeInfo,hi,hz]
     have run:(execOp a.eval o).run P X.w=.ok (.value (if ok then .tuple #[zv,.bool false] else zv)) X.w:=by
      cases ok<;>simp[execOp,ho,e2,ey,Instr.lookup,run_underlying hu,MapKept.run_getObj_map m4,hkey _ 9999,hfind,hzv]
     cases ok with
     |false=>exact bC (z:=zero) h run hzr.flat hK
     |true=>
      refine bI (v:=.tup [.p zero,.p (.bool false)]) h run (fun _ _=>⟨#[zv,.bool false],rfl,rfl,fun j d u hd hu=>?_⟩) hK
      match j,hd,hu with
      |0,hd,hu=>simp at hd hu;subst hd;subst hu;exact hzr.flat
      |1,hd,hu=>simp at hd hu;subst hd;subst hu;exact .bool _
      |j+2,hd,hu=>simp at hd
    ·simp only[hf] at hK
     have hfind:(Instr.findKey kt (cO n) es.toList).run P X.w=.ok (some (0+j,e.val)) X.w:=MapKept.run_findKey hk g1;obtain⟨q1,n1,d1,f1,f2,f3⟩:=m8 j _ e g3 (by simpa using g2)
     injection f1 with f1 f1'
     injection f1' with f1' _
     subst f1'
     have run:(execOp a.eval o).run P X.w=.ok (.value (if ok then .tuple #[e.val,.bool true] else e.val)) X.w:=by
      cases ok<;>simp[execOp,ho,e2,ey,Instr.lookup,run_underlying hu,MapKept.run_getObj_map m4,hkey _ 9999,hfind]
     cases ok with
     |false=>exact bI h run (fun _ _=>f3.copy _) hK
     |true=>
      simp only[if_true] at hK;obtain⟨v,rfl,hK⟩:=hK;refine bI (v:=.tup [.p v,.p (.bool true)]) h run (fun _ _=>⟨#[e.val,.bool true],rfl,rfl,fun j d u hd hu=>?_⟩) hK
      match j,hd,hu with
      |0,hd,hu=>simp at hd hu;subst hd;subst hu;exact f3
      |1,hd,hu=>simp at hd hu;subst hd;subst hu;exact .bool _
      |j+2,hd,hu=>simp at hd
 |_=>cases vy<;>simp[bB] at hK
theorem tJ(h:Rel G X s a){k:Nat}{bx:Box}(hb:dV s.b k=some bx){blk:Nat}{es es':Array MapEntry}{clock clock':Nat}(e1:X.ρ k=some blk)(m2:X.own blk=some (.box k))
  (m3:(G.base<=blk\/∃j,X.ex j=some blk)/\(bx.old=true->X.ex k=some blk)) (m4:X.w.heap[blk]?=some (.map es clock)) (m6:∀o,X.M blk o) {rows':List (List DV)} (k0:eO es' clock')
  (k1:es'.size=rows'.length) (k2:∀(i:Nat) row e,rows'[i]?=some row->es'[i]?=some e->∃(q:PV) (n:Bool) (d:DV),row=.p q ::d ::cR n e/\e.key=cO q/\VRel X G.base (.cell k i 1) d e.val) :
  ∃w',{ X.w with heap:=X.w.heap.setIfInBounds blk (.map es' clock') }=w'/\Rel G { X with w:=w' } ⟨s.t,aF s.b k (some { bx with rows:=rows' })⟩ a:=by
 obtain⟨hsb,hs0⟩:=eE hb;generalize hw:({ X.w with heap:=X.w.heap.setIfInBounds blk (.map es' clock') }:World)=w'
 obtain⟨q1,q2⟩:=MapKept.heap_set (o':=.map es' clock') m4;have hwh:w'.heap=X.w.heap.setIfInBounds blk (.map es' clock'):=by subst hw;rfl
 rw[<-hwh] at q1 q2;have hsz:w'.heap.size=X.w.heap.size:=by subst hw;simp
 have hszA:∀g,SzAt X.w w' g:=fun g cs' ty' hg=>by
  have hne:g≠blk:=fun e=>by subst e;rw[m4] at hg;injection hg with hg;cases hg
  exact⟨cs',ty',(q2 g hne).trans hg,rfl⟩
 have hev:Ev (fun L=>L≠.box k) X { X with w:=w' }:=by
  refine⟨fun b i u hM hcv=>?_,fun g L hg hS hgl=>?_,rfl,hszA⟩
  ·have hbne:b≠blk:=fun e=>by subst e;exact hM (m6 i)
   exact⟨(World.cell?_of_block (w:=X.w) (q2 b hbne)).trans hcv,hM⟩
  ·have hgne:g≠blk:=fun e=>by subst e;rw[m2] at hg;injection hg with hg;exact hS hg.symm
   exact⟨hg,q2 g hgne,fun _ h=>h⟩
 refine⟨w',rfl,h.defers,h.size,fun i d hdd=>(h.tmps i d hdd).mono (fun _ _ _ h=>by cases h) hev (by simp) fun _ _=>rfl,fun j bx' hj=>?_,
  h.below.trans ⟨by subst hw;rfl,by subst hw;rfl,by subst hw;rfl,by rw[hsz];exact Nat.le_refl _,fun r hr hx=>q2 r (fun e=>by subst e;exact m3.1.elim (fun h=>by omega) (fun ⟨j',h'⟩=>hx _ (by rw[<-h.mold.1];exact h'))),fun _ _=>hszA _⟩,
  by show G.base<=w'.heap.size;rw[hsz];exact h.hb,h.mold⟩
 rcases dI hj with ⟨rfl,rfl⟩|⟨hne,hj⟩
 ·unfold BX
  rw[if_pos (show bx.size=0 from hs0)]
  refine⟨blk,es',clock',e1,m2,m3,q1,k1,m6,k0,fun i row e hr he=>?_⟩
  obtain⟨q0,n0,d0,f1,f2,f3⟩:=k2 i row e hr he;exact⟨q0,n0,d0,f1,f2,f3.mono (fun _ _ _ h=>by cases h) hev (by simp) fun _ _=>rfl⟩
 ·exact(h.boxes j bx' hj).mono (fun _ _ _ h=>by cases h) hev (by simp[hne]) (fun _ _=>by simp) rfl fun _ _ _ _ _ _=>rfl
theorem N6{X:Cx}{base:Nat}{L:Loc}{d:DV}{v:Value}(hd:(d.isRef||d.isP)=true)(h:VRel X base L d v)(L':Loc):VRel X base L' d v:=by
 cases d<;>first|exact h|(simp[DV.isRef,DV.isP] at hd)
theorem s_mupx(h:Rel G X s a){t kt et:TypeId}{q:Option IntKind}{x y z:Operand}{ox oy oz:O}(hx:OT x ox)(hy:OT y oy)(hz:OT z oz)(ho:o.op=.mapUpdate t x y z)(hd:o.dst=none)(hu:P.underlying t=some (.map kt et))
  (hk:P.underlying kt=some (dN q))
  (hK:bB P (.mupx q) [ox.val s.t,oy.val s.t,oz.val s.t] s.b fun v b=>K ⟨aH s.t o.dst v,b⟩):o.wp P a X.w (aZ G K) Q:=by
 obtain⟨_,rx⟩:=h.opnd hx;obtain⟨_,ry⟩:=h.opnd hy;obtain⟨_,rz⟩:=h.opnd hz;generalize ox.val s.t=vx at *;generalize oy.val s.t=vy at *;generalize oz.val s.t=vz at *
 cases vx with
 |mh k=>
  obtain⟨n,rfl⟩:∃n,vy=.p n:=by
   rcases vy with _|x|_|_|_|_|_|_<;>first|(simp[bB] at hK;done)|exact⟨_,rfl⟩
  simp only[bB] at hK;obtain⟨hkp,hone,hK⟩:=hK;have ey:=lQ hkp ry;have hik:=lT hkp
  cases hbk:dV s.b k with
  |none=>simp[hbk] at hK
  |some bx=>
   simp only[hbk] at hK;obtain⟨blk,es,clock,e2,e1,m2,m3,m4,m6,m7,m0,m8⟩:=xN h hbk rx
   cases hf:CK q n vz bx.rows with
   |none=>simp[hf] at hK
   |some rows'=>
    simp only[hf] at hK;have hkey:∀e n0,(Instr.checkKey e (n0+1) kt (cO n)).run P X.w=.ok () X.w:=fun e n0=>MapKept.run_checkKey hk hik e n0
    have key:∃es' clock',(execOp a.eval o).run P X.w=.ok .skip { X.w with heap:=X.w.heap.setIfInBounds blk (.map es' clock') }/\eO es' clock'/\es'.size=rows'.length /\
      ∀(i:Nat) row e,rows'[i]?=some row->es'[i]?=some e->∃(q:PV) (n:Bool) (d:DV),row=.p q ::d ::cR n e/\e.key=cO q/\VRel X G.base (.cell k i 1) d e.val:=by
     have hml:es.size=bx.rows.length:=by simpa using m7.1
     rcases AT hkp (i0:=0) m7 hf with ⟨g1,g2⟩|⟨j,e,k0,g1,g2,g3,g3',g4⟩
     ·refine⟨es.push { key:=cO n,val:=a.eval z,born:=clock },clock+1,?_,xF m0,by simp[g2,hml],fun i row e hr he=>?_⟩
      ·simp[execOp,ho,e2,ey,Instr.mapUpdate,run_underlying hu,MapKept.run_getObj_map m4,hkey _ 9999,MapKept.run_findKey hk g1,MapKept.run_setObj_map _ m4]
      ·subst g2
       rw[List.getElem?_append] at hr;rw[Array.getElem?_push] at he
       by_cases hi:i<bx.rows.length
       ·rw[if_pos hi] at hr
        rw[if_neg (by omega)] at he
        exact m8 i row e hr he
       ·rw[if_neg hi] at hr
        have h0:i-bx.rows.length=0:=by
         have:=(bM.1 hr).1;simp at this;omega
        rw[h0] at hr;rw[if_pos (by omega)] at he
        simp only[List.getElem?_cons_zero,bQ] at hr he;subst hr;subst he;exact⟨_,false,_,rfl,rfl,N6 hone rz _⟩
     ·have hj:es[j]?=some e:=by simpa using g2
      have hjl:j<es.size:=(Array.getElem?_eq_some_iff.1 hj).1;have g1':Instr.findNow (dN q) (cO n) es.toList 0=some (some (j,e.val)):=by simpa using g1
      refine⟨es.modify j (fun e=>{ e with key:=cO n,val:=a.eval z }),clock,?_,lO m0 _ _ (fun _=>rfl),by simp[g4,aI,hml],fun i row e' hr he=>?_⟩
      ·simp[execOp,ho,e2,ey,Instr.mapUpdate,run_underlying hu,MapKept.run_getObj_map m4,hkey _ 9999,MapKept.run_findKey hk g1',hj,g3,MapKept.run_keyThatStays hik,MapKept.run_setObj_map _ m4]
      ·subst g4
       rw[getElem?_setL] at hr;rw[Array.getElem?_modify] at he
       by_cases hij:i=j
       ·subst hij
        rw[if_pos rfl] at hr;rw[if_pos rfl,hj] at he
        cases hrow:bx.rows[i]? with
        |none=>rw[hrow] at hr;simp at hr
        |some row0=>
         rw[hrow] at hr;simp only[Option.map_some,bQ] at hr he;subst hr;subst he;exact⟨_,false,_,rfl,g3',N6 hone rz _⟩
       ·rw[if_neg hij] at hr
        rw[if_neg (fun e=>hij e.symm)] at he
        exact m8 i row e' hr he
    obtain⟨es',clock',run,k0,k1,k2⟩:=key;obtain⟨w',hw,hrel⟩:=tJ h hbk (clock':=clock') e1 m2 m3 m4 m6 k0 k1 k2;rw[hw] at run;unfold Oper.wp;rw[run,Oper.upon_skip];have hp:a.put o.dst undef=a:=by rw[hd];rfl
    rw[hp];refine⟨_,{ X with w:=w' },?_,rfl,hK⟩
    rw[hd];exact hrel
 |_=>rcases vy with _|y|_|_|_|_|_|_<;>(try cases y)<;>simp[bB] at hK
theorem s_mdel(h:Rel G X s a){t kt et:TypeId}{q:Option IntKind}{x y:Operand}{ts:Array TypeId}{ox oy:O}(hx:OT x ox)(hy:OT y oy)(ho:o.op=.call { callee:=.builtin .delete,args := #[x,y],argTypes:=ts })(hts:ts[0]?=some t)
  (hu:P.underlying t=some (.map kt et)) (hk:P.underlying kt=some (dN q))
  (hK:bB P (.mdel q) [ox.val s.t,oy.val s.t] s.b fun v b=>K ⟨aH s.t o.dst v,b⟩):o.wp P a X.w (aZ G K) Q:=by
 obtain⟨_,rx⟩:=h.opnd hx;obtain⟨_,ry⟩:=h.opnd hy;generalize ox.val s.t=vx at *;generalize oy.val s.t=vy at *
 cases vx with
 |mh k=>
  obtain⟨n,rfl⟩:∃n,vy=.p n:=by
   rcases vy with _|x|_|_|_|_|_|_<;>first|(simp[bB] at hK;done)|exact⟨_,rfl⟩
  simp only[bB] at hK;obtain⟨hkp,hK⟩:=hK;have ey:=lQ hkp ry;have hik:=lT hkp
  cases hbk:dV s.b k with
  |none=>simp[hbk] at hK
  |some bx=>
   simp only[hbk] at hK;obtain⟨blk,es,clock,e2,e1,m2,m3,m4,m6,m7,m0,m8⟩:=xN h hbk rx
   cases hf:AJ q n bx.rows with
   |none=>simp[hf] at hK
   |some rows'=>
    simp only[hf] at hK;have hml:es.size=bx.rows.length:=by simpa using m7.1
    have hkey:∀e n0,(Instr.checkKey e (n0+1) kt (cO n)).run P X.w=.ok () X.w:=fun e n0=>MapKept.run_checkKey hk hik e n0
    have key:∃es',(execOp a.eval o).run P X.w=.ok (.value (.tuple #[])) { X.w with heap:=X.w.heap.setIfInBounds blk (.map es' clock) }/\eO es' clock/\es'.size=(aW rows').length /\
      ∀(i:Nat) row e,(aW rows')[i]?=some row->es'[i]?=some e->∃(q:PV) (n:Bool) (d:DV),row=.p q ::d ::cR n e/\e.key=cO q/\VRel X G.base (.cell k i 1) d e.val:=by
     have cp:∀{rows:List (List DV)} {es1:Array MapEntry},(∀(i:Nat) row e,rows[i]?=some row->es1[i]?=some e->∃i':Nat,bx.rows[i']?=some row/\es[i']?=some e) ->
       ∀(i:Nat) row e,(aW rows)[i]?=some row->es1[i]?=some e->∃(q:PV) (n:Bool) (d:DV),row=.p q ::d ::cR n e/\e.key=cO q/\VRel X G.base (.cell k i 1) d e.val:=by
      intro rows es1 hm i row e hr he;rw[bJ,List.getElem?_map] at hr
      cases hr0:rows[i]? with
      |none=>rw[hr0] at hr;simp at hr
      |some row0=>
       rw[hr0] at hr;simp only[Option.map_some,bQ] at hr;subst hr;obtain⟨i',g1,g2⟩:=hm i row0 e hr0 he;obtain⟨q,n,d,f1,f2,f3⟩:=m8 i' row0 e g1 g2;exact⟨q,n,d.copy,by rw[f1];cases n<;>rfl,f2,f3.copy _⟩
     rcases AZ hkp (i0:=0) m7 hf with ⟨g1,g2⟩|⟨j,e,g1,g2,g3⟩
     ·refine⟨es,?_,m0,by simp[bJ,g2,hml],cp fun i row e hr he=>⟨i,by rw[<-g2];exact hr,he⟩⟩
      simp[execOp,ho,resolve,invoke,builtin,Builtin.delete_,hts,e2,ey,run_underlying hu,MapKept.run_getObj_map m4,hkey _ 9999,MapKept.run_findKey hk g1,MapKept.run_setObj_map _ m4]
     ·have g1':Instr.findNow (dN q) (cO n) es.toList 0=some (some (j,e.val)):=by simpa using g1
      have hj:es[j]?=some e:=by simpa using g2
      have hjl:j<es.size:=(Array.getElem?_eq_some_iff.1 hj).1
      have hes:(es.eraseIdxIfInBounds j).toList=es.toList.eraseIdx j:=by
       simp[Array.eraseIdxIfInBounds,hjl]
      refine⟨es.eraseIdxIfInBounds j,?_,DM m0 j,?_,cp fun i row e' hr he=>?_⟩
      ·simp[execOp,ho,resolve,invoke,builtin,Builtin.delete_,hts,e2,ey,run_underlying hu,MapKept.run_getObj_map m4,hkey _ 9999,MapKept.run_findKey hk g1',MapKept.run_setObj_map _ m4]
      ·have:(es.eraseIdxIfInBounds j).size=(es.toList.eraseIdx j).length:=by rw[<-hes,Array.length_toList]
       rw[this,bJ,List.length_map,g3,List.length_eraseIdx,List.length_eraseIdx,if_pos (by simpa using hjl),if_pos (by omega)]
       simp[hml]
      ·rw[g3,List.getElem?_eraseIdx] at hr
       have he':(es.toList.eraseIdx j)[i]?=some e':=by rw[<-hes,Array.getElem?_toList];exact he
       rw[List.getElem?_eraseIdx] at he'
       by_cases hij:i<j
       ·rw[if_pos hij] at hr he';exact⟨i,hr,by simpa using he'⟩
       ·rw[if_neg hij] at hr he';exact⟨i+1,hr,by simpa using he'⟩
    obtain⟨es',run,k0,k1,k2⟩:=key;obtain⟨w',hw,hrel⟩:=tJ h hbk (clock':=clock) e1 m2 m3 m4 m6 k0 k1 k2;rw[hw] at run;unfold Oper.wp;rw[run,Oper.upon_value];have h2:=hrel.put (d:=o.dst) (v:=.top) (u:=.tuple #[]) (fun _ _=>trivial)
    exact⟨_,{ X with w:=w' },h2,rfl,hK⟩
 |_=>cases vy<;>simp[bB] at hK
theorem s_mlen(h:Rel G X s a){t kt et:TypeId}{x:Operand}{ox:O}(hx:OT x ox)(ho:o.op=.call { callee:=.builtin .len,args := #[x],argTypes := #[t] })(hu:P.underlying t=some (.map kt et))
  (hK:bB P .mlen [ox.val s.t] s.b fun v b=>K ⟨aH s.t o.dst v,b⟩):o.wp P a X.w (aZ G K) Q:=by
 obtain⟨_,rx⟩:=h.opnd hx;generalize ox.val s.t=vx at *
 cases vx with
 |mh k=>
  simp only[bB] at hK
  cases hbk:dV s.b k with
  |none=>simp[hbk] at hK
  |some bx=>
   simp only[hbk] at hK;obtain⟨blk,es,clock,e2,e1,m2,m3,m4,m6,m7,m0,m8⟩:=xN h hbk rx;have hml:es.size=bx.rows.length:=by simpa using m7.1
   refine bC (z:=.int .i64 bx.rows.length) h ?_ (.int _ _) hK;simp[execOp,ho,resolve,invoke,builtin,Builtin.len_,e2,run_underlying hu,MapKept.run_getObj_map m4,hml,goInt]
 |_=>simp[bB] at hK
theorem wO{q:Option IntKind}{x:PV}(hx:dK q x=true):∀{rows:List (List DV)} {es:List MapEntry} {v:PV} {s:Int} {i0:Nat},Rows rows es->cX q x rows=some (v,s) ->
  ∃j e k,Instr.findNow (dN q) (cO x) es i0=some (some (i0+j,e.val))/\es[j]?=some e/\e.key=cO x/\rows[j]?=some [.p k,.p v,.p (.int .i64 s)]
 |[],_,v,s,_,_,h=>by simp[cX] at h
 |_ ::_,[],_,_,_,hr,_=>by have:=hr.1;simp at this
 |row ::rows,e ::es,v,s,i0,hr,h=>by
  obtain⟨k,n3,d,rfl,ek⟩:=hr.2 0 row e rfl rfl;obtain rfl:n3=true:=by cases n3<;>first|rfl|(simp[cX,cR] at h)
  simp only[cR] at h ⊢;obtain⟨u,rfl⟩:∃u,d=.p u:=by cases d<;>first|exact⟨_,rfl⟩|(simp[cX] at h)
  simp only[cX] at h
  split at h
  ·rename_i hk
   have hs:=mE hx hk
   split at h
   ·rename_i hn
    have hkk:=(pX hx hk).1 hn;rw[hn] at hs;injection h with h
    injection h with h1 h2
    subst h1;subst h2;exact⟨0,e,k,by simp[Instr.findNow,ek,hs],rfl,ek.trans hkk.symm,rfl⟩
   ·rename_i hn
    rw[Bool.not_eq_true] at hn;rw[hn] at hs;obtain⟨j,e',k',h1,h2,h3,h4⟩:=wO hx (i0:=i0+1) hr.tail h;exact⟨j+1,e',k',by simp[Instr.findNow,ek,hs,h1];omega,by simpa using h2,h3,by simpa using h4⟩
  ·cases h
theorem C9{s:Int}{d:DV}:∀{rows rows':List (List DV)} {es:List MapEntry},Rows rows es->fW s d rows=some rows' ->
  ∃j e k u,es[j]?=some e/\(e.born:Int)=s/\(∀i e',i<j->es[i]?=some e'->(e'.born:Int)≠s)/\rows[j]?=some [.p k,u,.p (.int .i64 s)]/\rows'=aF rows j [.p k,d,.p (.int .i64 s)]
 |[],_,_,_,h=>by simp[fW] at h
 |_ ::_,_,[],hr,_=>by have:=hr.1;simp at this
 |row ::rows,rows',e ::es,hr,h=>by
  obtain⟨k,n3,u,rfl,ek⟩:=hr.2 0 row e rfl rfl;obtain rfl:n3=true:=by cases n3<;>first|rfl|(simp[fW,cR] at h)
  simp only[cR] at h ⊢;simp only[fW] at h
  split at h
  ·rename_i hs
   injection h with h
   subst h;subst hs;exact⟨0,e,k,u,rfl,rfl,fun i e' hi=>by omega,rfl,rfl⟩
  ·rename_i hs
   split at h
   ·rename_i l hl
    injection h with h
    subst h;obtain⟨j,e',k',u',h1,h2,h3,h4,h5⟩:=C9 hr.tail hl;refine⟨j+1,e',k',u',by simpa using h1,h2,fun i e2 hi he=>?_,by simpa using h4,by rw[h5];rfl⟩
    cases i with
    |zero=>simp at he;subst he;exact hs
    |succ i=>exact h3 i e2 (by omega) (by simpa using he)
   ·cases h
theorem AL{es:Array MapEntry}{j:Nat}{e:MapEntry}(he:es[j]?=some e){k:Value}(hk:e.key=k):es.modify j (fun e=>{ e with key:=k })=es:=by
 apply Array.ext_getElem?
 intro i;rw[Array.getElem?_modify]
 split
 ·rename_i hij
  subst hij;rw[he];simp only[Option.map_some,bQ];subst hk
  rfl
 ·rfl
theorem H2{w:World}{g:Nat}{o:Obj}(h:w.heap[g]?=some o):({ w with heap:=w.heap.setIfInBounds g o }:World)=w:=by
 have:w.heap.setIfInBounds g o=w.heap:=by
  apply Array.ext_getElem?
  intro i
  by_cases hi:g=i
  ·subst hi
   rw[h,Array.getElem?_setIfInBounds_self_of_lt (Array.getElem?_eq_some_iff.1 h).1]
  ·rw[Array.getElem?_setIfInBounds_ne hi]
 rw[this]
theorem s_mpe(h:Rel G X s a){t kt et:TypeId}{q:Option IntKind}{x y:Operand}{ox oy:O}(hx:OT x ox)(hy:OT y oy)(ho:o.op=.mapEntry t x y)(hu:P.underlying t=some (.map kt et))
  (hk:P.underlying kt=some (dN q))
  (hK:bB P (.mpe q) [ox.val s.t,oy.val s.t] s.b fun v b=>K ⟨aH s.t o.dst v,b⟩):o.wp P a X.w (aZ G K) Q:=by
 obtain⟨_,rx⟩:=h.opnd hx;obtain⟨_,ry⟩:=h.opnd hy;generalize ox.val s.t=vx at *;generalize oy.val s.t=vy at *
 cases vx with
 |mh k=>
  obtain⟨n,rfl⟩:∃n,vy=.p n:=by
   rcases vy with _|x|_|_|_|_|_|_<;>first|(simp[bB] at hK;done)|exact⟨_,rfl⟩
  simp only[bB] at hK;obtain⟨hkp,hK⟩:=hK;have ey:=lQ hkp ry;have hik:=lT hkp
  cases hbk:dV s.b k with
  |none=>simp[hbk] at hK
  |some bx=>
   simp only[hbk] at hK;obtain⟨blk,es,clock,e2,e1,m2,m3,m4,m6,m7,m0,m8⟩:=xN h hbk rx;have hfe:f8 q n bx.rows=cX q n bx.rows:=by unfold f8;rfl
   rw[hfe] at hK
   cases hf:cX q n bx.rows with
   |none=>simp[hf] at hK
   |some vs=>
    obtain⟨v,st⟩:=vs;simp only[hf] at hK;have hkey:∀e n0,(Instr.checkKey e (n0+1) kt (cO n)).run P X.w=.ok () X.w:=fun e n0=>MapKept.run_checkKey hk hik e n0
    obtain⟨j,e,k0,g1,g2,g3,g4⟩:=wO hkp (i0:=0) m7 hf;have hj:es[j]?=some e:=by simpa using g2
    have g1':Instr.findNow (dN q) (cO n) es.toList 0=some (some (j,e.val)):=by simpa using g1
    obtain⟨q1,n1,d1,f1,f2,f3⟩:=m8 j _ e g4 hj;injection f1 with f1 f1'
    injection f1' with f1' f1''
    subst f1'
    have hst:st=e.born:=by
     cases n1 with
     |false=>simp[cR] at f1''
     |true=>simp[cR] at f1'';exact f1''
    have hw:({ X.w with heap:=X.w.heap.setIfInBounds blk (.map (es.modify j (fun e=>{ e with key:=cO n })) clock) }:World)=X.w:=by rw[AL hj g3];exact H2 m4
    have run:(execOp a.eval o).run P X.w=.ok (.value (.tuple #[e.val,.int .i64 e.born])) X.w:=by
     have:(execOp a.eval o).run P X.w=.ok (.value (.tuple #[e.val,.int .i64 e.born])) ({ X.w with heap:=X.w.heap.setIfInBounds blk (.map (es.modify j (fun e=>{ e with key:=cO n })) clock) }:World):=by
      simp[execOp,ho,e2,ey,Instr.mapEntry,run_underlying hu,MapKept.run_getObj_map m4,hkey _ 9999,MapKept.run_findKey hk g1',hj,g3,MapKept.run_keyThatStays hik,MapKept.run_setObj_map _ m4,goInt]
     rw[hw] at this;exact this
    refine bI (v:=.tup [.p v,.p (.int .i64 st)]) h run (fun _ _=>⟨#[e.val,.int .i64 e.born],rfl,rfl,fun j d u hd hu=>?_⟩) hK
    match j,hd,hu with
    |0,hd,hu=>simp at hd hu;subst hd;subst hu;exact f3
    |1,hd,hu=>simp at hd hu;subst hd;subst hu;rw[hst];exact .int _ _
    |j+2,hd,hu=>simp at hd
 |_=>cases vy<;>simp[bB] at hK
theorem sS:∀{ds:List DV} {cs:List RfV},pW ds=some cs->cs.length=ds.length/\∀(i:Nat) d c,ds[i]?=some d->cs[i]?=some c->N7 d=some c
 |[],cs,h=>by simp only[pW,bQ] at h;subst h;exact⟨rfl,fun i d c h=>by simp at h⟩
 |d ::ds,cs,h=>by
  simp only[pW] at h
  split at h
  ·rename_i x xs h1 h2
   injection h with h
   subst h;obtain⟨e1,e2⟩:=sS h2;refine⟨by simp[e1],fun i d' c hd hc=>?_⟩
   cases i with
   |zero=>simp only[List.getElem?_cons_zero,bQ] at hd hc;subst hd;subst hc;exact h1
   |succ i=>exact e2 i d' c (by simpa using hd) (by simpa using hc)
  ·cases h
theorem IY{X:Cx}{base:Nat}{L:Loc}{d:DV}{c:RfV}{v:Value}(hc:N7 d=some c)(h:VRel X base L d v):RRel X c v:=by
 cases d<;>simp[N7] at hc<;>subst hc
 all_goals first|exact OwRel.flat h|exact h
theorem s_lda(h:Rel G X s a){n:Nat}{t:TypeId}(ht:TyIs P t n true){x:Operand}{ox:O}(hx:OT x ox)(ho:o.op=.load t x)
  (hK:bB P (.lda n) [ox.val s.t] s.b fun v b=>K ⟨aH s.t o.dst v,b⟩):o.wp P a X.w (aZ G K) Q:=by
 obtain⟨_,rx⟩:=h.opnd hx;generalize ox.val s.t=vx at *
 cases vx with
 |addr k sz r off=>
  obtain⟨blk,hρ,ev⟩:=rx;simp only[bB] at hK
  cases hbk:bF s.b k with
  |none=>simp[hbk] at hK
  |some bx=>
   simp only[hbk] at hK;obtain⟨rfl,row,hr,hle,hK⟩:=hK;obtain⟨blk',cs,ty,hb⟩:=h.cbox (b8 hbk) (bG hbk);have:blk'=blk:=by have:=hb.ρ;rw[hρ] at this;injection this with h;exact h.symm
   subst this
   cases hp:pW (eW row off n) with
   |none=>simp[hp] at hK
   |some xs=>
    simp only[hp] at hK;obtain⟨e1,e2⟩:=sS hp
    have hcell:∀j,j<n->∃u,X.w.cell? ⟨blk',r*bx.size+off+j,none⟩=some u/\VRel X G.base (.cell k r (off+j)) (row[off+j]?.getD .top) u/\u.oneCell'=true:=by
     intro j hj;obtain⟨u,_,h2,h3,h4⟩:=hb.cell hr (i:=off+j) (by omega)
     refine⟨u,by rw[Nat.add_assoc];exact h2,?_,h4⟩
     rw[List.getElem?_eq_getElem (by omega)]
     exact h3
    have hf:∃f:Nat->Value,∀j,j<n->X.w.cell? ⟨blk',r*bx.size+off+j,none⟩=some (f j)/\VRel X G.base (.cell k r (off+j)) (row[off+j]?.getD .top) (f j)/\(f j).oneCell'=true:=by
     refine⟨fun j=>if hj:j<n then (hcell j hj).choose else undef,fun j hj=>?_⟩
     simp only[dif_pos hj];exact(hcell j hj).choose_spec
    obtain⟨f,hf⟩:=hf;have hlen:xs.length=n:=by rw[e1,iX];simp;omega
    refine bI (v:=.agd xs) h (jK ht ho ev f fun j hj=>(hf j hj).1) (fun _ _=>⟨_,rfl,by simp[hlen],fun j c u hc hu=>?_⟩) hK
    have hin:j<n:=by rw[<-hlen];exact(bM.1 hc).1
    have hd:(eW row off n)[j]?=some (row[off+j]?.getD .top):=by
     rw[iX,List.getElem?_take,if_pos hin,List.getElem?_drop,List.getElem?_eq_getElem (by omega)];rfl
    have:u=f j:=by simpa [hin,eq_comm] using hu
    subst this;exact⟨IY (e2 j _ c hd hc) (hf j hin).2.1,(hf j hin).2.2⟩
 |_=>simp[bB] at hK
theorem s_ents(h:Rel G X s a){t:TypeId}{x y z:Operand}{ox oy oz:O}(hx:OT x ox)(hy:OT y oy)(hz:OT z oz)(ho:o.op=.entryStore t x y z)(hd:o.dst=none)
  (hK:bB P .ents [ox.val s.t,oy.val s.t,oz.val s.t] s.b fun v b=>K ⟨aH s.t o.dst v,b⟩):o.wp P a X.w (aZ G K) Q:=by
 obtain⟨_,rx⟩:=h.opnd hx;obtain⟨_,ry⟩:=h.opnd hy;obtain⟨_,rz⟩:=h.opnd hz;generalize ox.val s.t=vx at *;generalize oy.val s.t=vy at *;generalize oz.val s.t=vz at *;unfold bB at hK
 split at hK
 all_goals first
  |exact hK.elim
  |(rename_i e1 e2;cases e1;done)
  |(rename_i e2;cases e2;done)
  |skip
 rename_i k st d e1 e2;injection e2 with e2 e3
 injection e3 with e3 e4
 injection e4 with e4 _
 subst e2;subst e3;subst e4;obtain⟨hone,hK⟩:=hK;have ey:=Flat.intv ry
 cases hbk:dV s.b k with
 |none=>simp[hbk] at hK
 |some bx=>
  simp only[hbk] at hK;obtain⟨blk,es,clock,e2,e1,m2,m3,m4,m6,m7,m0,m8⟩:=xN h hbk rx;have hfe:iW st vz bx.rows=fW st vz bx.rows:=by unfold iW;rfl
  rw[hfe] at hK
  cases hf:fW st vz bx.rows with
  |none=>simp[hf] at hK
  |some rows'=>
   simp only[hf] at hK;have hml:es.size=bx.rows.length:=by simpa using m7.1
   obtain⟨j,e,k0,u0,g1,g2,g3,g4,g5⟩:=C9 m7 hf;have hj:es[j]?=some e:=by simpa using g1
   have hjl:j<es.size:=(Array.getElem?_eq_some_iff.1 hj).1
   have hfi:es.findIdx? (fun e=>(e.born:Int) ==st)=some j:=by
    rw[Array.findIdx?_eq_some_iff_getElem];refine⟨hjl,?_,fun i hi=>?_⟩
    ·have:es[j]=e:=(Array.getElem?_eq_some_iff.1 hj).2
     rw[this];simpa using g2
    ·have hil:i<es.size:=by omega
     have:=g3 i es[i] hi (by simp[hil])
     simpa using this
   have run:(execOp a.eval o).run P X.w=.ok .skip { X.w with heap:=X.w.heap.setIfInBounds blk (.map (es.modify j (fun e=>{ e with val:=a.eval z })) clock) }:=by
    simp[execOp,ho,e2,ey,Instr.entryStore,asInt,asIntOf,MapKept.run_getObj_map m4,hfi,MapKept.run_setObj_map _ m4]
   obtain⟨w',hw,hrel⟩:=tJ (rows':=rows') (es':=es.modify j (fun e=>{ e with val:=a.eval z })) h hbk (clock':=clock) e1 m2 m3 m4 m6 (lO m0 _ _ fun _=>rfl) (by simp[g5,aI,hml]) (fun i row e' hr he=>by
    subst g5;rw[getElem?_setL] at hr;rw[Array.getElem?_modify] at he
    by_cases hij:i=j
    ·subst hij
     rw[if_pos rfl,g4] at hr;rw[if_pos rfl,hj] at he;simp only[Option.map_some,bQ] at hr he;subst hr;subst he;obtain⟨q1,n1,d1,f1,f2,f3⟩:=m8 i _ e g4 hj;injection f1 with f1 f1'
     injection f1 with f1
     refine⟨k0,true,_,?_,by rw[f1];exact f2,N6 hone rz _⟩
     simp only[cR];rw[g2]
    ·rw[if_neg hij] at hr
     rw[if_neg (fun e=>hij e.symm)] at he
     exact m8 i row e' hr he)
   rw[hw] at run;unfold Oper.wp;rw[run,Oper.upon_skip];have hp:a.put o.dst undef=a:=by rw[hd];rfl
   rw[hp];refine⟨_,{ X with w:=w' },?_,rfl,hK⟩
   rw[hd];exact hrel
theorem s_bsld(h:Rel G X s a){size n:Nat}{ag:Bool}{t e:TypeId}{parts:Array (Nat×Operand)}{os:List O}{xs:List Operand}(ho:o.op=.buildSlice t n parts)
  (hu:P.underlying t=some (.slice e)) {i:TypeInfo} {z:Value} (hi:P.info? e=some i) (hz:i.zero=some z) (hsz:i.size=1) (hn:n<=16777216) (hnm:n<=maxLen)
  (hp:parts.toList=(xs.zipIdx 0).map fun x=>(x.2,x.1)) (hl:os.length=xs.length) (hos:∀(j:Nat) x oo,xs[j]?=some x->os[j]?=some oo->OT x oo)
  (hf:(wK s.b.length (aH s.t o.dst .top)&&C4 s.b.length s.b)=true)
  (hK:bB P (.bsld size n ag) (os.map (O.val s.t)) s.b fun v b=>K ⟨aH s.t o.dst v,b⟩):o.wp P a X.w (aZ G K) Q:=by
 simp only[bB] at hK;obtain⟨rfl,hxl,hn0,hrf,hlt,hK⟩:=hK;simp only[aY] at hf;obtain⟨hT,hB⟩:=hf;simp only[List.length_map] at hxl;have hlen:xs.length=n:=by omega
 generalize hvs:xs.map a.eval=vs;have hvl:vs.length=n:=by rw[<-hvs];simp[hlen]
 have hval:∀(j:Nat) v,vs[j]?=some v->∃d,(os.map (O.val s.t))[j]?=some d/\d.isRef=true/\(∀L,VRel X G.base L d v)/\v.oneCell'=true:=by
  intro j v hv;rw[<-hvs,List.getElem?_map] at hv
  cases hx:xs[j]? with
  |none=>rw[hx] at hv;simp at hv
  |some x=>
   rw[hx] at hv;simp only[Option.map_some,bQ] at hv;subst hv;have hj:=(bM.1 hx).1;have hoj:os[j]?=some os[j]:=by simp[show j<os.length by omega]
   obtain⟨L,hvr⟩:=h.opnd (hos j x os[j] hx hoj);have hd:(os.map (O.val s.t))[j]?=some (os[j].val s.t):=by rw[List.getElem?_map,hoj];rfl
   have hr:=List.all_eq_true.1 hrf _ (cD hd);refine⟨_,hd,hr,fun L'=>N6 (by rw[hr];rfl) hvr L',?_⟩
   generalize os[j].val s.t=dv at hvr hr
   cases dv with
   |addr k sz r o=>obtain⟨b,_,e⟩:=hvr;rw[e];rfl
   |bs k sz ag lo m=>obtain⟨b,cap,_,_,_,_,e⟩:=hvr;rw[e];rfl
   |mh k=>obtain⟨b,_,e⟩:=hvr;rw[e];rfl
   |_=>simp[DV.isRef] at hr
 have hvcells:∀v∈vs,v.cells.size=i.size:=by
  intro v hv;obtain⟨j,hj⟩:=List.getElem?_of_mem hv;obtain⟨d,_,_,_,h1⟩:=hval j v hj;rw[cM h1,hsz];rfl
 have hev:(parts.map fun (i,x)=>(i,a.eval x)).toList=(vs.zipIdx 0).map fun x=>(x.2,x.1):=by
  rw[Array.toList_map,hp, <-hvs,List.zipIdx_map,List.map_map,List.map_map]
  rfl
 have hcap:=Go.Great.fill_whole (by rw[hsz];omega) vs ((Array.range (n*i.size)).map (z.cells[·%z.cells.size]!)) hvcells (by simp[hvl])
 have hr:=run_buildSlice (P:=P) X.w t e n (parts.map fun (i,x)=>(i,a.eval x)) _ i z hu hi hz (by rw[hsz];omega) (by rw[hsz];omega) (by rw[hev];exact hcap)
 have hcur:(vs.flatMap fun v=>v.cells.toList)=vs:=by
  have:∀(l:List Value),(∀v∈l,v.cells.size=1->v.cells = #[v])->(∀v∈l,v.cells = #[v])->(l.flatMap fun v=>v.cells.toList)=l:=by
   intro l _ h
   induction l with
   |nil=>rfl
   |cons v l ih=>simp only[List.flatMap_cons];rw[h v (by simp),ih (fun _ _ _=>h _ (by simp[*])) (fun v hv=>h v (by simp[hv]))];rfl
  exact this vs (fun v hv _=>by obtain⟨j,hj⟩:=List.getElem?_of_mem hv;obtain⟨d,_,_,_,h1⟩:=hval j v hj;exact cM h1) (fun v hv=>by obtain⟨j,hj⟩:=List.getElem?_of_mem hv;obtain⟨d,_,_,_,h1⟩:=hval j v hj;exact cM h1)
 rw[hcur] at hr
 have run:(execOp a.eval o).run P X.w=.ok (.value (.slice (some ⟨X.w.heap.size,0,none⟩) n n)) (X.w.alloc (.cells vs.toArray e)):=by
  simp only[execOp,ho,Sem.run_bind];rw[hr];rfl
 have hrl:((os.map (O.val s.t)).map fun x=>[x]).length=n:=by simp;omega
 refine yD (K:=K) (size:=1) h hT hB (by decide) (rows:=(os.map (O.val s.t)).map fun x=>[x]) (vs:=vs) (rest := #[]) (cap:=n) (ag:=ag) (ty:=e) (w':=X.w.alloc (.cells vs.toArray e)) (by have:=NewBlock.alloc X.w vs.toArray e;simpa using this)
  (fun row hrow=>?_) (by simp;omega) (by simp;omega) (by omega) hnm (fun i' j row d hr hd=>?_) (fun row hr d hd q hq=>?_) (by rw[hrl];exact run) (b':=s.b++[some ⟨true,1,(os.map (O.val s.t)).map fun x=>[x],false⟩]) (fun j bx hj=>hj) (by rw[hrl];exact hK)
 ·obtain⟨x,_,rfl⟩:=List.mem_map.1 hrow;rfl
 ·rw[List.getElem?_map] at hr
  cases hd0:(os.map (O.val s.t))[i']? with
  |none=>rw[hd0] at hr;simp at hr
  |some d0=>
   rw[hd0] at hr;simp only[Option.map_some,bQ] at hr;subst hr
   cases j with
   |zero=>
    simp at hd;subst hd;have hil:=(bM.1 hd0).1;simp at hil;have hv:vs[i']?=some vs[i']:=by simp[show i'<vs.length by omega]
    obtain⟨d1,g1,g2,g3,g4⟩:=hval i' _ hv;rw[hd0] at g1;injection g1 with g1
    subst g1;exact⟨_,by simpa using hv,g3,g4⟩
   |succ j=>simp at hd
 ·obtain⟨x,hx,rfl⟩:=List.mem_map.1 hr
  simp at hd;subst hd;exact eR (List.all_eq_true.1 hlt _ hx) hq
theorem oR(l:List RfV)(o:Nat)(cs:List RfV):(rB l o cs).length=l.length:=by
 induction cs generalizing l o with
 |nil=>rfl
 |cons c cs ih=>simp[rB,ih,aI]
theorem H7(l:List RfV)(o:Nat)(cs:List RfV)(i:Nat):(rB l o cs)[i]?=if o<=i/\i<o+cs.length/\i<l.length then cs[i-o]? else l[i]?:=by
 induction cs generalizing l o with
 |nil=>simp[rB];intro h1 h2;omega
 |cons c cs ih=>
  rw[rB,ih,aI,getElem?_setL]
  by_cases h1:i=o
  ·subst h1
   rw[if_neg (by omega),if_pos rfl]
   by_cases hl:i<l.length
   ·rw[if_pos ⟨Nat.le_refl _,by simp,hl⟩];simp[hl]
   ·rw[if_neg (by omega)];simp[hl]
  ·by_cases h2:o+1<=i/\i<o+1+cs.length/\i<l.length
   ·rw[if_pos h2,if_pos ⟨by omega,by simp;omega,h2.2.2⟩]
    have:i-o=(i-(o+1))+1:=by omega
    rw[this];simp
   ·rw[if_neg h2,if_neg h1,if_neg (by simp;omega)]
def qM(X:Cx)(cs:List RfV)(vs:Array Value):Prop :=
 vs.size=cs.length/\∀(i:Nat) c v,cs[i]?=some c->vs[i]?=some v->RRel X c v/\v.oneCell'=true
theorem qA:∀{l:List PV} {i:Nat},(j6 l)[i]?=(l[i]?).map RfV.p
 |[],i=>by simp[j6]
 |x ::l,0=>by simp[j6]
 |x ::l,i+1=>by simp only[j6,List.getElem?_cons_succ];exact qA
theorem gF:∀{l:List PV},(j6 l).length=l.length
 |[]=>rfl
 |x ::l=>by simp[j6,gF]
theorem GY{X:Cx}{base:Nat}{L:Loc}{x:DV}{v:Value}(h:VRel X base L x v){cs:List RfV}(hc:qY x=some cs):qM X cs v.cells:=by
 have single:∀{c:RfV},cs=[c]->RRel X c v->v.oneCell'=true->qM X cs v.cells:=by
  intro c e hr hone;subst e;rw[cM hone];refine⟨rfl,fun i d u hd hu=>?_⟩
  cases i with
  |zero=>simp at hd hu;subst hd;subst hu;exact⟨hr,hone⟩
  |succ i=>simp at hd
 cases x with
 |p z=>
  simp only[qY,bQ] at hc;subst hc;obtain⟨e1,e2⟩:=Flat.cells (show Flat X.M X.w z v from h)
  refine⟨by rw[gF];exact e1,fun i c u hc hu=>?_⟩
  rw[qA] at hc
  cases hz:(aE z)[i]? with
  |none=>rw[hz] at hc;simp at hc
  |some c0=>
   rw[hz] at hc;simp only[Option.map_some,bQ] at hc;subst hc;obtain⟨f1,f2⟩:=e2 i c0 u hz hu;exact⟨f1,f1.oneCell f2⟩
 |ow sz nl rows=>
  simp only[qY,bQ] at hc;have:=OwRel.flat h;exact single hc.symm this (this.oneCell rfl)
 |addr k sz r o=>
  simp only[qY,bQ] at hc;exact single hc.symm h (by obtain⟨blk,_,rfl⟩:=h;rfl)
 |bs k sz ag lo n=>
  simp only[qY,bQ] at hc;exact single hc.symm h (by obtain⟨blk,cap,_,_,_,_,rfl⟩:=h;rfl)
 |mh k=>
  simp only[qY,bQ] at hc;exact single hc.symm h (by obtain⟨blk,_,rfl⟩:=h;rfl)
 |_=>simp[qY] at hc
theorem x6{X:Cx}{base:Nat}{place:Nat->Option (Nat×Nat)}:∀(parts:List (Nat×Value)) (offs:List (Nat×Nat)) (ps:List DV) (zero:List RfV) (zs:Array Value) (cs:List RfV),
  qM X zero zs->parts.length=offs.length ->
  (∀(k:Nat) (p:Nat×Value) (o:Nat×Nat),parts[k]?=some p->offs[k]?=some o->place p.1=some o/\o.1+o.2<=zero.length) ->
  (∀(k:Nat) (p:Nat×Value) x,parts[k]?=some p->ps[k]?=some x->∃L,VRel X base L x p.2)->pA zero offs ps=some cs ->
  ∃cells,Instr.fill place zs parts=some cells/\qM X cs cells
 |[],[],[],zero,zs,cs,hz,_,_,_,hf=>by
  simp[pA] at hf;subst hf;exact⟨zs,rfl,hz⟩
 |[],[],_ ::_,_,_,_,_,_,_,_,hf=>by simp[pA] at hf
 |[],_ ::_,_,_,_,_,_,hl,_,_,_=>by simp at hl
 |_ ::_,[],_,_,_,_,_,hl,_,_,_=>by simp at hl
 |_ ::_,_ ::_,[],_,_,_,_,_,_,_,hf=>by simp[pA] at hf
 |p ::parts,o ::offs,x ::ps,zero,zs,cs,hz,hl,hpl,hfl,hf=>by
  simp only[pA] at hf
  split at hf
  ·rename_i c0 hpx
   split at hf
   ·rename_i hlen
    obtain⟨hp,hb⟩:=hpl 0 p o rfl rfl;obtain⟨L,hx⟩:=hfl 0 p x rfl rfl;obtain⟨c1,c2⟩:=GY hx hpx;obtain⟨pi,pv⟩:=p;obtain⟨oo,os⟩:=o;simp only at hp hb hlen c1 c2 hf;have hsz:pv.cells.size=os:=by rw[c1,hlen]
    obtain⟨f1,f2⟩:=Go.Great.foldl_set oo pv.cells.toList 0 zs
    have hz':qM X (rB zero oo c0) ((pv.cells.toList.zipIdx 0).foldl (fun cs (x:Value×Nat)=>cs.setIfInBounds (oo+x.2) x.1) zs):=by
     refine⟨by rw[f1,oR,hz.1],fun i c v hc hv=>?_⟩
     rw[H7] at hc;rw[f2] at hv;simp only[Nat.add_zero,Array.length_toList,hz.1,c1] at hv
     by_cases hin:oo<=i/\i<oo+c0.length/\i<zero.length
     ·rw[if_pos hin] at hc hv
      exact c2 _ c v hc (by simpa using hv)
     ·rw[if_neg hin] at hc hv
      exact hz.2 i c v hc hv
    obtain⟨cells,g1,g2⟩:=x6 (place:=place) parts offs ps _ _ cs hz' (by simpa using hl) (fun k p o hp ho=>by
     have:=hpl (k+1) p o (by simpa using hp) (by simpa using ho)
     rw[oR];exact this) (fun k p x hp hx=>hfl (k+1) p x (by simpa using hp) (by simpa using hx)) hf
    refine⟨cells,?_,g2⟩;unfold Instr.fill;rw[hp];simp only;rw[if_neg (by rw[hz.1,hsz];simp;omega)]
    have e:pv.cells.zipIdx.foldl (fun cs (x:Value×Nat)=>match x with|(c,j)=>cs.setIfInBounds (oo+j) c) zs=(pv.cells.toList.zipIdx 0).foldl (fun cs (x:Value×Nat)=>cs.setIfInBounds (oo+x.2) x.1) zs:=by
     rw[<-Array.foldl_toList];simp
    rw[e];exact g1
   ·cases hf
  ·cases hf
theorem s_bldo(h:Rel G X s a){t:TypeId}{parts:Array (Nat×Operand)}{os:List O}{zero:List PV}{offs:List (Nat×Nat)}(ho:o.op=.build t parts)
  {fields:Array Field} (hu:P.underlying t=some (.struct fields)) {it:TypeInfo} {z:Value} (hi:P.info? t=some it) (hz:it.zero=some z)
  {places:List (Nat×Nat)} (hpl:fields.toList.mapM (fun f=>(P.info? f.type).map fun i=>(f.offset,i.size))=some places)
  (hzs:z.cells.size=zero.length) (hzr:∀(i:Nat) c v,zero[i]?=some c->z.cells[i]?=some v->ZP c v)
  (hl:parts.size=offs.length) (hl2:os.length=parts.size)
  (hoff:∀(k:Nat) (p:Nat×Operand) (o:Nat×Nat),parts[k]?=some p->offs[k]?=some o->places[p.1]?=some o/\o.1+o.2<=zero.length)
  (hos:∀(k:Nat) (p:Nat×Operand) oo,parts[k]?=some p->os[k]?=some oo->OT p.2 oo)
  (hK:bB P (.bldo zero offs) (os.map (O.val s.t)) s.b fun v b=>K ⟨aH s.t o.dst v,b⟩):o.wp P a X.w (aZ G K) Q:=by
 simp only[bB] at hK
 cases hf:pA (j6 zero) offs (os.map (O.val s.t)) with
 |none=>simp[hf] at hK
 |some cs=>
  simp only[hf] at hK
  have hz0:qM X (j6 zero) z.cells:=⟨by rw[gF];exact hzs,fun i c v hc hv=>by
   rw[qA] at hc
   cases hzz:zero[i]? with
   |none=>rw[hzz] at hc;simp at hc
   |some c0=>
    rw[hzz] at hc;simp only[Option.map_some,bQ] at hc;subst hc;obtain⟨f1,f2⟩:=(hzr i c0 v hzz hv).rel (M:=X.M) (w:=X.w);exact⟨f1,f1.oneCell f2⟩⟩
  obtain⟨cells,g1,g2⟩:=x6 (X:=X) (base:=G.base) (place:=fun x=>places.toArray[x]?) (parts.toList.map fun (i,x)=>(i,a.eval x)) offs (os.map (O.val s.t)) (j6 zero) z.cells cs hz0
   (by simp [hl]) (fun k p o hp ho => by
    rw[List.getElem?_map] at hp
    cases hpk:parts.toList[k]? with
    |none=>rw[hpk] at hp;simp at hp
    |some q=>
     rw[hpk] at hp;simp at hp;subst hp;have:=hoff k q o (by simpa using hpk) ho
     rw[gF]
     simpa using this) (fun k p x hp hx=>by
    rw[List.getElem?_map] at hp
    cases hpk:parts.toList[k]? with
    |none=>rw[hpk] at hp;simp at hp
    |some q=>
     rw[hpk] at hp;simp at hp;subst hp
     have hkl:k<os.length:=by
      have:=(bM.1 hpk).1;simp at this;omega
     have hok:os[k]?=some os[k]:=by simp[hkl]
     rw[List.getElem?_map,hok] at hx;simp only[Option.map_some,bQ] at hx;subst hx;exact h.opnd (hos k q os[k] (by simpa using hpk) hok)) hf
  have hb:P.built t (parts.map fun (i,x)=>(i,a.eval x)).toList=some cells:=by
   unfold Program.built;simp only[hi,hu,hz,hpl];rw[Array.toList_map];exact g1
  have run:(execOp a.eval o).run P X.w=.ok (.value (.agg cells)) X.w:=by
   simp only[execOp,ho,Sem.run_bind];rw[run_build X.w t _ cells hb];rfl
  exact bI (v:=.agd cs) h run (fun _ _=>⟨cells,rfl,g2.1,g2.2⟩) hK
end
open Go.RowKit
variable {P:Program}
inductive TrO (P:Program) (o:Oper):KO->List O->Prop
 |ldo (j:Nat) (ag:Bool) (t:TypeId) (ht:TyIs P t 1 false) (x:Operand) (ox:O) (hx:OT x ox) (ho:o.op=.load t x):TrO P o (.ldo j ag) [ox]
 |callo (f:FuncId) (gr:Bool) (xs:Array Operand) (ts:Array TypeId) (os:List O) (ho:o.op=.call { callee:=.value (.func f),args:=xs,argTypes:=ts })
   (hl:os.length=xs.size) (hos:∀(k:Nat) x oo,xs.toList[k]?=some x->os[k]?=some oo->OT x oo):TrO P o (.callo f gr) os
 |callr (f:FuncId) (xs:Array Operand) (ts:Array TypeId) (os:List O) (ho:o.op=.call { callee:=.value (.func f),args:=xs,argTypes:=ts })
   (hl:os.length=xs.size) (hos:∀(k:Nat) x oo,xs.toList[k]?=some x->os[k]?=some oo->OT x oo):TrO P o (.callr f) os
 |callvo (gr:Bool) (x:Operand) (ox:O) (hx:OT x ox) (xs:Array Operand) (ts:Array TypeId) (os:List O) (ho:o.op=.call { callee:=.value x,args:=xs,argTypes:=ts })
   (hl:os.length=xs.size) (hos:∀(k:Nat) x oo,xs.toList[k]?=some x->os[k]?=some oo->OT x oo):TrO P o (.callvo gr) (ox ::os)
 |bldo (t:TypeId) (parts:Array (Nat×Operand)) (os:List O) (zero:List PV) (offs:List (Nat×Nat)) (ho:o.op=.build t parts)
   (fields:Array Field) (hu:P.underlying t=some (.struct fields)) (it:TypeInfo) (z:Value) (hi:P.info? t=some it) (hz:it.zero=some z)
   (places:List (Nat×Nat)) (hpl:fields.toList.mapM (fun f=>(P.info? f.type).map fun i=>(f.offset,i.size))=some places)
   (hzs:z.cells.size=zero.length) (hzr:∀(i:Nat) c v,zero[i]?=some c->z.cells[i]?=some v->ZP c v)
   (hl:parts.size=offs.length) (hl2:os.length=parts.size)
   (hoff:∀(k:Nat) (p:Nat×Operand) (o:Nat×Nat),parts[k]?=some p->offs[k]?=some o->places[p.1]?=some o/\o.1+o.2<=zero.length)
   (hos:∀(k:Nat) (p:Nat×Operand) oo,parts[k]?=some p->os[k]?=some oo->OT p.2 oo):TrO P o (.bldo zero offs) os
 |eqp (neq:Bool) (t t':TypeId) (x y:Operand) (ox oy:O) (hx:OT x ox) (hy:OT y oy) (ho:o.op=.binOp (if neq then .neq else .eql) t x y t') (hu:P.underlying t=some (.pointer (P.pointee t))):TrO P o (.eqp neq) [ox,oy]
 |appd (size bytes:Nat) (ag:Bool) (x y:Operand) (ox oy:O) (t e:TypeId) (hx:OT x ox) (hy:OT y oy) (ho:o.op=.call { callee:=.builtin .append,args := #[x,y],argTypes := #[t,t] })
   (hu:P.underlying t=some (.slice e)) (i:TypeInfo) (z:Value) (hi:P.info? e=some i) (hz:i.zero=some z) (hsz:i.size=size) (hby:i.bytes=bytes) (hzs:z.cells.size=size) (hne:size≠0):TrO P o (.appd size bytes ag) [ox,oy]
 |bsld (size n:Nat) (ag:Bool) (t e:TypeId) (parts:Array (Nat×Operand)) (os:List O) (xs:List Operand) (ho:o.op=.buildSlice t n parts)
   (hu:P.underlying t=some (.slice e)) (i:TypeInfo) (z:Value) (hi:P.info? e=some i) (hz:i.zero=some z) (hsz:i.size=1) (hn:n<=16777216) (hnm:n<=maxLen)
   (hp:parts.toList=(xs.zipIdx 0).map fun x=>(x.2,x.1)) (hl:os.length=xs.length) (hos:∀(j:Nat) x oo,xs[j]?=some x->os[j]?=some oo->OT x oo):TrO P o (.bsld size n ag) os
 |slx (size:Nat) (isA:Bool) (t e:TypeId) (x m:Operand) (ox om:O) (hx:OT x ox) (hm:OT m om) (ho:o.op=.slice t x none (some m) none) (hu:P.underlying t=some (.slice e)) (hi':TyIs P e size isA):TrO P o (.slx size) [ox,om]
 |lookx (zero:PV) (ok:Bool) (t kt et:TypeId) (q:Option IntKind) (zv:Value) (i:TypeInfo) (x y:Operand) (ox oy:O) (hx:OT x ox) (hy:OT y oy) (ho:o.op=.lookup t x y ok) (hu:P.underlying t=some (.map kt et)) (hk:P.underlying kt=some (dN q))
   (hi:P.info? et=some i) (hz:i.zero=some zv) (hzr:ZV zero zv):TrO P o (.lookx q zero ok) [ox,oy]
 |mupx (t kt et:TypeId) (q:Option IntKind) (x y z:Operand) (ox oy oz:O) (hx:OT x ox) (hy:OT y oy) (hzz:OT z oz) (ho:o.op=.mapUpdate t x y z) (hd:o.dst=none) (hu:P.underlying t=some (.map kt et)) (hk:P.underlying kt=some (dN q)):TrO P o (.mupx q) [ox,oy,oz]
 |mdel (t kt et:TypeId) (q:Option IntKind) (x y:Operand) (ts:Array TypeId) (ox oy:O) (hx:OT x ox) (hy:OT y oy) (ho:o.op=.call { callee:=.builtin .delete,args := #[x,y],argTypes:=ts }) (hts:ts[0]?=some t) (hu:P.underlying t=some (.map kt et)) (hk:P.underlying kt=some (dN q)) :
   TrO P o (.mdel q) [ox,oy]
 |mpe (t kt et:TypeId) (q:Option IntKind) (x y:Operand) (ox oy:O) (hx:OT x ox) (hy:OT y oy) (ho:o.op=.mapEntry t x y) (hu:P.underlying t=some (.map kt et)) (hk:P.underlying kt=some (dN q)):TrO P o (.mpe q) [ox,oy]
 |lda (n:Nat) (t:TypeId) (ht:TyIs P t n true) (x:Operand) (ox:O) (hx:OT x ox) (ho:o.op=.load t x):TrO P o (.lda n) [ox]
 |ents (t:TypeId) (x y z:Operand) (ox oy oz:O) (hx:OT x ox) (hy:OT y oy) (hzz:OT z oz) (ho:o.op=.entryStore t x y z) (hd:o.dst=none):TrO P o .ents [ox,oy,oz]
 |mlen (t kt et:TypeId) (x:Operand) (ox:O) (hx:OT x ox) (ho:o.op=.call { callee:=.builtin .len,args := #[x],argTypes := #[t] }) (hu:P.underlying t=some (.map kt et)):TrO P o .mlen [ox]
theorem dJ{f:FuncId}{gr:Bool}{xs:List DV}{b:List (Option Box)}{K K':DV->List (Option Box)->Prop}(hk:∀v b,K v b->K' v b)(h:callO P f gr xs b K):callO P f gr xs b K':=by
 unfold callO at h ⊢
 split at h
 ·obtain⟨bs',r,h1,h2,h3⟩:=h;exact⟨bs',r,h1,h2,hk _ _ h3⟩
 ·exact h.elim
theorem HU{G:Gl}{X:Cx}{s:St}{a:Act}{Q:Exit->Act->World->Prop}{o:Oper}{K:St->Prop}(h:Rel G X s a){κ:KO}{xs:List O}(ht:TrO P o κ xs){g:Option (Nat×Bool)}(hf:fresh ⟨o.dst,g,.ob κ,xs⟩ s)
  (hK:bB P κ (xs.map (O.val s.t)) s.b fun v b=>K ⟨aH s.t o.dst v,b⟩):o.wp P a X.w (aZ G K) Q:=by
 cases ht with
 |ldo j ag t ht x ox hx ho=>exact s_ldo h ht hx ho hf hK
 |callo f gr xs ts os ho hl hos=>
  refine s_callo h ho hl hos (fun e=>?_) hK
  subst e;exact hf
 |callr f xs ts os ho hl hos=>
  refine s_callo (f:=f) (gr:=false) h ho hl hos (fun e=>by cases e) ?_
  have hK':callO P f false _ s.b fun v b'=>b'=s.b/\K ⟨aH s.t o.dst v,s.b⟩:=hK
  exact dJ (K':=fun v b=>K ⟨aH s.t o.dst v,b⟩) (fun v b' h=>by obtain⟨e,h⟩:=h;subst e;exact h) hK'
 |callvo gr x ox hx xs ts os ho hl hos=>
  refine s_callvo h hx ho hl hos (fun e=>?_) hK
  subst e;exact hf
 |bldo t parts os zero offs ho fields hu it z hi hz places hpl hzs hzr hl hl2 hoff hos=>exact s_bldo h ho hu hi hz hpl hzs hzr hl hl2 hoff hos hK
 |eqp neq t t' x y ox oy hx hy ho hu=>exact s_eqp h hx hy ho hu hK
 |appd size bytes ag x y ox oy t e hx hy ho hu i z hi hz hsz hby hzs hne=>exact s_appd h hx hy ho hu hi hz hsz hby hzs hne hf hK
 |bsld size n ag t e parts os xs ho hu i z hi hz hsz hn hnm hp hl hos=>exact s_bsld h ho hu hi hz hsz hn hnm hp hl hos hf hK
 |slx size isA t e x m ox om hx hm ho hu hi'=>exact s_slx h hx hm ho hu hi' hK
 |lookx zero ok t kt et q zv i x y ox oy hx hy ho hu hk hi hz hzr=>exact s_lookx h hx hy ho hu hk hi hz hzr hK
 |mupx t kt et q x y z ox oy oz hx hy hzz ho hd hu hk=>exact s_mupx h hx hy hzz ho hd hu hk hK
 |mdel t kt et q x y ts ox oy hx hy ho hts hu hk=>exact s_mdel h hx hy ho hts hu hk hK
 |mpe t kt et q x y ox oy hx hy ho hu hk=>exact s_mpe h hx hy ho hu hk hK
 |lda n t ht x ox hx ho=>exact s_lda h ht hx ho hK
 |ents t x y z ox oy oz hx hy hzz ho hd=>exact s_ents h hx hy hzz ho hd hK
 |mlen t kt et x ox hx ho hu=>exact s_mlen h hx ho hu hK
open Go.RowKit
variable {P:Program}
inductive Tr (P:Program) (o:Oper):Kd->List O->Prop
 |mov (take:Bool) (x:Operand) (ox:O) (hx:OT x ox) (ho:o.op=.move x\/o.op=.assign x):Tr P o (.mov take) [ox]
 |pick (c x y:Operand) (oc ox oy:O) (hc:OT c oc) (hx:OT x ox) (hy:OT y oy) (ho:o.op=.pick c x y):Tr P o .pick [oc,ox,oy]
 |box (k size:Nat) (t:TypeId) (x:Operand) (ox:O) (hx:OT x ox) (ho:o.op=.box t x) (hsne:size≠0):Tr P o (.box k size) [ox]
 |alloc (k size:Nat) (zero:List DV) (t:TypeId) (i:TypeInfo) (z:Value) (ho:o.op=.alloc t) (hi:P.info? t=some i) (hz:i.zero=some z) (hzr:VN zero z.cells) (hsne:size≠0):Tr P o (.alloc k size zero) []
 |build (t:TypeId) (parts:Array (Nat×Operand)) (os:List O) (zero:List PV) (offs:List (Nat×Nat)) (ho:o.op=.build t parts)
   (fields:Array Field) (hu:P.underlying t=some (.struct fields)) (it:TypeInfo) (z:Value) (hi:P.info? t=some it) (hz:it.zero=some z)
   (places:List (Nat×Nat)) (hpl:fields.toList.mapM (fun f=>(P.info? f.type).map fun i=>(f.offset,i.size))=some places)
   (hzs:z.cells.size=zero.length) (hzr:∀(i:Nat) c v,zero[i]?=some c->z.cells[i]?=some v->ZP c v)
   (hl:parts.size=offs.length) (hl2:os.length=parts.size)
   (hoff:∀(k:Nat) (p:Nat×Operand) (o:Nat×Nat),parts[k]?=some p->offs[k]?=some o->places[p.1]?=some o/\o.1+o.2<=zero.length)
   (hos:∀(k:Nat) (p:Nat×Operand) oo,parts[k]?=some p->os[k]?=some oo->OT p.2 oo):Tr P o (.build zero offs) os
 |bsl (size n:Nat) (t e:TypeId) (parts:Array (Nat×Operand)) (os:List O) (xs:List Operand) (ho:o.op=.buildSlice t n parts) (d:Nat) (hd:o.dst=some d)
   (hu:P.underlying t=some (.slice e)) (i:TypeInfo) (z:Value) (hi:P.info? e=some i) (hz:i.zero=some z) (hsz:i.size=size) (hpos:0<size) (hn:n*size<=16777216) (hnm:n<=maxLen)
   (hp:parts.toList=(xs.zipIdx 0).map fun x=>(x.2,x.1)) (hl:os.length=xs.length) (hos:∀(j:Nat) x oo,xs[j]?=some x->os[j]?=some oo->OT x oo):Tr P o (.bsl size n) os
 |load (n:Nat) (isA take:Bool) (t:TypeId) (ht:TyIs P t n isA) (x:Operand) (ox:O) (hx:OT x ox) (ho:o.op=.load t x):Tr P o (.load n isA take) [ox]
 |loadp (n:Nat) (isA:Bool) (t:TypeId) (ht:TyIs P t n isA) (x:Operand) (ox:O) (hx:OT x ox) (ho:o.op=.load t x):Tr P o (.loadp n isA) [ox]
 |store (n:Nat) (isA:Bool) (t:TypeId) (ht:TyIs P t n isA) (x y:Operand) (ox oy:O) (hx:OT x ox) (hy:OT y oy) (ho:o.op=.store t x y) (hdst:o.dst=none) (hne:∀m,oy=.t m->ox≠.t m):Tr P o (.store n) [ox,oy]
 |bin (op:BinOp) (t t':TypeId) (x y:Operand) (ox oy:O) (hx:OT x ox) (hy:OT y oy) (ho:o.op=.binOp op t x y t'):Tr P o (.bin op) [ox,oy]
 |eqnil (neq:Bool) (t t' e:TypeId) (x y:Operand) (ox oy:O) (hx:OT x ox) (hy:OT y oy) (ho:o.op=.binOp (if neq then .neq else .eql) t x y t') (hu:P.underlying t=some (.slice e)) (hc:∀n,oy≠.t n):Tr P o (.eqnil neq) [ox,oy]
 |un (op:UnOp) (t:TypeId) (x:Operand) (ox:O) (hx:OT x ox) (ho:o.op=.unOp op t x):Tr P o (.un op) [ox]
 |conv (k:IntKind) (src dst:TypeId) (x:Operand) (ox:O) (hx:OT x ox) (ho:o.op=.convert src dst x) (hs:∃d,P.underlying src=some d) (hd:P.underlying dst=some (.int k)):Tr P o (.conv k) [ox]
 |fad (off:Nat) (t:TypeId) (f:Nat) (x:Operand) (ox:O) (hx:OT x ox) (ho:o.op=.fieldAddr t x f) (fs:Array Field) (fd:Field) (i:TypeInfo) (hu:P.underlying t=some (.struct fs)) (hf:fs[f]?=some fd)
   (hi:P.info? fd.type=some i) (hz:i.size≠0) (hoff:fd.offset=off):Tr P o (.fad off) [ox]
 |fld (off n:Nat) (isA:Bool) (t:TypeId) (f:Nat) (x:Operand) (ox:O) (hx:OT x ox) (ho:o.op=.field t x f) (fs:Array Field) (fd:Field) (hu:P.underlying t=some (.struct fs)) (hf:fs[f]?=some fd)
   (hi:TyIs P fd.type n isA) (hoff:fd.offset=off):Tr P o (.fld off n isA) [ox]
 |iad (size:Nat) (isA:Bool) (t e:TypeId) (x ix:Operand) (ox oi:O) (hx:OT x ox) (hix:OT ix oi) (ho:o.op=.indexAddr t x ix) (hu:P.underlying t=some (.slice e)) (hi:TyIs P e size isA):Tr P o (.iad size) [ox,oi]
 |sidx (t:TypeId) (x ix:Operand) (ox oi:O) (hx:OT x ox) (hix:OT ix oi) (ho:o.op=.index t x ix) (hu:P.underlying t=some .string):Tr P o .sidx [ox,oi]
 |len (t e:TypeId) (x:Operand) (ox:O) (hx:OT x ox) (ho:o.op=.call { callee:=.builtin .len,args := #[x],argTypes := #[t] }) (hu:P.underlying t=some (.slice e)):Tr P o .len [ox]
 |lenD (t e:TypeId) (x:Operand) (ox:O) (hx:OT x ox) (ho:o.op=.call { callee:=.builtin .len,args := #[x],argTypes := #[t] }) (hu:P.underlying t=some (.slice e)):Tr P o .lenD [ox]
 |slen (t:TypeId) (x:Operand) (ox:O) (hx:OT x ox) (ho:o.op=.call { callee:=.builtin .len,args := #[x],argTypes := #[t] }) (hu:P.underlying t=some .string):Tr P o .slen [ox]
 |minmax (mx:Bool) (t:TypeId) (x y:Operand) (ox oy:O) (hx:OT x ox) (hy:OT y oy) (ho:o.op=.call { callee:=.builtin (if mx then .max else .min),args := #[x,y],argTypes := #[t,t] }):Tr P o (if mx then .mx else .mn) [ox,oy]
 |app (size bytes:Nat) (x y:Operand) (ox oy:O) (t e:TypeId) (hx:OT x ox) (hy:OT y oy) (ho:o.op=.call { callee:=.builtin .append,args := #[x,y],argTypes := #[t,t] })
   (d:Nat) (hd:o.dst=some d) (hu:P.underlying t=some (.slice e)) (i:TypeInfo) (z:Value) (hi:P.info? e=some i) (hz:i.zero=some z) (hsz:i.size=size) (hby:i.bytes=bytes) (hzs:z.cells.size=size):Tr P o (.app size bytes) [ox,oy]
 |ext (j:Nat) (x:Operand) (ox:O) (hx:OT x ox) (ho:o.op=.extract x j):Tr P o (.ext j) [ox]
 |extp (j:Nat) (x:Operand) (ox:O) (hx:OT x ox) (ho:o.op=.extract x j):Tr P o (.extp j) [ox]
 |call (f:FuncId) (xs:Array Operand) (ts:Array TypeId) (os:List O) (ho:o.op=.call { callee:=.value (.func f),args:=xs,argTypes:=ts })
   (hl:os.length=xs.size) (hos:∀(k:Nat) x oo,xs.toList[k]?=some x->os[k]?=some oo->OT x oo):Tr P o (.call f) os
 |callv (x:Operand) (ox:O) (hx:OT x ox) (xs:Array Operand) (ts:Array TypeId) (os:List O) (ho:o.op=.call { callee:=.value x,args:=xs,argTypes:=ts })
   (hl:os.length=xs.size) (hos:∀(k:Nat) x oo,xs.toList[k]?=some x->os[k]?=some oo->OT x oo):Tr P o .callv (ox ::os)
 |mkfn (f:FuncId) (caps:Array Operand) (os:List O) (ho:o.op=.makeFunc (.func f) #[] caps) (hl:os.length=caps.size)
   (hos:∀(k:Nat) x oo,caps.toList[k]?=some x->os[k]?=some oo->OT x oo):Tr P o (.mkfn f) os
 |mksl (k size bytes:Nat) (ag:Bool) (zero:List DV) (t e:TypeId) (x y:Operand) (ox oy:O) (hx:OT x ox) (hy:OT y oy) (ho:o.op=.makeSlice t x y)
   (hu:P.underlying t=some (.slice e)) (i:TypeInfo) (z:Value) (hi:P.info? e=some i) (hz:i.zero=some z) (hsz:i.size=size) (hby:i.bytes=bytes) (hzr:VN zero z.cells) (hsne:size≠0):Tr P o (.mksl k size bytes ag zero) [ox,oy]
 |slc (size:Nat) (isA:Bool) (t e:TypeId) (x:Operand) (ox:O) (lo hi:Option Operand) (ys:List O) (hx:OT x ox) (ho:o.op=.slice t x lo hi none) (hu:P.underlying t=some (.slice e)) (hi':TyIs P e size isA)
   (hys:match lo,hi,ys with|some l,some m,[ol,om]=>OT l ol/\OT m om|some l,none,[ol]=>OT l ol|none,some m,[om]=>OT m om|_,_,_=>False):Tr P o (.slc size lo.isSome hi.isSome) (ox ::ys)
 |nilchk (x:Operand) (ox:O) (hx:OT x ox) (ho:o.op=.nilCheck x):Tr P o .nilchk [ox]
 |ssl (t:TypeId) (x:Operand) (ox:O) (lo hi:Option Operand) (ys:List O) (hx:OT x ox) (ho:o.op=.slice t x lo hi none) (hu:P.underlying t=some .string)
   (hys:match lo,hi,ys with|some l,some m,[ol,om]=>OT l ol/\OT m om|some l,none,[ol]=>OT l ol|none,some m,[om]=>OT m om|_,_,_=>False):Tr P o (.ssl lo.isSome hi.isSome) (ox ::ys)
 |slb (k size:Nat) (isA:Bool) (t e:TypeId) (x m:Operand) (ox om:O) (hx:OT x ox) (hm:OT m om) (ho:o.op=.slice t x none (some m) none) (hu:P.underlying t=some (.slice e)) (hi':TyIs P e size isA):Tr P o (.slb k size) [ox,om]
 |stk (os:List O):Tr P o .stk os
 |mkmap (k:Nat) (t:TypeId) (ho:o.op=.makeMap t none):Tr P o (.mkmap k) []
 |look (zero:PV) (t kt et:TypeId) (q:IntKind) (zv:Value) (i:TypeInfo) (x y:Operand) (ox oy:O) (hx:OT x ox) (hy:OT y oy) (ho:o.op=.lookup t x y false) (hu:P.underlying t=some (.map kt et)) (hk:P.underlying kt=some (.int q))
   (hi:P.info? et=some i) (hz:i.zero=some zv) (hzr:ZP zero zv):Tr P o (.look q zero) [ox,oy]
 |mupd (t kt et:TypeId) (q:IntKind) (x y z:Operand) (ox oy oz:O) (hx:OT x ox) (hy:OT y oy) (hzz:OT z oz) (ho:o.op=.mapUpdate t x y z) (hd:o.dst=none) (hu:P.underlying t=some (.map kt et)) (hk:P.underlying kt=some (.int q)):Tr P o (.mupd q) [ox,oy,oz]
 |eqat (t t':TypeId) (ms:Array (String×TypeId)) (x:Operand) (ox oy:O) (hx:OT x ox) (ho:o.op=.binOp .neq t x (.const .nilIface) t') (hu:P.underlying t=some (.interface ms)):Tr P o (.eqat true) [ox,oy]
 |eqs (n:Nat) (neq:Bool) (t t':TypeId) (x y:Operand) (ox oy:O) (hx:OT x ox) (hy:OT y oy) (ho:o.op=.binOp (if neq then .neq else .eql) t x y t')
   (hu:P.underlying t=some (.struct (P.fieldsOf t))) (hst:P.stoodInHeld t=false) (hg:P.eqGuardType P.depth t=false) (hn:(P.fieldsOf t).toList.length=n)
   (hf:∀(i:Nat) f,(P.fieldsOf t).toList[i]?=some f->f.name ≠ "_" /\ f.offset=i/\(∃k,P.underlying f.type=some (.int k))/\TyIs P f.type 1 false):Tr P o (.eqs n neq) [ox,oy]
 |eqb (neq:Bool) (t t':TypeId) (x y:Operand) (ox oy:O) (hx:OT x ox) (hy:OT y oy) (ho:o.op=.binOp (if neq then .neq else .eql) t x y t') (hu:P.underlying t=some .bool):Tr P o (.eqb neq) [ox,oy]
 |mkz (size bytes:Nat) (row:PV) (t e:TypeId) (x y:Operand) (ox oy:O) (hx:OT x ox) (hy:OT y oy) (ho:o.op=.makeSlice t x y) (d:Nat) (hd:o.dst=some d)
   (hu:P.underlying t=some (.slice e)) (i:TypeInfo) (z:Value) (hi:P.info? e=some i) (hz:i.zero=some z) (hsz:i.size=size) (hby:i.bytes=bytes) (hzs:z.cells.size=(aE row).length)
   (hzr:∀(i:Nat) c v,(aE row)[i]?=some c->z.cells[i]?=some v->ZP c v) (hpos:0<size):Tr P o (.mkz size bytes row) [ox,oy]
 |s2b (src dst e:TypeId) (x:Operand) (ox:O) (hx:OT x ox) (ho:o.op=.convert src dst x) (hs:P.underlying src=some .string) (hd:P.underlying dst=some (.slice e)) (he:P.underlying e=some (.int .u8)):Tr P o .s2b [ox]
 |callm (f:FuncId) (k:Nat) (xs:Array Operand) (ts:Array TypeId) (os:List O) (ho:o.op=.call { callee:=.value (.func f),args:=xs,argTypes:=ts })
   (hl:os.length=xs.size) (hos:∀(k:Nat) x oo,xs.toList[k]?=some x->os[k]?=some oo->OT x oo):Tr P o (.callm f k) os
 |ob (κ:KO) (xs:List O) (h:TrO P o κ xs):Tr P o (.ob κ) xs
section
variable {G:Gl} {X:Cx} {s:St} {a:Act} {Q:Exit->Act->World->Prop} {o:Oper} {K:St->Prop}
theorem Flat.nilb{M:Nat->Nat->Prop}{w:World}{size:Nat}{nl:Bool}{rows:List PV}{v:Value}(h:Flat M w (.sl size nl rows) v):∃b n c,v=.slice b n c/\b.isNone=nl:=by
 cases h with
 |nilsl=>exact⟨none,0,0,rfl,rfl⟩
 |sl0=>exact⟨_,_,_,rfl,rfl⟩
 |sl _ _ b off cap=>exact⟨_,_,_,rfl,rfl⟩
theorem s_bin(h:Rel G X s a){op:BinOp}{t t':TypeId}{x y:Operand}{ox oy:O}(hx:OT x ox)(hy:OT y oy)(ho:o.op=.binOp op t x y t')
  (hK:aD P (.bin op) [ox.val s.t,oy.val s.t] s.b fun v b=>K ⟨aH s.t o.dst v,b⟩):o.wp P a X.w (aZ G K) Q:=by
 obtain⟨_,rx⟩:=h.opnd hx;obtain⟨_,ry⟩:=h.opnd hy;generalize ox.val s.t=vx at *;generalize oy.val s.t=vy at *
 cases vx with
 |p z=>
  cases vy with
  |p y'=>simp only[aD] at hK;exact G0 h op t t' x y ho rx ry hK
  |_=>simp[aD] at hK
 |_=>simp[aD] at hK
theorem s_eqnil(h:Rel G X s a){neq:Bool}{t t' e:TypeId}{x y:Operand}{ox oy:O}(hx:OT x ox)(hy:OT y oy)(ho:o.op=.binOp (if neq then .neq else .eql) t x y t')(hu:P.underlying t=some (.slice e))(hc:∀n,oy≠.t n)
  (hK:aD P (.eqnil neq) [ox.val s.t,oy.val s.t] s.b fun v b=>K ⟨aH s.t o.dst v,b⟩):o.wp P a X.w (aZ G K) Q:=by
 obtain⟨_,rx⟩:=h.opnd hx;generalize ox.val s.t=vx at *
 obtain⟨sz,ey⟩:∃sz,oy=.c (.ow sz true []):=by
  cases oy with
  |t n=>exact absurd rfl (hc n)
  |c d=>
   simp only[O.val] at hK
   cases d with
   |ow sz nl rows=>
    cases nl with
    |true=>cases rows with
     |nil=>exact⟨sz,rfl⟩
     |cons _ _=>cases vx<;>simp[aD] at hK
    |false=>cases vx<;>simp[aD] at hK
   |_=>cases vx<;>simp[aD] at hK
 subst ey;have hyv:a.eval y=.slice none 0 0:=by cases hy;rfl
 simp only[O.val] at hK
 have fin:∀sz' nl rows,Flat X.M X.w (.sl sz' nl rows) (a.eval x)->K ⟨aH s.t o.dst (.p (.bool (if neq then !nl else nl))),s.b⟩->o.wp P a X.w (aZ G K) Q:=by
  intro sz' nl rows hf hKK;obtain⟨b,n,c,ev,eb⟩:=hf.nilb;subst eb;refine bC (z:=.bool _) h ?_ (.bool _) hKK
  cases neq with
  |true=>
   have:=run_neq_slice_nil_any (P:=P) X.w t e b n c 0 0 hu;simp[execOp,ho,ev,hyv,eqGuard,this]
  |false=>
   have:=Lib.run_eql_slice_nil (P:=P) X.w t e b n c 0 0 hu;simp[execOp,ho,ev,hyv,eqGuard,this]
 cases vx with
 |p z=>
  cases z with
  |sl sz' nl rows=>simp only[aD] at hK;exact fin sz' nl rows rx hK
  |_=>simp[aD] at hK
 |ow sz' nl rows=>simp only[aD] at hK;exact fin sz' nl rows (OwRel.flat rx) hK
 |_=>simp[aD] at hK
theorem s_loadAny(h:Rel G X s a){t:TypeId}{n:Nat}{isA take:Bool}(ht:TyIs P t n isA){x:Operand}{ox:O}(hx:OT x ox)(ho:o.op=.load t x)
  (hK:aD P (.load n isA take) [ox.val s.t] s.b fun v b=>K ⟨aH s.t o.dst v,b⟩):o.wp P a X.w (aZ G K) Q:=by
 generalize e:ox.val s.t=vx at *
 cases vx with
 |addr k sz r off=>exact s_loadB h ht hx ho e (by rw[e];exact hK)
 |p z=>
  cases z with
  |ptr cells off=>exact s_loadP h ht hx ho e (by rw[e];exact hK)
  |_=>simp[aD] at hK
 |_=>simp[aD] at hK
theorem s_loadp(h:Rel G X s a){t:TypeId}{n:Nat}{isA:Bool}(ht:TyIs P t n isA){x:Operand}{ox:O}(hx:OT x ox)(ho:o.op=.load t x)
  (hK:aD P (.loadp n isA) [ox.val s.t] s.b fun v b=>K ⟨aH s.t o.dst v,b⟩):o.wp P a X.w (aZ G K) Q:=by
 generalize e:ox.val s.t=vx at *
 cases vx with
 |p z=>
  cases z with
  |ptr cells off=>exact s_loadP (take:=false) h ht hx ho e (by rw[e];exact hK)
  |_=>simp[aD] at hK
 |_=>simp[aD] at hK
theorem s_lenD(h:Rel G X s a){t e:TypeId}{x:Operand}{ox:O}(hx:OT x ox)(ho:o.op=.call { callee:=.builtin .len,args := #[x],argTypes := #[t] })(hu:P.underlying t=some (.slice e))
  (hK:aD P .lenD [ox.val s.t] s.b fun v b=>K ⟨aH s.t o.dst v,b⟩):o.wp P a X.w (aZ G K) Q:=by
 refine s_len h hx ho hu ?_;simp only[aD] at hK ⊢
 cases hs:fP (ox.val s.t) with
 |none=>rw[hs] at hK;exact hK
 |some n=>rw[hs] at hK;exact fun _=>hK
theorem s_extp(h:Rel G X s a){j:Nat}{x:Operand}{ox:O}(hx:OT x ox)(ho:o.op=.extract x j)
  (hK:aD P (.extp j) [ox.val s.t] s.b fun v b=>K ⟨aH s.t o.dst v,b⟩):o.wp P a X.w (aZ G K) Q:=by
 obtain⟨L,hv⟩:=h.opnd hx;generalize ox.val s.t=dv at *
 cases dv with
 |tup ds=>
  simp only[aD] at hK
  cases hj:ds[j]? with
  |none=>simp[hj] at hK
  |some d=>
   simp only[hj] at hK;obtain⟨vs,ev,hl,hh⟩:=hv;have hlt:j<vs.size:=by rw[hl];exact(bM.1 hj).1
   have hu:vs[j]?=some vs[j]:=by simp[hlt]
   have hr:=hh j d _ hj hu;have run:(execOp a.eval o).run P X.w=.ok (.value vs[j]) X.w:=by simp[execOp,ho,ev,Instr.extract,hlt]
   cases d with
   |p x=>exact bC (z:=x) h run hr hK
   |ow size n rows=>exact bC (z:=.sl size n rows) h run (OwRel.flat hr) hK
 |_=>simp[aD] at hK
def Kd.base:Kd->Bool
 | .at _ _ | .pl _=>false
 |_=>true
theorem Tr.base{κ:Kd}{xs:List O}(ht:Tr P o κ xs) : κ.base=true:=by cases ht<;>first|rfl|(rename_i mx _ _ _ _ _ _ _ _;cases mx<;>rfl)
theorem qF{κ:Kd}(h : κ.base=true){vs:List DV}{b:List (Option Box)}{K:DV->List (Option Box)->Prop}:cJ P κ vs b K=aD P κ vs b K:=by cases κ<;>first|rfl|cases h
theorem mA{κ:Kd}(h : κ.base=true) : κ.core = κ:=by cases κ<;>first|rfl|cases h
theorem zM(h:Rel G X s a){κ:Kd}{xs:List O}(ht:Tr P o κ xs){g:Option (Nat×Bool)}(hK:mX P ⟨o.dst,g, κ,xs⟩ s K):o.wp P a X.w (aZ G K) Q:=by
 obtain⟨hf,hK⟩:=hK;simp only[qF ht.base,mA ht.base] at hK
 cases ht with
 |mov take x ox hx ho=>exact s_mov h hx ho hK
 |pick c x y oc ox oy hc hx hy ho=>exact s_pick h hc hx hy ho hK
 |box k size t x ox hx ho hsne=>exact s_box h hx ho hsne hf hK
 |alloc k size zero t i z ho hi hz hzr hsne=>exact s_alloc h ho hi hz hzr hsne hf hK
 |build t parts os zero offs ho fields hu it z hi hz places hpl hzs hzr hl hl2 hoff hos=>exact s_build h ho hu hi hz hpl hzs hzr hl hl2 hoff hos hK
 |bsl size n t e parts os xs ho d hd hu i z hi hz hsz hpos hn hnm hp hl hos=>exact s_bsl h ho hd hu hi hz hsz hpos hn hnm hp hl hos hK
 |load n isA take t ht x ox hx ho=>exact s_loadAny h ht hx ho hK
 |loadp n isA t ht x ox hx ho=>exact s_loadp h ht hx ho hK
 |store n isA t ht x y ox oy hx hy ho hdst hne=>exact s_store h ht hx hy ho hdst hne hK
 |bin op t t' x y ox oy hx hy ho=>exact s_bin h hx hy ho hK
 |eqnil neq t t' e x y ox oy hx hy ho hu hc=>exact s_eqnil h hx hy ho hu hc hK
 |un op t x ox hx ho=>exact s_un h hx ho hK
 |conv k src dst x ox hx ho hs hd=>exact s_conv h hx ho hs hd hK
 |fad off t f x ox hx ho fs fd i hu hf' hi hz hoff=>exact s_fad h hx ho hu hf' hi hz hoff hK
 |fld off n isA t f x ox hx ho fs fd hu hf' hi hoff=>exact s_fld h hx ho hu hf' hi hoff hK
 |iad size isA t e x ix ox oi hx hix ho hu hi=>exact s_iad h hx hix ho hu hi hK
 |sidx t x ix ox oi hx hix ho hu=>exact s_sidx h hx hix ho hu hK
 |len t e x ox hx ho hu=>exact s_len h hx ho hu hK
 |lenD t e x ox hx ho hu=>exact s_lenD h hx ho hu hK
 |slen t x ox hx ho hu=>exact s_slen h hx ho hu hK
 |minmax mx t x y ox oy hx hy ho=>refine s_minmax h hx hy ho ?_;cases mx<;>exact hK
 |app size bytes x y ox oy t e hx hy ho d hd hu i z hi hz hsz hby hzs=>exact s_app h hx hy ho hd hu hi hz hsz hby hzs hK
 |ext j x ox hx ho=>exact s_ext h hx ho hK
 |extp j x ox hx ho=>exact s_extp h hx ho hK
 |call f xs ts os ho hl hos=>exact s_call h ho hl hos hK
 |callv x ox hx xs ts os ho hl hos=>exact s_callv h hx ho hl hos hK
 |mkfn f caps os ho hl hos=>exact s_mkfn h ho hl hos hK
 |mksl k size bytes ag zero t e x y ox oy hx hy ho hu i z hi hz hsz hby hzr hsne=>exact s_mksl h hx hy ho hu hi hz hsz hby hzr hsne hf hK
 |slc size isA t e x ox lo hi ys hx ho hu hi' hys=>exact s_slc h hx ho hu hi' hys hK
 |nilchk x ox hx ho=>exact s_nilchk h hx ho hK
 |ssl t x ox lo hi ys hx ho hu hys=>exact s_ssl h hx ho hu hys hK
 |slb k size isA t e x m ox om hx hm ho hu hi'=>exact s_slb h hx hm ho hu hi' hK
 |callm f k xs ts os ho hl hos=>exact s_callm h ho hl hos hK
 |stk os=>simp[aD] at hK
 |ob κ xs h'=>exact HU h h' hf hK
 |mkmap k t ho=>exact s_mkmap h ho hf hK
 |look zero t kt et q zv i x y ox oy hx hy ho hu hk hi hz hzr=>exact s_look h hx hy ho hu hk hi hz hzr hK
 |mupd t kt et q x y z ox oy oz hx hy hzz ho hd hu hk=>exact s_mupd h hx hy hzz ho hd hu hk hK
 |eqat t t' ms x ox oy hx ho hu=>exact s_eqat h hx ho hu hK
 |eqs n neq t t' x y ox oy hx hy ho hu hst hg hn hfl=>exact s_eqs h hx hy ho hu hst hg hn hfl hK
 |eqb neq t t' x y ox oy hx hy ho hu=>exact s_eqb h hx hy ho hu hK
 |mkz size bytes row t e x y ox oy hx hy ho d hd hu i z hi hz hsz hby hzs hzr hpos=>exact s_mkz h hx hy ho hd hu hi hz hsz hby hzs hzr hpos hK
 |s2b src dst e x ox hx ho hs hd he=>exact s_s2b h hx ho hs hd he hK
end
inductive TrJ (P:Program) (o:Oper):Kd->List O->Prop
 |base (κ:Kd) (xs:List O) (h:Tr P o κ xs):TrJ P o κ xs
 | «at» (k:Nat) (κ:Kd) (xs:List O) (h:Tr P o κ xs) (hn:fF κ=none) (hg:oK κ=false):TrJ P o (.at k κ) xs
 |pl (κ:Kd) (xs:List O) (h:Tr P o κ xs) (hn:fF κ=none) (hg:oK κ=false):TrJ P o (.pl κ) xs
theorem AD{G:Gl}{X:Cx}{s:St}{a:Act}{Q:Exit->Act->World->Prop}{o:Oper}{K:St->Prop}(h:Rel G X s a){κ:Kd}{xs:List O}(ht:TrJ P o κ xs){g:Option (Nat×Bool)}(hK:mX P ⟨o.dst,g, κ,xs⟩ s K) :
  o.wp P a X.w (aZ G K) Q:=by
 cases ht with
 |base _ _ h'=>exact zM h h' hK
 | «at» k κ _ h' hn hg=>
  obtain⟨_,hK⟩:=hK;refine zM h h' (g:=g) ⟨by unfold fresh;simp only;rw[hn,hg];trivial,?_⟩
  simp only[qF h'.base,mA h'.base];simp only[cJ,Kd.core] at hK
  split at hK
  ·exact hK.2
  ·exact hK.elim
 |pl κ _ h' hn hg=>
  obtain⟨_,hK⟩:=hK;refine zM h h' (g:=g) ⟨by unfold fresh;simp only;rw[hn,hg];trivial,?_⟩
  simp only[qF h'.base,mA h'.base];exact hK.2
structure TrI (P:Program) (ops:Array Oper) (o:Oper) (i:Ins):Prop where
 d:i.d=o.dst
 tr:TrJ P o i.k i.xs
 g:match o.guard,i.g with
  |none,none=>True
  |some (j,want),some (t,want')=>want=want'/\(ops[j]?).bind (·.dst)=some t
  |_,_=>False
theorem zC{o:Oper}{a:Act}{w:World}{N N':Act->World->Prop}{Q:Exit->Act->World->Prop}(h:o.wp P a w N Q)(hn:∀a w,N a w->N' a w):o.wp P a w N' Q:=by
 unfold Oper.wp Oper.upon at *
 split at h
 ·exact hn _ _ h
 ·exact hn _ _ h
 ·exact hn _ _ h
 ·refine h.mono fun e w' he=>?_
  cases e with
  |returned v=>exact hn _ _ he
  |panicked c=>exact he
  |outgrown=>exact he
 ·exact h.mono fun v w' he=>hn _ _ he
 ·exact h
 ·exact h.elim
theorem tY{ops:Array Oper}{tmps:Array Value}{j t:Nat}{b:Bool}(h:(ops[j]?).bind (·.dst)=some t)(hlt:t<tmps.size)(hb:tmps.getD t undef=.bool b):yielded ops tmps j=some b:=by
 unfold yielded;rw[h]
 have e:tmps[t]?=some (.bool b):=by
  rw[<-hb];simp[Array.getD,hlt]
 simp[e]
theorem qV{ops:Array Oper}{tmps:Array Value}{j t:Nat}{X:Cx}{base:Nat}{L:Loc}(h:(ops[j]?).bind (·.dst)=some t)(hv:VRel X base L (.tup []) (tmps.getD t undef)):yielded ops tmps j=none:=by
 obtain⟨vs,h1,_⟩:=hv;unfold yielded;rw[h]
 cases ht:tmps[t]? with
 |none=>simp[ht]
 |some u=>
  have:tmps.getD t undef=u:=by
   have:=(Array.getElem?_eq_some_iff.1 ht);obtain⟨h2,h3⟩:=this;simp[Array.getD,h2,h3]
  rw[this] at h1;subst h1;simp[ht]
theorem lU{X:Cx}{base:Nat}{L:Loc}:VRel X base L (.tup []) undef:=⟨#[],rfl,rfl,fun j d u hd=>by simp at hd⟩
theorem HH{G:Gl}{ops:Array Oper}{Q:Exit->Act->World->Prop}{K:St->Prop}:∀(l:List Nat) (is:List Ins),l.length=is.length ->
  (∀(k:Nat) i,is[k]?=some i->∃o,(l[k]?).bind (ops[·]?)=some o/\TrI P ops o i) ->
  (∀s X a,Rel G X s a->K s->Q .normal a X.w) ->
  ∀{s:St} {X:Cx} {a:Act},Rel G X s a->bV P is s K->wpOps P ops Q l a X.w
 |[],[],_,_,hQ,s,X,a,h,hK=>by simp only[wpOps];exact hQ s X a h hK
 |[],_ ::_,hl,_,_,_,_,_,_,_=>by simp at hl
 |_ ::_,[],hl,_,_,_,_,_,_,_=>by simp at hl
 |q ::l,i ::is,hl,htr,hQ,s,X,a,h,hK=>by
  obtain⟨o,ho,ti⟩:=htr 0 i rfl;have ho':ops[q]?=some o:=by simpa using ho
  have ih:∀{s:St} {X:Cx} {a:Act},Rel G X s a->bV P is s K->wpOps P ops Q l a X.w :=
   HH l is (by simpa using hl) (fun k i hi=>htr (k+1) i (by simpa using hi)) hQ
  simp only[wpOps,ho'];obtain⟨id,ig,ik,ixs⟩:=i;have hd:=ti.d;have htr':=ti.tr;have hg:=ti.g;simp only at hd htr' hg;subst hd;simp only[bV,b7] at hK
  have go:∀{s:St},Rel G X s a->mX P ⟨o.dst,ig,ik,ixs⟩ s (fun s'=>bV P is s' K)->o.wp P a X.w (wpOps P ops Q l) Q:=by
   intro s h hK;refine zC (AD h htr' hK) fun a' w' ⟨s',X',h',e',k'⟩=>?_
   subst e';exact ih h' k'
  cases hog:o.guard with
  |none=>
   rw[hog] at hg
   cases ig with
   |some _=>exact hg.elim
   |none=>
    have hw:Region.wanted o (yielded ops a.tmps)=true:=by simp[Region.wanted,hog]
    rw[if_pos hw];exact .inl (go h hK)
  |some jw=>
   obtain⟨j,want⟩:=jw;rw[hog] at hg
   cases ig with
   |none=>exact hg.elim
   |some tw=>
    obtain⟨t,want'⟩:=tw;obtain⟨rfl,hj⟩:=hg;simp only at hK;have hv:=h.get t;generalize hgt:aT s.t t=dv at *
    cases dv with
    |p z=>
     cases z with
     |bool c=>
      simp only at hK
      have hlt:t<a.tmps.size:=by
       rw[h.size];rcases Nat.lt_or_ge t s.t.length with h0|h0
       ·exact h0
       ·rw[cL,List.getElem?_eq_none h0] at hgt;cases hgt
      have hb:=Flat.boolv hv;have hy:yielded ops a.tmps j=some c:=tY hj hlt hb;have hweak:Rel G X ⟨aF s.t t (.p (.bool c)),s.b⟩ a:=h.weak t _ hv
      by_cases hcw:c=want
      ·subst hcw
       rw[if_pos (by simp[Region.wanted,hog,hy])]
       exact .inl (go hweak (hK.1 rfl))
      ·rw[if_neg (by simp[Region.wanted,hog,hy,hcw])]
       have e:c = !want:=by cases c<;>cases want<;>simp at hcw ⊢
       have hKK:=hK.2 e;rw[e] at hweak;exact ih (hweak.put (d:=o.dst) (v:=.tup []) (fun _ _=>lU)) hKK
     |_=>exact hK.elim
    |tup ds=>
     cases ds with
     |nil=>
      have hy:=qV (ops:=ops) hj hv;rw[if_neg (by simp[Region.wanted,hog,hy])]
      exact ih (h.put (d:=o.dst) (v:=.tup []) (fun _ _=>lU)) hK
     |cons _ _=>exact hK.elim
    |_=>exact hK.elim
theorem zZ{G:Gl}{id:Nat}{ops:Array Oper}{is:List Ins}{Q:Exit->Act->World->Prop}{K:St->Prop}(hl:ops.size=is.length)
  (htr:∀(k:Nat) i,is[k]?=some i->∃o,ops[k]?=some o/\TrI P ops o i) (hQ:∀s X a,Rel G X s a->K s->Q .normal a X.w) {s:St} {X:Cx} {a:Act} (h:Rel G X s a) (hK:bV P is s K) :
  (Code.region id ops false).wp P Q a X.w:=by
 refine wp_region (HH (List.range ops.size) is (by simpa using hl) (fun k i hi=>?_) hQ h hK)
 obtain⟨o,ho,ti⟩:=htr k i hi;have hk:=(bM.1 hi).1;exact⟨o,by simp[show k<ops.size by omega];simpa [show k<ops.size by omega] using ho,ti⟩
end Go.Proofs.YtnjphclbpgajpaaGreatDoor.Vc
