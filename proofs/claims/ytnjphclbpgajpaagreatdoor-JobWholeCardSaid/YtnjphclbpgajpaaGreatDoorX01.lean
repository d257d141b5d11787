/- Part of a proof over a Go program: VcBase, En, VcState, VcSem, VcPure, VcPure2, VcMove, VcAlloc, VcLoad, VcStore. No condition. -/
import Derived.WalkKit
import Derived.WalkLawsBesides
import Derived.Below
import Derived.ProofKit
set_option linter.unnecessarySimpa false
set_option linter.unusedSectionVars false
set_option linter.unusedSimpArgs false
set_option linter.unusedVariables false
namespace Go.Proofs.YtnjphclbpgajpaaGreatDoor
theorem bM{α:Type _}{l:List α}{i:Nat}{a:α}:l[i]?=some a↔∃h:i<l.length,l[i]=a:=List.getElem?_eq_some_iff
theorem bQ{α:Type _}(a b:α):(some a=some b)=(a=b):=Option.some.injEq a b
theorem aY(a b:Bool):((a&&b)=true)=(a=true∧b=true):=Bool.and_eq_true a b
theorem cD{α:Type _}{l:List α}{i:Nat}{a:α}(e:l[i]?=some a):a∈l:=List.mem_of_getElem? e
end Go.Proofs.YtnjphclbpgajpaaGreatDoor
namespace Go.Proofs.YtnjphclbpgajpaaGreatDoor.Vc
open Go.RowKit
inductive PV where
 |int (k:IntKind) (n:Int)
 |bool (b:Bool)
 |str (s:ByteArray)
 |atom (v:Value)
 |agg (cs:List PV)
 |sl (size:Nat) (isNil:Bool) (rows:List PV)
 |fn (f:FuncId) (caps:List PV)
 |ptr (cells:List PV) (off:Nat)
instance:Inhabited PV:=⟨.bool false⟩
inductive Ob where
 |p (x:PV)
 |ptr (cells:List Ob)
 |sl (size:Nat) (isNil:Bool) (rows:List (List Ob))
 |mp (keys:List PV) (vals:List Ob)
 |ch (cap:Nat) (items:List PV)
instance:Inhabited Ob:=⟨.p default⟩
def aE:PV->List PV
 | .agg cs=>cs
 |x=>[x]
def cO:PV->Value
 | .int q n=>.int q n
 | .str s=>.string s
 |_=>undef
def PV.one:PV->Bool
 | .agg _=>false
 |_=>true
inductive Flat (M:Nat->Nat->Prop) (w:World):PV->Value->Prop
 |int (k:IntKind) (n:Int):Flat M w (.int k n) (.int k n)
 |bool (b:Bool):Flat M w (.bool b) (.bool b)
 |str (s:ByteArray):Flat M w (.str s) (.string s)
 |atom (v:Value) (h:v.oneCell'=true):Flat M w (.atom v) v
 |agg (cs:List PV) (vs:Array Value) (hl:vs.size=cs.length) (h1:∀c,c∈cs->c.one=true)
   (h:∀(i:Nat) c v,cs[i]?=some c->vs[i]?=some v->Flat M w c v):Flat M w (.agg cs) (.agg vs)
 |nilsl (size:Nat):Flat M w (.sl size true []) (.slice none 0 0)
 |sl (size:Nat) (rows:List PV) (b off cap:Nat) (cv:Nat->Value) (hcap:rows.length<=cap) (hmax:cap<=maxLen)
   (hc:∀j,j<rows.length*size->w.cell? ⟨b,off+j,none⟩=some (cv j)/\¬M b (off+j))
   (hs:∀row,row∈rows->(aE row).length=size)
   (h1:∀row,row∈rows->∀c,c∈aE row->c.one=true)
   (hr:∀(i j:Nat) row c,rows[i]?=some row->(aE row)[j]?=some c->Flat M w c (cv (i*size+j))) :
   Flat M w (.sl size false rows) (.slice (some ⟨b,off,none⟩) rows.length cap)
 |sl0 (size:Nat) (a:Addr):Flat M w (.sl size false []) (.slice (some a) 0 0)
 |fn (f:FuncId) (caps:List PV) (vs:Array Value) (hl:vs.size=caps.length)
   (h:∀(i:Nat) c v,caps[i]?=some c->vs[i]?=some v->Flat M w c v):Flat M w (.fn f caps) (.func (.func f) #[] vs)
 |ptr (cells:List PV) (off b o:Nat) (cv:Nat->Value)
   (hc:∀j,j<cells.length->w.cell? ⟨b,o+j,none⟩=some (cv j)/\¬M b (o+j))
   (h1:∀c,c∈cells->c.one=true)
   (hr:∀(j:Nat) c,cells[j]?=some c->Flat M w c (cv j)):Flat M w (.ptr cells off) (.pointer (some ⟨b,o+off,none⟩))
def Keeps(M:Nat->Nat->Prop)(w:World)(M':Nat->Nat->Prop)(w':World):Prop :=
 ∀b o v,¬M b o->w.cell? ⟨b,o,none⟩=some v->w'.cell? ⟨b,o,none⟩=some v/\¬M' b o
theorem Keeps.refl(M:Nat->Nat->Prop)(w:World):Keeps M w M w:=fun _ _ _ h1 h2=>⟨h2,h1⟩
theorem Keeps.trans{M M' M'':Nat->Nat->Prop}{w w' w'':World}(h:Keeps M w M' w')(k:Keeps M' w' M'' w''):Keeps M w M'' w'' :=
 fun b o v h1 h2=>let ⟨a,c⟩:=h b o v h1 h2;k b o v c a
theorem Flat.mono{M M':Nat->Nat->Prop}{w w':World}(hk:Keeps M w M' w'){x:PV}{v:Value}(h:Flat M w x v):Flat M' w' x v:=by
 induction h with
 |int k n=>exact .int k n
 |bool b=>exact .bool b
 |str s=>exact .str s
 |atom v h=>exact .atom v h
 |agg cs vs hl h1 _ ih=>exact .agg cs vs hl h1 ih
 |nilsl size=>exact .nilsl size
 |sl0 size a=>exact .sl0 size a
 |sl size rows b off cap cv hcap hmax hc hs h1 _ ih=>
  exact .sl size rows b off cap cv hcap hmax (fun j hj=>hk _ _ _ (hc j hj).2 (hc j hj).1) hs h1 ih
 |fn f caps vs hl _ ih=>exact .fn f caps vs hl ih
 |ptr cells off b o cv hc h1 _ ih=>exact .ptr cells off b o cv (fun j hj=>hk _ _ _ (hc j hj).2 (hc j hj).1) h1 ih
theorem Flat.oneCell{M:Nat->Nat->Prop}{w:World}{x:PV}{v:Value}(h:Flat M w x v)(hx:x.one=true):v.oneCell'=true:=by
 cases h<;>first|rfl|assumption|(simp[PV.one] at hx)
theorem cM{v:Value}(h:v.oneCell'=true):v.cells = #[v]:=by
 cases v<;>first|rfl|(simp[Value.oneCell'] at h)
theorem kN{x:PV}(h:x.one=true):aE x=[x]:=by
 cases x<;>first|rfl|(simp[PV.one] at h)
theorem Flat.cells{M:Nat->Nat->Prop}{w:World}{x:PV}{v:Value}(h:Flat M w x v) :
  v.cells.size=(aE x).length/\(∀(i:Nat) c u,(aE x)[i]?=some c->v.cells[i]?=some u->Flat M w c u/\c.one=true):=by
 by_cases hx:x.one=true
 ·rw[cM (h.oneCell hx),kN hx]
  refine⟨rfl,fun i c u hc hu=>?_⟩
  cases i with
  |zero=>simp at hc hu;subst hc;subst hu;exact⟨h,hx⟩
  |succ i=>simp at hc
 ·cases h with
  |agg cs vs hl h1 h=>exact⟨hl,fun i c u hc hu=>⟨h i c u hc hu,h1 c (cD hc)⟩⟩
  |_=>exact absurd (by first|rfl|assumption) hx
open Go.RowKit
variable {P:Program}
abbrev M0:Nat->Nat->Prop:=fun _ _=>False
def x5(P:Program)(t:TypeId):Bool:=match P.underlying t with
 |some (.struct _)=>true
 |_=>false
def eX(ag:Bool)(cs:List PV):PV:=if ag then .agg cs else cs.headD (.bool false)
def RdT(P:Program):Nat->TypeId->List PV->Prop
 |0,_,_=>False
 |n+1,t,cs=>match P.underlying t with
  |some (.int k)=>∃m,cs=[.int k m]
  |some .bool=>∃b,cs=[.bool b]
  |some (.slice e)=>∃nl rows,cs=[.sl (P.cellsOf e) nl rows]/\(nl=true->rows=[])/\∀row,row∈rows->∃rcs,RdT P n e rcs/\row=eX (x5 P e) rcs
  |some (.struct fs)=>RdF (RdT P n) fs.toList cs
  |_=>False
where
 RdF (r:TypeId->List PV->Prop):List Field->List PV->Prop
 |[],cs=>cs=[]
 |f ::fs,cs=>∃a b,cs=a++b/\r f.type a/\RdF r fs b
def AM(P:Program)(r:TypeId->Bool):List Field->Nat->Nat->Bool
 |[],off,tot=>off ==tot
 |f ::fs,off,tot=>f.offset ==off&&(r f.type&&AM P r fs (off+P.cellsOf f.type) tot)
def DZ(P:Program):Nat->TypeId->Bool
 |0,_=>false
 |n+1,t=>match P.underlying t with
  |some (.int _)|some .bool=>P.cellsOf t ==1
  |some (.slice e)=>P.cellsOf t ==1&&(P.cellsOf e !=0&&DZ P n e)
  |some (.struct fs)=>AM P (DZ P n) fs.toList 0 (P.cellsOf t)
  |_=>false
theorem u6{α β:Type}{f : α->Option β}:∀{l:List α} {r:List β},l.mapM f=some r->r.length=l.length/\∀(i:Nat) a,l[i]?=some a->∃b,f a=some b/\r[i]?=some b:=by
 intro l
 induction l with
 |nil=>intro r h;simp at h;subst h;exact⟨rfl,fun i a h=>by simp at h⟩
 |cons x xs ih=>
  intro r h;rw[List.mapM_cons] at h;simp only[bind,Option.bind_eq_some_iff,pure,bQ] at h;obtain⟨b,h1,bs,h2,rfl⟩:=h;obtain⟨h3,h4⟩:=ih h2;refine⟨by simp[h3],fun i a ha=>?_⟩
  cases i with
  |zero=>cases ha;exact⟨b,h1,rfl⟩
  |succ i=>exact h4 i a ha
theorem pick{α:Type}[Inhabited α]{n:Nat}{p:Nat -> α->Prop}(h:∀i,i<n->∃a,p i a):∃f:Nat -> α,∀i,i<n->p i (f i):=by
 classical
 refine⟨fun i=>if hi:i<n then Classical.choose (h i hi) else default,fun i hi=>?_⟩
 simp only[hi,dif_pos];exact Classical.choose_spec (h i hi)
def rH(w:World)(pvs:List PV)(cs:List Value):Prop:=pvs.length=cs.length/\∀(i:Nat) x v,pvs[i]?=some x->cs[i]?=some v->Flat M0 w x v/\x.one=true
theorem yQ{w:World}{a b:List PV}{c d:List Value}(h1:rH w a c)(h2:rH w b d):rH w (a++b) (c++d):=by
 refine⟨by simp[h1.1,h2.1],fun i x v hx hv=>?_⟩
 by_cases hi:i<a.length
 ·rw[List.getElem?_append_left hi] at hx
  rw[List.getElem?_append_left (by rw[<-h1.1];exact hi)] at hv
  exact h1.2 i x v hx hv
 ·rw[List.getElem?_append_right (by omega)] at hx
  rw[List.getElem?_append_right (by rw[<-h1.1];omega), <-h1.1] at hv
  exact h2.2 _ x v hx hv
theorem GV{n:Nat}{e:TypeId}{rcs:List PV}(h:RdT P n e rcs)(h1:∀x,x∈rcs->x.one=true):aE (eX (x5 P e) rcs)=rcs:=by
 cases n with
 |zero=>exact h.elim
 |succ n=>
  unfold RdT at h;unfold x5
  split at h
  ·rename_i hu;obtain⟨m,rfl⟩:=h;simp[hu,eX,aE]
  ·rename_i hu;obtain⟨m,rfl⟩:=h;simp[hu,eX,aE]
  ·rename_i hu;obtain⟨nl,rows,rfl,_⟩:=h;simp[hu,eX,aE]
  ·rename_i hu;simp[hu,eX,aE]
  ·exact h.elim
section
variable {H:Type} {enc:TypeId×Value->H} {w:World} {sp:Nat->Bool} {hd:Bool}
theorem FE{a:Addr}{n:Nat}{l:List Value}(h:w.cells? 0 a n=some l):l.length=n/\∀(i:Nat) v,l[i]?=some v->w.cell? (a.add i)=some v:=by
 unfold World.cells? at h;rw[if_pos (Nat.zero_le _)] at h;obtain⟨h1,h2⟩:=u6 h;rw[List.length_range] at h1;refine⟨h1,fun i v hv=>?_⟩
 have hi:i<n:=by rw[<-h1];exact(bM.1 hv).1
 obtain⟨b,hb,hbi⟩:=h2 i i (by simp[hi])
 rw[hbi] at hv;injection hv with hv
 rw[<-hv];exact hb
theorem xM{m:Nat}{r:TypeId->List PV->Prop}{ok:TypeId->Bool}(ih:∀t cs x,ok t=true->DataW.trod enc P w 0 sp hd m t cs=some x->cs.length=P.cellsOf t->∃pvs,rH w pvs cs/\r t pvs) :
  ∀(fs:List Field) (off:Nat) (cs:List Value) (tot:Nat) (xs:List (DataW H×List MemPlace)),AM P ok fs off tot=true->cs.length=tot->off<=tot ->
  (fs.mapM fun f=>DataW.trod enc P w 0 sp hd m f.type ((cs.drop f.offset).take (P.cellsOf f.type)))=some xs->∃pvs,rH w pvs (cs.drop off)/\RdT.RdF r fs pvs
 |[],off,cs,tot,xs,hf,hl,ho,h=>by
  simp only[AM,beq_iff_eq] at hf;refine⟨[],⟨by simp;omega,fun i x v hx=>by simp at hx⟩,rfl⟩
 |f ::fs,off,cs,tot,xs,hf,hl,ho,h=>by
  simp only[AM,aY,beq_iff_eq] at hf;obtain⟨e1,e2,e3⟩:=hf;rw[List.mapM_cons] at h;simp only[bind,Option.bind_eq_some_iff,pure,bQ] at h;obtain⟨y,h1,ys,h2,rfl⟩:=h
  have hle:off+P.cellsOf f.type<=tot:=by
   have:∀(fs:List Field) (a b:Nat),AM P ok fs a b=true->a<=b:=by
    intro fs
    induction fs with
    |nil=>intro a b h;simp only[AM,beq_iff_eq] at h;omega
    |cons g gs ihg=>
     intro a b h;simp only[AM,aY,beq_iff_eq] at h;have:=ihg _ _ h.2.2;omega
   exact this _ _ _ e3
  rw[e1] at h1;obtain⟨p1,c1,r1⟩:=ih f.type _ _ e2 h1 (by simp;omega)
  obtain⟨p2,c2,r2⟩:=xM ih fs _ cs tot ys e3 hl hle h2;refine⟨p1++p2,?_,p1,p2,rfl,r1,r2⟩
  have:cs.drop off=(cs.drop off).take (P.cellsOf f.type)++cs.drop (off+P.cellsOf f.type):=by
   rw[<-List.drop_drop,List.take_append_drop]
  rw[this];exact yQ c1 c2
theorem rd:∀(m n:Nat) (t:TypeId) (cs:List Value) (x:DataW H×List MemPlace),DZ P n t=true->DataW.trod enc P w 0 sp hd m t cs=some x->(∀b,sp b=true)->cs.length=P.cellsOf t ->
  ∃pvs,rH w pvs cs/\RdT P n t pvs:=by
 intro m
 induction m with
 |zero=>intro n t cs x _ h;simp[DataW.trod] at h
 |succ m ih=>
  intro n t cs x hok h hsp hlen
  cases n with
  |zero=>simp[DZ] at hok
  |succ n=>
   unfold DZ at hok;unfold RdT
   have one:∀{y:PV} {v:Value},Flat M0 w y v->y.one=true->rH w [y] [v]:=by
    intro y v hf h1;refine⟨rfl,fun i a b ha hb=>?_⟩
    cases i with
    |zero=>cases ha;cases hb;exact⟨hf,h1⟩
    |succ i=>simp at ha
   split at hok
   ·rename_i k hu
    have hl:cs.length=1:=by rw[hlen];simpa using hok
    match cs,hl with
    |[v],_=>
     simp only[DataW.trod,hu] at h;cases v<;>try (simp at h;done)
     rename_i k' m';simp only at h
     split at h
     ·rename_i hk
      obtain⟨rfl,_⟩:=hk;exact⟨_,one (.int _ _) rfl,_,rfl⟩
     ·cases h
   ·rename_i hu
    have hl:cs.length=1:=by rw[hlen];simpa using hok
    match cs,hl with
    |[v],_=>
     simp only[DataW.trod,hu] at h;cases v<;>try (simp at h;done)
     exact⟨_,one (.bool _) rfl,_,rfl⟩
   ·rename_i e hu
    simp only[aY,beq_iff_eq,bne_iff_ne] at hok;obtain⟨o1,o2,o3⟩:=hok;have hl:cs.length=1:=by rw[hlen];exact o1
    match cs,hl with
    |[v],_=>
     simp only[DataW.trod,hu] at h
     obtain⟨a,len,cap,rfl⟩:∃a len cap,v=.slice a len cap:=by
      cases v with
      |slice a len cap=>exact⟨a,len,cap,rfl⟩
      |_=>simp at h
     cases a with
     |none=>
      match len,cap,h with
      |0,0,_=>exact⟨[.sl (P.cellsOf e) true []],one (.nilsl _) rfl,true,[],rfl,fun _=>rfl,fun row hr=>by simp at hr⟩
     |some a=>
      simp only at h
      split at h
      ·rename_i hc
       obtain⟨_,hlc,hcm⟩:=hc;simp only[Option.bind_eq_some_iff] at h;obtain⟨elems,he,h⟩:=h;rw[if_pos (hsp _),Option.map_eq_some_iff] at h;obtain⟨rest,hr,_⟩:=h;obtain⟨_,he⟩:=u6 he;obtain⟨_,hr⟩:=u6 hr
       have hel:∀i,i<cap->∃(l:List Value) (y:DataW H×List MemPlace),w.cells? 0 (a.add (i*P.cellsOf e)) (P.cellsOf e)=some l/\DataW.trod enc P w 0 sp hd m e l=some y:=by
        intro i hi
        by_cases hil:i<len
        ·obtain⟨b,hb,_⟩:=he i i (by simp[hil])
         rw[Option.bind_eq_some_iff] at hb;obtain⟨l,h1,h2⟩:=hb;exact⟨l,b,h1,h2⟩
        ·obtain⟨b,hb,_⟩:=hr (i-len) (i-len) (by rw[List.getElem?_range (by omega)])
         rw[show len+(i-len)=i by omega,Option.bind_eq_some_iff] at hb
         obtain⟨l,h1,h2⟩:=hb;exact⟨l,b,h1,h2⟩
       by_cases hc0:cap=0
       ·subst hc0
        have:len=0:=by omega
        subst this;exact⟨[.sl (P.cellsOf e) false []],one (.sl0 _ _) rfl,false,[],rfl,fun _=>rfl,fun row hr=>by simp at hr⟩
       ·have hspot:a.spot=none:=by
         obtain⟨l,y,h1,_⟩:=hel 0 (by omega)
         obtain⟨c1,c2⟩:=FE h1;have hl0':0<l.length:=by omega
         have hl0:l[0]?=some l[0]:=by simp[hl0']
         have:=c2 0 _ hl0;rw[Nat.zero_mul] at this;have ha0:(a.add 0).add 0=a:=by simp[Addr.add]
         rw[ha0] at this;unfold World.cell? at this
         cases hsp2:a.spot with
         |none=>rfl
         |some q=>
          exfalso
          rw[hsp2] at this
          split at this<;>simp at this
        obtain⟨ab,ao,asp⟩:=a;simp only at hspot;subst hspot
        have hrow:∀i,i<len->∃pvs:List PV,RdT P n e pvs/\pvs.length=P.cellsOf e/\∀(j:Nat) y,pvs[j]?=some y->∃u,w.cell? ⟨ab,ao+(i*P.cellsOf e+j),none⟩=some u/\Flat M0 w y u/\y.one=true:=by
         intro i hi;obtain⟨l,y,h1,h2⟩:=hel i (by omega)
         obtain⟨c1,c2⟩:=FE h1;obtain⟨pvs,hcs,hrd⟩:=ih n e l y o3 h2 hsp c1;refine⟨pvs,hrd,by rw[hcs.1,c1],fun j y hj=>?_⟩
         have hjl:=(bM.1 hj).1;have hjl':j<l.length:=by rw[<-hcs.1];exact hjl
         have hlj:l[j]?=some l[j]:=by simp[hjl']
         have hcell:=c2 j _ hlj;rw[Addr.add_lit,Addr.add_lit,Nat.add_assoc] at hcell;exact⟨_,hcell,hcs.2 j _ _ hj hlj⟩
        obtain⟨f,hf⟩:=pick hrow
        have hfr:∀i,i<len->aE (eX (x5 P e) (f i))=f i:=by
         intro i hi;refine GV (hf i hi).1 fun x hx=>?_
         obtain⟨j,hj⟩:=List.getElem?_of_mem hx;obtain⟨u,_,_,h3⟩:=(hf i hi).2.2 j x hj;exact h3
        have hget:∀(i:Nat) row,((List.range len).map fun i=>eX (x5 P e) (f i))[i]?=some row->i<len/\row=eX (x5 P e) (f i):=by
         intro i row hrw;have hi:i<len:=by have:=(bM.1 hrw).1;simpa using this
         rw[List.getElem?_map,List.getElem?_range hi] at hrw;exact⟨hi,by simpa using hrw.symm⟩
        have hlenr:((List.range len).map fun i=>eX (x5 P e) (f i)).length=len:=by simp
        refine⟨[.sl (P.cellsOf e) false ((List.range len).map fun i=>eX (x5 P e) (f i))],one ?_ rfl,false,_,rfl,(fun h=>by cases h),fun row hrm=>?_⟩
        ·have hfl:=Flat.sl (M:=M0) (w:=w) (P.cellsOf e) ((List.range len).map fun i=>eX (x5 P e) (f i)) ab ao cap (fun j=>(w.cell? ⟨ab,ao+j,none⟩).getD undef) (by rw[hlenr];exact hlc) hcm (fun j hj=>⟨?_,fun h=>h⟩) (fun row hrm=>?_) (fun row hrm c hcm'=>?_) (fun i j row c hi hc=>?_)
         ·rw[hlenr] at hfl
          exact hfl
         ·rw[hlenr] at hj
          have hi:j/P.cellsOf e<len:=(Nat.div_lt_iff_lt_mul (Nat.pos_of_ne_zero o2)).2 hj;have hm:j%P.cellsOf e<P.cellsOf e:=Nat.mod_lt _ (Nat.pos_of_ne_zero o2);obtain⟨q1,q2,q3⟩:=hf _ hi;have hy:(f (j/P.cellsOf e))[j%P.cellsOf e]?=some (f (j/P.cellsOf e))[j%P.cellsOf e]:=by simp[show j%P.cellsOf e<(f (j/P.cellsOf e)).length by omega]
          obtain⟨u,hu',_⟩:=q3 _ _ hy;have hj':j/P.cellsOf e*P.cellsOf e+j%P.cellsOf e=j:=by rw[Nat.mul_comm];exact Nat.div_add_mod j _
          rw[hj'] at hu';rw[hu'];rfl
         ·obtain⟨i,hi⟩:=List.getElem?_of_mem hrm
          obtain⟨h1,rfl⟩:=hget i row hi;rw[hfr i h1];exact(hf i h1).2.1
         ·obtain⟨i,hi⟩:=List.getElem?_of_mem hrm
          obtain⟨h1,rfl⟩:=hget i row hi;rw[hfr i h1] at hcm';obtain⟨j,hj⟩:=List.getElem?_of_mem hcm';obtain⟨u,_,_,h3⟩:=(hf i h1).2.2 j c hj;exact h3
         ·obtain⟨h1,rfl⟩:=hget i row hi
          rw[hfr i h1] at hc;obtain⟨u,h2,h3,h4⟩:=(hf i h1).2.2 j c hc;simp only[h2,Option.getD_some];exact h3
        ·obtain⟨i,hi⟩:=List.getElem?_of_mem hrm
         obtain⟨h1,rfl⟩:=hget i row hi;exact⟨f i,(hf i h1).1,rfl⟩
      ·cases h
   ·rename_i fs hu
    simp only[DataW.trod,hu] at h;rw[if_pos hlen,Option.map_eq_some_iff] at h
    ·obtain⟨xs,hx,_⟩:=h
     have:=xM (r:=RdT P n) (ok:=DZ P n) (fun t cs x h1 h2 h3=>ih n t cs x h1 h2 hsp h3) fs.toList 0 cs (P.cellsOf t) xs hok hlen (Nat.zero_le _) hx
     simpa using this
   ·simp at hok
theorem iN{n:Nat}{t:TypeId}{v:Value}{d:DataW H}{ps:List MemPlace}(hok:DZ P n t=true)(h:DataW.Trod enc P w 0 sp hd t v d ps)(hsp:∀b,sp b=true){base:Nat}(hv:Value.okWide P w .any base t v)(hlen:v.cells.size=P.cellsOf t) :
  ∃pvs,RdT P n t pvs/\Flat M0 w (eX (x5 P t) pvs) v:=by
 obtain⟨fuel,h⟩:=h;obtain⟨pvs,hc,hr⟩:=rd fuel n t _ _ hok h hsp (by simpa using hlen)
 refine⟨pvs,hr,?_⟩;have hv':=hv;unfold Value.okWide at hv'
 cases n with
 |zero=>exact hr.elim
 |succ n=>
  unfold RdT at hr;unfold x5
  have fin:∀{x:PV},rH w [x] v.cells.toList->v.cells = #[v]->Flat M0 w x v:=by
   intro x hc h1;rw[h1] at hc;exact(hc.2 0 x v rfl rfl).1
  split at hr
  ·rename_i hu
   simp only[hu] at hv';obtain⟨m,rfl⟩:=hr;have h1:v.cells = #[v]:=by cases v<;>first|rfl|(simp[Cell.okWide,Cell.ok,hu] at hv')
   simp only[hu];exact fin hc h1
  ·rename_i hu
   simp only[hu] at hv';obtain⟨m,rfl⟩:=hr;have h1:v.cells = #[v]:=by cases v<;>first|rfl|(simp[Cell.okWide,Cell.ok,hu] at hv')
   simp only[hu];exact fin hc h1
  ·rename_i hu
   simp only[hu] at hv';obtain⟨nl,rows,rfl,_⟩:=hr;have h1:v.cells = #[v]:=by cases v<;>first|rfl|(simp[Cell.okWide,Cell.ok,hu] at hv')
   simp only[hu];exact fin hc h1
  ·rename_i hu
   simp only[hu] at hv';obtain⟨cs,rfl,_,_⟩:=hv';simp only[hu,eX,if_true];have hcs:(Value.agg cs).cells.toList=cs.toList:=rfl;rw[hcs] at hc;refine .agg pvs cs (by have:=hc.1;simpa using this.symm) (fun c hcm=>?_) (fun i c u h1 h2=>(hc.2 i c u h1 (by simpa using h2)).1)
   obtain⟨i,hi⟩:=List.getElem?_of_mem hcm;have hil:=(bM.1 hi).1;have hl:=hc.1;have:cs.toList[i]?=some cs.toList[i]:=by simp[show i<cs.size by simp at hl;omega]
   exact(hc.2 i c _ hi this).2
  ·exact hr.elim
theorem iQ{n:Nat}{t:TypeId}{v:Value}(hok:DZ P n t=true){base:Nat}(hv:Value.okWide P w .any base t v):v.cells.size=P.cellsOf t:=by
 unfold Value.okWide at hv
 cases n with
 |zero=>cases hok
 |succ n=>
  unfold DZ at hok
  split at hok
  ·rename_i hu
   simp only[hu] at hv;have h1:v.cells = #[v]:=by cases v<;>first|rfl|(simp[Cell.okWide,Cell.ok,hu] at hv)
   rw[h1];have:=eq_of_beq hok;rw[this];rfl
  ·rename_i hu
   simp only[hu] at hv;have h1:v.cells = #[v]:=by cases v<;>first|rfl|(simp[Cell.okWide,Cell.ok,hu] at hv)
   rw[h1];have:=eq_of_beq hok;rw[this];rfl
  ·rename_i hu
   simp only[hu] at hv;have h1:v.cells = #[v]:=by cases v<;>first|rfl|(simp[Cell.okWide,Cell.ok,hu] at hv)
   simp only[aY,beq_iff_eq] at hok;rw[h1,hok.1];rfl
  ·rename_i hu
   simp only[hu] at hv;obtain⟨cs,rfl,h,_⟩:=hv;exact h
  ·cases hok
end
open Go.RowKit
inductive TV where
 |p (x:PV)
 |ow (size:Nat) (isNil:Bool) (rows:List PV)
inductive CapV where
 |p (x:PV)
 |addr (k size r off:Nat)
inductive RfV where
 |p (x:PV)
 |addr (k size r off:Nat)
 |bs (k size:Nat) (isAgg:Bool) (lo n:Nat)
 |mh (k:Nat)
inductive DV where
 |top
 |p (x:PV)
 |ow (size:Nat) (isNil:Bool) (rows:List PV)
 |tup (ds:List TV)
 |addr (k size r off:Nat)
 |bs (k size:Nat) (isAgg:Bool) (lo n:Nat)
 |fn (f:FuncId) (caps:List CapV)
 |mh (k:Nat)
 |ob (T:Ob)
 |agd (cs:List RfV)
 |pk (o:Option Nat)
instance:Inhabited DV:=⟨.top⟩
def TV.copy:TV->TV
 | .ow size n rows=>.p (.sl size n rows)
 |x=>x
def XZ:Ob->DV
 | .sl _ _ rows=>.pk (some rows.length)
 | .ptr _=>.pk none
 |_=>.top
def DV.copy:DV->DV
 | .ow size n rows=>.p (.sl size n rows)
 | .tup ds=>.tup (ds.map TV.copy)
 | .ob T=>XZ T
 |x=>x
def Ob.dv:Ob->DV
 | .p x=>.p x
 |T=>.ob T
def EX:List Ob->List DV
 |[]=>[]
 |T ::l=>T.dv ::EX l
def eV:List (List Ob)->List (List DV)
 |[]=>[]
 |r ::l=>EX r ::eV l
def rS:List PV->List Ob->List (List DV)
 |k ::ks,v ::vs=>[.p k,v.dv] ::rS ks vs
 |_,_=>[]
def RfV.ment(k:Nat):RfV->Bool
 | .addr j _ _ _ | .bs j _ _ _ _ | .mh j=>j ==k
 |_=>false
def RfV.dv:RfV->DV
 | .p x=>.p x
 | .addr k sz r o=>.addr k sz r o
 | .bs k sz ag lo n=>.bs k sz ag lo n
 | .mh k=>.mh k
def BB:List RfV->List DV
 |[]=>[]
 |c ::cs=>c.dv ::BB cs
theorem nZ(l:List RfV):BB l=l.map RfV.dv:=by induction l with|nil=>rfl|cons x xs ih=>simp[BB,ih]
def DV.ment(k:Nat):DV->Bool
 | .addr j _ _ _ | .bs j _ _ _ _ | .mh j=>j ==k
 | .fn _ caps=>caps.any fun | .addr j _ _ _=>j ==k|_=>false
 | .agd cs=>cs.any (RfV.ment k)
 |_=>false
def DV.isP:DV->Bool
 | .p _=>true
 |_=>false
structure Box where
 live:Bool
 size:Nat
 rows:List (List DV)
 old:Bool
structure St where
 t:List DV
 b:List (Option Box)
def aF{α:Type}:List α->Nat -> α->List α
 |[],_,_=>[]
 |_ ::xs,0,v=>v ::xs
 |x ::xs,n+1,v=>x ::aF xs n v
def aT:List DV->Nat->DV
 |[],_=>.top
 |x ::_,0=>x
 |_ ::xs,n+1=>aT xs n
def x8:Option Box->Option Box
 |some bx=>match bx.size with
  |0=>none
  |_+1=>some bx
 |none=>none
def JB:Option Box->Option Box
 |some bx=>match bx.size with
  |0=>some bx
  |_+1=>none
 |none=>none
def dV:List (Option Box)->Nat->Option Box
 |[],_=>none
 |x ::_,0=>JB x
 |_ ::xs,n+1=>dV xs n
def bF:List (Option Box)->Nat->Option Box
 |[],_=>none
 |x ::_,0=>x8 x
 |_ ::xs,n+1=>bF xs n
theorem aI{α:Type}(l:List α)(n:Nat)(v : α):(aF l n v).length=l.length:=by
 induction l generalizing n with
 |nil=>rfl
 |cons x xs ih=>cases n<;>simp[aF,ih]
theorem getElem?_setL{α:Type}(l:List α)(n i:Nat)(v : α):(aF l n v)[i]?=if i=n then l[i]?.map (fun _=>v) else l[i]?:=by
 induction l generalizing n i with
 |nil=>simp[aF]
 |cons x xs ih=>cases n<;>cases i<;>simp[aF,ih]
theorem cL(l:List DV)(n:Nat):aT l n=(l[n]?).getD .top:=by
 induction l generalizing n with
 |nil=>simp[aT]
 |cons x xs ih=>cases n<;>simp[aT,ih]
theorem nJ{x:Option Box}{bx:Box}(h:x8 x=some bx):x=some bx/\bx.size≠0:=by
 cases x with
 |none=>cases h
 |some b=>
  simp only[x8] at h
  split at h
  ·cases h
  ·rename_i e;injection h with h;subst h;exact⟨rfl,by omega⟩
theorem GI{x:Option Box}{bx:Box}(h:JB x=some bx):x=some bx/\bx.size=0:=by
 cases x with
 |none=>cases h
 |some b=>
  simp only[JB] at h
  split at h
  ·rename_i e;injection h with h;subst h;exact⟨rfl,e⟩
  ·cases h
theorem FM(l:List (Option Box))(n:Nat):bF l n=x8 ((l[n]?).getD none):=by
 induction l generalizing n with
 |nil=>simp[bF,x8]
 |cons x xs ih=>cases n<;>simp[bF,ih]
theorem MC(l:List (Option Box))(n:Nat):dV l n=JB ((l[n]?).getD none):=by
 induction l generalizing n with
 |nil=>simp[dV,JB]
 |cons x xs ih=>cases n<;>simp[dV,ih]
def eO(es:Array MapEntry)(clock:Nat):Prop:=(∀x∈es.toList,x.born<clock)/\(es.toList.map (·.born)).Nodup
def cR:Bool->MapEntry->List DV
 |true,e=>[.p (.int .i64 e.born)]
 |false,_=>[]
theorem HX:eO #[] 0:=⟨by simp,by simp⟩
theorem xF{es:Array MapEntry}{clock:Nat}(h:eO es clock){key val:Value}:eO (es.push { key,val,born:=clock }) (clock+1):=by
 obtain⟨h1,h2⟩:=h;refine⟨fun x hx=>?_,?_⟩
 ·simp only[Array.toList_push,List.mem_append,List.mem_singleton] at hx
  rcases hx with hx|rfl
  ·exact Nat.lt_succ_of_lt (h1 x hx)
  ·exact Nat.lt_succ_self _
 ·simp only[Array.toList_push,List.map_append,List.map_cons,List.map_nil]
  refine List.nodup_append.2 ⟨h2,by simp,fun a ha b hb=>?_⟩
  simp only[List.mem_singleton] at hb;subst hb;obtain⟨x,hx,rfl⟩:=List.mem_map.1 ha;exact Nat.ne_of_lt (h1 x hx)
theorem lO{es:Array MapEntry}{clock:Nat}(h:eO es clock)(i:Nat)(f:MapEntry->MapEntry)(hf:∀e,(f e).born=e.born):eO (es.modify i f) clock:=by
 have hb:(es.modify i f).toList.map (·.born)=es.toList.map (·.born):=by
  apply List.ext_getElem?
  intro j;simp only[List.getElem?_map,Array.getElem?_toList,Array.getElem?_modify]
  split
  ·cases es[j]?<;>simp[hf]
  ·rfl
 refine⟨fun x hx=>?_,by rw[hb];exact h.2⟩
 have hm:x.born∈es.toList.map (·.born):=by rw[<-hb];exact List.mem_map.2 ⟨x,hx,rfl⟩
 obtain⟨y,hy,e⟩:=List.mem_map.1 hm;rw[<-e];exact h.1 y hy
theorem DM{es:Array MapEntry}{clock:Nat}(h:eO es clock)(i:Nat):eO (es.eraseIdxIfInBounds i) clock:=by
 have hs:(es.eraseIdxIfInBounds i).toList.Sublist es.toList:=by
  unfold Array.eraseIdxIfInBounds
  split
  ·simp only[Array.toList_eraseIdx];exact List.eraseIdx_sublist _ _
  ·exact List.Sublist.refl _
 exact⟨fun x hx=>h.1 x (hs.subset hx),(hs.map _).nodup h.2⟩
inductive Loc where
 |tmp (i:Nat)
 |cell (k r o:Nat)
 |box (k:Nat)
 |comp (L:Loc) (j:Nat)
deriving DecidableEq
structure Cx where
 ρ:Nat->Option Nat
 own:Nat->Option Loc
 M:Nat->Nat->Prop
 w:World
 ex:Nat->Option Nat
def OwRel(X:Cx)(base:Nat)(L:Loc)(size:Nat)(isNil:Bool)(rows:List PV)(v:Value):Prop :=
 (rows=[]/\((isNil=true/\v=.slice none 0 0)\/(isNil=false/\∃b o,v=.slice (some ⟨b,o,none⟩) 0 0))) \/
 (isNil = false /\ ∃ g cap cur ty, v = .slice (some ⟨g, 0, none⟩) rows.length cap /\ X.own g = some L /\ base <= g /\ X.w.heap[g]? = some (.cells cur ty (0, 0)) /\
  cur.size=cap*size/\Flat X.M X.w (.sl size false rows) v/\∀o,rows.length*size<=o->X.M g o)
inductive ObRel (X:Cx) (base:Nat):Loc->Ob->Value->Prop
 |p (L:Loc) (x:PV) (v:Value) (h:Flat X.M X.w x v):ObRel X base L (.p x) v
 |ptr (L:Loc) (cells:List Ob) (g:Nat) (cs:Array Value) (ty:TypeId) (ho:X.own g=some L) (hb:base<=g\/∃j,X.ex j=some g) (hh:X.w.heap[g]?=some (.cells cs ty (0,0))) (hM:∀o,X.M g o)
   (hs:cells.length<=cs.size) (h1:∀(j:Nat) T u,cells[j]?=some T->cs[j]?=some u->u.oneCell'=true)
   (hc:∀(j:Nat) T u,cells[j]?=some T->cs[j]?=some u->ObRel X base (.comp L j) T u):ObRel X base L (.ptr cells) (.pointer (some ⟨g,0,none⟩))
 |nils (L:Loc) (size:Nat):ObRel X base L (.sl size true []) (.slice none 0 0)
 |sl (L:Loc) (size:Nat) (rows:List (List Ob)) (g cap:Nat) (cs:Array Value) (ty:TypeId) (ho:X.own g=some L) (hb:base<=g\/∃j,X.ex j=some g) (hh:X.w.heap[g]?=some (.cells cs ty (0,0))) (hM:∀o,X.M g o)
   (hl:rows.length<=cap) (hmax:cap<=maxLen) (hs:cap*size<=cs.size) (hw:∀row,row∈rows->row.length=size)
   (h1:∀(r o:Nat) row T u,rows[r]?=some row->row[o]?=some T->cs[r*size+o]?=some u->u.oneCell'=true)
   (hc:∀(r o:Nat) row T u,rows[r]?=some row->row[o]?=some T->cs[r*size+o]?=some u->ObRel X base (.comp L (r*size+o)) T u) :
   ObRel X base L (.sl size false rows) (.slice (some ⟨g,0,none⟩) rows.length cap)
 |mp (L:Loc) (keys:List PV) (vals:List Ob) (g:Nat) (es:Array MapEntry) (clock:Nat) (ho:X.own g=some L) (hb:base<=g\/∃j,X.ex j=some g) (hh:X.w.heap[g]?=some (.map es clock)) (hM:∀o,X.M g o)
   (hk:keys.length=es.size) (hv:vals.length=es.size) (hkey:∀(i:Nat) k e,keys[i]?=some k->es[i]?=some e->e.key=cO k) (hbn:eO es clock)
   (hc:∀(i:Nat) T e,vals[i]?=some T->es[i]?=some e->ObRel X base (.comp L (i*2+1)) T e.val):ObRel X base L (.mp keys vals) (.map (some g))
 |ch (L:Loc) (items:List PV) (g cap sent got:Nat) (buf:Array Value) (ho:X.own g=some L) (hb:base<=g\/∃j,X.ex j=some g) (hh:X.w.heap[g]?=some (.chan cap buf false sent got false)) (hM:∀o,X.M g o)
   (hs:buf.size=items.length) (hc:∀(i:Nat) x u,items[i]?=some x->buf[i]?=some u->Flat X.M X.w x u):ObRel X base L (.ch cap items) (.chan (some g))
def CRel(X:Cx):CapV->Value->Prop
 | .p x,v=>Flat X.M X.w x v
 | .addr k size r off,v=>∃blk,X.ρ k=some blk/\v=.pointer (some ⟨blk,r*size+off,none⟩)
def TRel(X:Cx)(base:Nat)(L:Loc):TV->Value->Prop
 | .p x,v=>Flat X.M X.w x v
 | .ow size n rows,v=>OwRel X base L size n rows v
def RRel(X:Cx):RfV->Value->Prop
 | .p x,v=>Flat X.M X.w x v
 | .addr k size r off,v=>∃blk,X.ρ k=some blk/\v=.pointer (some ⟨blk,r*size+off,none⟩)
 | .bs k size _ lo n,v=>∃blk cap,X.ρ k=some blk/\n<=cap/\cap<=maxLen/\(∃cs ty,X.w.heap[blk]?=some (.cells cs ty (0,0))/\(lo+cap)*size<=cs.size)/\v=.slice (some ⟨blk,lo*size,none⟩) n cap
 | .mh k,v=>∃blk,X.ρ k=some blk/\v=.map (some blk)
def VRel(X:Cx)(base:Nat)(L:Loc):DV->Value->Prop
 | .top,_=>True
 | .p x,v=>Flat X.M X.w x v
 | .ow size n rows,v=>OwRel X base L size n rows v
 | .tup ds,v=>∃vs:Array Value,v=.tuple vs/\vs.size=ds.length/\∀(j:Nat) d u,ds[j]?=some d->vs[j]?=some u->TRel X base (.comp L j) d u
 | .addr k size r off,v=>∃blk,X.ρ k=some blk/\v=.pointer (some ⟨blk,r*size+off,none⟩)
 | .bs k size _ lo n,v=>∃blk cap,X.ρ k=some blk/\n<=cap/\cap<=maxLen/\(∃cs ty,X.w.heap[blk]?=some (.cells cs ty (0,0))/\(lo+cap)*size<=cs.size)/\v=.slice (some ⟨blk,lo*size,none⟩) n cap
 | .fn f caps,v=>∃vs:Array Value,v=.func (.func f) #[] vs/\vs.size=caps.length/\∀(j:Nat) c u,caps[j]?=some c->vs[j]?=some u->CRel X c u
 | .mh k,v=>∃blk,X.ρ k=some blk/\v=.map (some blk)
 | .ob T,v=>ObRel X base L T v
 | .agd cs,v=>∃vs:Array Value,v=.agg vs/\vs.size=cs.length/\∀(j:Nat) c u,cs[j]?=some c->vs[j]?=some u->RRel X c u/\u.oneCell'=true
 | .pk (some n),v=>n<=maxLen/\∃a c,v=.slice a n c
 | .pk none,v=>∃b,v=.pointer (some b)
theorem RRel.dv{X:Cx}{c:RfV}{v:Value}(h:RRel X c v)(base:Nat)(L:Loc):VRel X base L c.dv v:=by cases c<;>exact h
structure BoxRel (X:Cx) (base k:Nat) (bx:Box) (blk:Nat) (cs:Array Value) (ty:TypeId):Prop where
 ρ:X.ρ k=some blk
 own:X.own blk=some (.box k)
 hbase:(base<=blk\/∃j,X.ex j=some blk)/\(bx.old=true->X.ex k=some blk)
 heap:X.w.heap[blk]?=some (.cells cs ty (0,0))
 size:bx.rows.length*bx.size<=cs.size
 width:∀row,row∈bx.rows->row.length=bx.size
 cells:∀(r o:Nat) row d u,bx.rows[r]?=some row->row[o]?=some d->cs[r*bx.size+o]?=some u->VRel X base (.cell k r o) d u/\u.oneCell'=true
 live:bx.live=true->∀o,X.M blk o
 fixed:bx.live=false->(∀o,o<bx.rows.length*bx.size->¬X.M blk o)/\∀row,row∈bx.rows->∀d,d∈row->d.isP=true
def RG(X:Cx)(base k:Nat)(bx:Box):Prop :=
 ∃blk es clock,X.ρ k=some blk/\X.own blk=some (.box k)/\((base<=blk\/∃j,X.ex j=some blk)/\(bx.old=true->X.ex k=some blk))/\X.w.heap[blk]?=some (.map es clock)/\es.size=bx.rows.length/\(∀o,X.M blk o)/\eO es clock /\
  ∀(i:Nat) row e,bx.rows[i]?=some row->es[i]?=some e->∃(q:PV) (n:Bool) (d:DV),row=.p q ::d ::cR n e/\e.key=cO q/\VRel X base (.cell k i 1) d e.val
def BX(X:Cx)(base k:Nat)(bx:Box):Prop :=
 if bx.size=0 then RG X base k bx else ∃blk cs ty,BoxRel X base k bx blk cs ty
theorem BX.cell{X:Cx}{base k:Nat}{bx:Box}{blk:Nat}{cs:Array Value}{ty:TypeId}(hne:bx.size≠0)(h:BoxRel X base k bx blk cs ty):BX X base k bx:=by
 unfold BX;rw[if_neg hne];exact⟨_,_,_,h⟩
def SzAt(w w':World)(g:Nat):Prop:=∀cs ty,w.heap[g]?=some (.cells cs ty (0,0))->∃cs' ty',w'.heap[g]?=some (.cells cs' ty' (0,0))/\cs'.size=cs.size
theorem SzAt.of{w w':World}{g:Nat}(h:w'.heap[g]?=w.heap[g]?):SzAt w w' g:=fun cs ty e=>⟨cs,ty,h.trans e,rfl⟩
theorem SzAt.refl(w:World)(g:Nat):SzAt w w g:=.of rfl
theorem SzAt.trans{w w' w'':World}{g:Nat}(h:SzAt w w' g)(k:SzAt w' w'' g):SzAt w w'' g:=fun cs ty e=>by
 obtain⟨cs',ty',e1,e2⟩:=h cs ty e;obtain⟨cs2,ty2,e3,e4⟩:=k cs' ty' e1;exact⟨cs2,ty2,e3,e4.trans e2⟩
theorem SzAt.heap{w w':World}{cs:Array Value}{ty:TypeId}{g:Nat}{new:Array Value}{ty':TypeId}(hs:w.heap[g]?=some (.cells cs ty (0,0)))(hn:w'.heap[g]?=some (.cells new ty' (0,0)))(hl:new.size=cs.size)
  (ho:∀b,b≠g->b<w.heap.size->w'.heap[b]?=w.heap[b]?) (b:Nat):SzAt w w' b:=by
 intro cs' ty2 hg
 by_cases e:b=g
 ·subst e;rw[hs] at hg;injection hg with hg;injection hg with hg1 hg2;subst hg1;exact⟨new,ty',hn,hl⟩
 ·exact⟨cs',ty2,(ho b e (Array.getElem?_eq_some_iff.1 hg).1).trans hg,rfl⟩
theorem SzAt.below{w w':World}(h:∀b,b<w.heap.size->w'.heap[b]?=w.heap[b]?)(b:Nat):SzAt w w' b :=
 fun cs' ty2 hg=>⟨cs',ty2,(h b (Array.getElem?_eq_some_iff.1 hg).1).trans hg,rfl⟩
structure Gl where
 base:Nat
 M0:Nat->Nat->Prop
 w0:World
 ex:Nat->Option Nat
structure BelowX (ex:Nat->Option Nat) (B:Nat) (w w':World):Prop where
 os:w'.os=w.os
 tape:w'.tape=w.tape
 output:w'.output=w.output
 size:w.heap.size<=w'.heap.size
 block:∀k,k<B->(∀j,ex j≠some k)->w'.heap[k]?=w.heap[k]?
 sz:∀k,k<B->SzAt w w' k
theorem BelowX.refl(ex:Nat->Option Nat)(B:Nat)(w:World):BelowX ex B w w:=⟨rfl,rfl,rfl,Nat.le_refl _,fun _ _ _=>rfl,fun _ _=>.refl _ _⟩
theorem BelowX.trans{ex:Nat->Option Nat}{B:Nat}{a b c:World}(h:BelowX ex B a b)(k:BelowX ex B b c):BelowX ex B a c :=
 ⟨k.os.trans h.os,k.tape.trans h.tape,k.output.trans h.output,Nat.le_trans h.size k.size,fun i hi hx=>(k.block i hi hx).trans (h.block i hi hx),fun i hi=>(h.sz i hi).trans (k.sz i hi)⟩
theorem BelowX.of{ex:Nat->Option Nat}{B:Nat}{a b:World}(h:Below B a b):BelowX ex B a b:=⟨h.os,h.tape,h.output,h.size,fun i hi _=>h.block i hi,fun i hi=>.of (h.block i hi)⟩
theorem BelowX.below{ex:Nat->Option Nat}{B:Nat}{a b:World}(h:BelowX ex B a b)(hx:∀k,ex k=none):Below B a b:=⟨h.os,h.tape,h.output,h.size,fun i hi=>h.block i hi fun j e=>by rw[hx j] at e;cases e⟩
structure Rel (G:Gl) (X:Cx) (s:St) (a:Act):Prop where
 defers:a.defers=[]
 size:a.tmps.size=s.t.length
 tmps:∀(i:Nat) d,s.t[i]?=some d->VRel X G.base (.tmp i) d (a.tmps.getD i undef)
 boxes:∀(k:Nat) bx,s.b[k]?=some (some bx)->BX X G.base k bx
 below:BelowX G.ex G.base G.w0 X.w
 hb:G.base<=X.w.heap.size
 mold:X.ex=G.ex/\∀b,b<G.base->(∀j,G.ex j≠some b)->∀o,X.M b o↔G.M0 b o
theorem Rel.cbox{G:Gl}{X:Cx}{s:St}{a:Act}(h:Rel G X s a){k:Nat}{bx:Box}(hb:s.b[k]?=some (some bx))(hne:bx.size≠0):∃blk cs ty,BoxRel X G.base k bx blk cs ty:=by
 have:=h.boxes k bx hb;unfold BX at this;rwa [if_neg hne] at this
structure Ev (S:Loc->Prop) (X X':Cx):Prop where
 keeps:Keeps X.M X.w X'.M X'.w
 own:∀g L,X.own g=some L->S L->g<X.w.heap.size->X'.own g=some L/\X'.w.heap[g]?=X.w.heap[g]?/\∀o,X.M g o->X'.M g o
 ex:X'.ex=X.ex
 sz:∀g,SzAt X.w X'.w g
theorem Ev.refl(S:Loc->Prop)(X:Cx):Ev S X X:=⟨Keeps.refl _ _,fun _ _ h _ _=>⟨h,rfl,fun _ h=>h⟩,rfl,fun _=>.refl _ _⟩
theorem ObRel.map{X X':Cx}{base base':Nat}(R:Loc->Loc->Prop)(hR:∀L L' j,R L L'->R (.comp L j) (.comp L' j))(hk:Keeps X.M X.w X'.M X'.w)
  (ho : ∀ g L L', R L L' -> X.own g = some L -> (base <= g \/ ∃ j, X.ex j = some g) -> (∀ o, X.M g o) -> g < X.w.heap.size ->
   X'.own g=some L'/\(base'<=g\/∃j,X'.ex j=some g)/\X'.w.heap[g]?=X.w.heap[g]?/\∀o,X'.M g o)
  {L:Loc} {T:Ob} {v:Value} (h:ObRel X base L T v):∀{L':Loc},R L L'->ObRel X' base' L' T v:=by
 induction h with
 |p L x v h=>exact fun _=>.p _ _ _ (h.mono hk)
 |ptr L cells g cs ty h1 h2 h3 h4 h5 h6 _ ih=>
  intro L' hL;obtain⟨e1,e2,e3,e4⟩:=ho g L L' hL h1 h2 h4 (Array.getElem?_eq_some_iff.1 h3).1;exact .ptr _ _ g cs ty e1 e2 (e3.trans h3) e4 h5 h6 fun j T u hT hu=>ih j T u hT hu (hR _ _ j hL)
 |nils L size=>exact fun _=>.nils _ _
 |sl L size rows g cap cs ty h1 h2 h3 h4 h5 h6 h7 h8 h9 _ ih=>
  intro L' hL;obtain⟨e1,e2,e3,e4⟩:=ho g L L' hL h1 h2 h4 (Array.getElem?_eq_some_iff.1 h3).1;exact .sl _ _ _ g cap cs ty e1 e2 (e3.trans h3) e4 h5 h6 h7 h8 h9 fun r o row T u hr hT hu=>ih r o row T u hr hT hu (hR _ _ _ hL)
 |mp L keys vals g es clock h1 h2 h3 h4 h5 h6 h7 hbn _ ih=>
  intro L' hL;obtain⟨e1,e2,e3,e4⟩:=ho g L L' hL h1 h2 h4 (Array.getElem?_eq_some_iff.1 h3).1;exact .mp _ _ _ g es clock e1 e2 (e3.trans h3) e4 h5 h6 h7 hbn fun i T e hT he=>ih i T e hT he (hR _ _ _ hL)
 |ch L items g cap sent got buf h1 h2 h3 h4 h5 h6=>
  intro L' hL;obtain⟨e1,e2,e3,e4⟩:=ho g L L' hL h1 h2 h4 (Array.getElem?_eq_some_iff.1 h3).1;exact .ch _ _ g cap sent got buf e1 e2 (e3.trans h3) e4 h5 fun i x u hx hu=>(h6 i x u hx hu).mono hk
theorem ObRel.mono{S:Loc->Prop}(hc:∀L j,S L->S (.comp L j)){X X':Cx}(h:Ev S X X'){base:Nat}{L:Loc}(hS:S L){T:Ob}{v:Value}(hv:ObRel X base L T v):ObRel X' base L T v :=
 hv.map (fun L L'=>L=L'/\S L) (fun L L' j ⟨e,hs⟩=>⟨by rw[e],hc _ _ hs⟩) h.keeps (fun g L L' ⟨e,hs⟩ h1 h2 h3 h4=>by
  subst e;obtain⟨e1,e2,e3⟩:=h.own g L h1 hs h4;exact⟨e1,by rw[h.ex];exact h2,e2,fun o=>e3 o (h3 o)⟩) ⟨rfl,hS⟩
theorem OwRel.mono{S:Loc->Prop}{X X':Cx}(h:Ev S X X'){base:Nat}{L:Loc}(hS:S L){size:Nat}{n:Bool}{rows:List PV}{v:Value}
  (hv:OwRel X base L size n rows v):OwRel X' base L size n rows v:=by
 rcases hv with hv|⟨h0,g,cap,cur,ty,h1,h2,h3,h4,h5,h6,h7⟩
 ·exact .inl hv
 ·have hlt:g<X.w.heap.size:=(Array.getElem?_eq_some_iff.1 h4).1
  obtain⟨e1,e2,e3⟩:=h.own g L h2 hS hlt;exact .inr ⟨h0,g,cap,cur,ty,h1,e1,h3,e2.trans h4,h5,h6.mono h.keeps,fun o ho=>e3 o (h7 o ho)⟩
theorem CRel.mono{X X':Cx}(hk:Keeps X.M X.w X'.M X'.w){c:CapV}{v:Value}(hρ:∀k size r off,c=.addr k size r off->X'.ρ k=X.ρ k)(h:CRel X c v):CRel X' c v:=by
 cases c with
 |p x=>exact Flat.mono hk h
 |addr k size r off=>obtain⟨blk,h1,h2⟩:=h;exact⟨blk,(hρ k size r off rfl).trans h1,h2⟩
theorem TRel.mono{S:Loc->Prop}{X X':Cx}(h:Ev S X X'){base:Nat}{L:Loc}(hS:S L){d:TV}{v:Value}(hv:TRel X base L d v):TRel X' base L d v:=by
 cases d with
 |p x=>exact Flat.mono h.keeps hv
 |ow size n rows=>exact OwRel.mono h hS hv
theorem RRel.mono{X X':Cx}(hk:Keeps X.M X.w X'.M X'.w)(hz:∀g,SzAt X.w X'.w g){c:RfV}{v:Value}(hρ:∀k,c.ment k=true->X'.ρ k=X.ρ k)(h:RRel X c v):RRel X' c v:=by
 cases c with
 |p x=>exact Flat.mono hk h
 |addr k size r off=>obtain⟨blk,h1,h2⟩:=h;exact⟨blk,(hρ k (by simp[RfV.ment])).trans h1,h2⟩
 |bs k size _ lo n=>
  obtain⟨blk,cap,h1,h2,h3,⟨cs,ty,h4,h5⟩,h6⟩:=h;obtain⟨cs',ty',e1,e2⟩:=hz blk cs ty h4;exact⟨blk,cap,(hρ k (by simp[RfV.ment])).trans h1,h2,h3,⟨cs',ty',e1,by rw[e2];exact h5⟩,h6⟩
 |mh k=>obtain⟨blk,h1,h2⟩:=h;exact⟨blk,(hρ k (by simp[RfV.ment])).trans h1,h2⟩
theorem VRel.mono{S:Loc->Prop}(hc:∀L j,S L->S (.comp L j)){X X':Cx}(h:Ev S X X'){base:Nat}{L:Loc}(hS:S L){d:DV}{v:Value}
  (hρ:∀k,d.ment k=true->X'.ρ k=X.ρ k) (hv:VRel X base L d v):VRel X' base L d v:=by
 cases d with
 |top=>trivial
 |p x=>exact Flat.mono h.keeps hv
 |ow size n rows=>exact OwRel.mono h hS hv
 |tup ds=>
  obtain⟨vs,h1,h2,h3⟩:=hv;exact⟨vs,h1,h2,fun j d u hd hu=>TRel.mono h (hc L j hS) (h3 j d u hd hu)⟩
 |addr k size r off=>obtain⟨blk,h1,h2⟩:=hv;exact⟨blk,(hρ k (by simp[DV.ment])).trans h1,h2⟩
 |bs k size _ lo n=>
  obtain⟨blk,cap,h1,h2,h3,⟨cs,ty,h4,h5⟩,h6⟩:=hv;obtain⟨cs',ty',e1,e2⟩:=h.sz blk cs ty h4;exact⟨blk,cap,(hρ k (by simp[DV.ment])).trans h1,h2,h3,⟨cs',ty',e1,by rw[e2];exact h5⟩,h6⟩
 |mh k=>obtain⟨blk,h1,h2⟩:=hv;exact⟨blk,(hρ k (by simp[DV.ment])).trans h1,h2⟩
 |ob T=>exact ObRel.mono hc h hS hv
 |pk o=>cases o<;>exact hv
 |agd cs=>
  obtain⟨vs,h1,h2,h3⟩:=hv;refine⟨vs,h1,h2,fun j c u hj hu=>⟨(h3 j c u hj hu).1.mono h.keeps h.sz fun k hk=>hρ k ?_,(h3 j c u hj hu).2⟩⟩
  simp only[DV.ment,List.any_eq_true];exact⟨c,cD hj,hk⟩
 |fn f caps=>
  obtain⟨vs,h1,h2,h3⟩:=hv;refine⟨vs,h1,h2,fun j c u hj hu=>CRel.mono h.keeps (fun k size r off e=>hρ k ?_) (h3 j c u hj hu)⟩
  subst e;simp only[DV.ment,List.any_eq_true];exact⟨_,cD hj,by simp⟩
theorem OwRel.flat{X:Cx}{base:Nat}{L:Loc}{size:Nat}{n:Bool}{rows:List PV}{v:Value}(h:OwRel X base L size n rows v):Flat X.M X.w (.sl size n rows) v:=by
 rcases h with ⟨rfl,⟨rfl,rfl⟩|⟨rfl,b,o,rfl⟩⟩|⟨rfl,g,cap,cur,ty,h1,h2,h3,h4,h5,h6,h7⟩
 ·exact .nilsl _
 ·exact .sl size [] b o 0 (fun _=>undef) (Nat.le_refl _) (Nat.zero_le _) (fun j hj=>by simp at hj) (fun _ h=>by simp at h) (fun _ h=>by simp at h) (fun _ _ _ _ h=>by simp at h)
 ·exact h6
theorem TRel.copy{X:Cx}{base:Nat}{L:Loc}{d:TV}{v:Value}(h:TRel X base L d v)(L':Loc):TRel X base L' d.copy v:=by
 cases d with
 |p x=>exact h
 |ow size n rows=>exact OwRel.flat h
theorem VRel.copy{X:Cx}{base:Nat}{L:Loc}{d:DV}{v:Value}(h:VRel X base L d v)(L':Loc):VRel X base L' d.copy v:=by
 cases d with
 |ow size n rows=>exact OwRel.flat h
 |tup ds=>
  obtain⟨vs,h1,h2,h3⟩:=h;refine⟨vs,h1,by simp[h2],fun j d u hd hu=>?_⟩
  rw[List.getElem?_map] at hd
  cases hj:ds[j]? with
  |none=>rw[hj] at hd;simp at hd
  |some d0=>rw[hj] at hd;simp at hd;subst hd;exact TRel.copy (h3 j d0 u hj hu) _
 |top=>trivial
 |p x=>exact h
 |addr k size r off=>exact h
 |bs k size _ lo n=>exact h
 |mh k=>exact h
 |ob T=>
  cases T with
  |p x=>trivial
  |mp ks vs=>trivial
  |ch c l=>trivial
  |ptr cells=>cases h with|ptr _ _ g cs ty h1 h2 h3 h4 h5 h6 h7=>exact⟨_,rfl⟩
  |sl size nl rows=>cases h with
   |nils=>exact⟨Nat.zero_le _,_,_,rfl⟩
   |sl _ _ _ g cap cs ty h1 h2 h3 h4 h5 h6 h7 h8 h9 h10=>exact⟨Nat.le_trans h5 h6,_,_,rfl⟩
 |pk o=>cases o<;>exact h
 |agd cs=>exact h
 |fn f caps=>exact h
open Go.RowKit
inductive O where
 |t (n:Nat)
 |c (d:DV)
def O.val(t:List DV):O->DV
 | .t n=>aT t n
 | .c d=>d
inductive KO where
 |ldo (j:Nat) (ag:Bool)
 |callo (f:FuncId) (gr:Bool)
 |callvo (gr:Bool)
 |bldo (zero:List PV) (offs:List (Nat×Nat))
 |eqp (neq:Bool)
 |appd (size bytes:Nat) (ag:Bool)
 |bsld (size n:Nat) (ag:Bool)
 |slx (size:Nat)
 |lookx (q:Option IntKind) (zero:PV) (ok:Bool)
 |mupx (q:Option IntKind)
 |mdel (q:Option IntKind)
 |mlen
 |callr (f:FuncId)
 |mpe (q:Option IntKind)
 |ents
 |lda (n:Nat)
inductive Kd where
 |mov (take:Bool)
 |pick
 |box (k size:Nat)
 |alloc (k size:Nat) (zero:List DV)
 |build (zero:List PV) (offs:List (Nat×Nat))
 |bsl (size n:Nat)
 |load (n:Nat) (isAgg take:Bool)
 |loadp (n:Nat) (isAgg:Bool)
 |store (n:Nat)
 |bin (op:BinOp)
 |eqnil (neq:Bool)
 |un (op:UnOp)
 |conv (k:IntKind)
 |fad (off:Nat)
 |fld (off n:Nat) (isAgg:Bool)
 |iad (size:Nat)
 |sidx
 |len
 |lenD
 |slen
 |app (size bytes:Nat)
 |ext (j:Nat)
 |extp (j:Nat)
 |call (f:FuncId)
 |callv
 |mkfn (f:FuncId)
 |mksl (k size bytes:Nat) (isAgg:Bool) (zero:List DV)
 |slc (size:Nat) (lo hi:Bool)
 |ssl (lo hi:Bool)
 |slb (k size:Nat)
 |callm (f:FuncId) (k:Nat)
 |stk
 |eqat (neq:Bool)
 |eqs (n:Nat) (neq:Bool)
 |eqb (neq:Bool)
 |mkz (size bytes:Nat) (row:PV)
 |s2b
 |mkmap (k:Nat)
 |look (q:IntKind) (zero:PV)
 |mupd (q:IntKind)
 |nilchk
 |mn
 |mx
 | «at» (k:Nat) (κ:Kd)
 |pl (κ:Kd)
 |ob (κ:KO)
structure Ins where
 d:Option Nat
 g:Option (Nat×Bool)
 k:Kd
 xs:List O
def uK:DV->Option PV
 | .p x=>some x
 | .ow size n rows=>some (.sl size n rows)
 |_=>none
def cH:List DV->Option (List PV)
 |[]=>some []
 |d ::ds=>match uK d,cH ds with
  |some x,some xs=>some (x ::xs)
  |_,_=>none
def fA:List DV->Option (List PV)
 |[]=>some []
 | .p x ::ds=>match fA ds with
  |some xs=>some (x ::xs)
  |none=>none
 |_ ::_=>none
def fZ(isAgg:Bool):List (List DV)->Option (List PV)
 |[]=>some []
 |row ::rs=>match fA row,fZ isAgg rs with
  |some cs,some xs=>some ((if isAgg then .agg cs else cs.headD (.bool false)) ::xs)
  |_,_=>none
def CapV.frz(b:List (Option Box)):CapV->Option PV
 | .p x=>some x
 | .addr k size r off=>match bF b k with
  |some bx=>if bx.live then none else match fA bx.rows.flatten with
   |some cs=>some (.ptr cs (r*size+off))
   |none=>none
  |none=>none
def mR(b:List (Option Box)):List CapV->Option (List PV)
 |[]=>some []
 |c ::cs=>match c.frz b,mR b cs with
  |some x,some xs=>some (x ::xs)
  |_,_=>none
def YU(b:List (Option Box))(k size:Nat)(isAgg:Bool)(lo n:Nat):Option PV:=match bF b k with
 |some bx=>if bx.live=false/\(isAgg=true\/size=1)/\size=bx.size/\lo=0/\n=bx.rows.length then match fZ isAgg bx.rows with
  |some rows=>some (.sl size false rows)
  |none=>none
  else none
 |none=>none
def RfV.frz(b:List (Option Box)):RfV->Option PV
 | .p x=>some x
 | .addr k size r off=>CapV.frz b (.addr k size r off)
 | .bs k size ag lo n=>YU b k size ag lo n
 | .mh _=>none
def wD(b:List (Option Box)):List RfV->Option (List PV)
 |[]=>some []
 |c ::cs=>match c.frz b,wD b cs with
  |some x,some xs=>some (x ::xs)
  |_,_=>none
def DV.frz(b:List (Option Box)):DV->Option PV
 | .p x=>some x
 | .ow size n rows=>some (.sl size n rows)
 | .addr k size r off=>CapV.frz b (.addr k size r off)
 | .bs k size isAgg lo n=>match bF b k with
  |some bx=>if bx.live=false/\(isAgg=true\/size=1)/\size=bx.size/\lo=0/\n=bx.rows.length then match fZ isAgg bx.rows with
   |some rows=>some (.sl size false rows)
   |none=>none
   else none
  |none=>none
 | .fn f caps=>match mR b caps with
  |some xs=>some (.fn f xs)
  |none=>none
 | .agd cs=>match wD b cs with
  |some xs=>some (.agg xs)
  |none=>none
 |_=>none
def lH(b:List (Option Box)):List DV->Option (List PV)
 |[]=>some []
 |d ::ds=>match d.frz b,lH b ds with
  |some x,some xs=>some (x ::xs)
  |_,_=>none
def DV.plain:DV->Bool
 | .p _ | .ow _ _ _ | .tup _=>true
 |_=>false
def B6(P:Program)(f:FuncId):Prop:=∃fn,P.funcs[f]?=some fn/\fn.body.isSome=true/\fn.name ≠ "runtime.NumGoroutine"
def aB(P:Program)(f:FuncId)(args:List PV)(r:DV):Prop :=
 r.plain=true/\∀(M0:Nat->Nat->Prop) (w:World) (cargs:Array Value),cargs.size=args.length ->
  (∀(j:Nat) x v,args[j]?=some x->cargs[j]?=some v->Flat M0 w x v) ->
  (B6 P f /\ Calls P f cargs w fun e w' => ∃ v X, e = .returned v /\ X.w = w' /\ VRel X w.heap.size (.tmp 0) r v /\ (∀ b, b < w.heap.size -> ∀ o, X.M b o ↔ M0 b o) /\
   Below w.heap.size w w') \/
  ∃v X,(callFunc f cargs).run P w=.ok (.value v) X.w/\VRel X w.heap.size (.tmp 0) r v/\(∀b,b<w.heap.size->∀o,X.M b o↔M0 b o)/\Below w.heap.size w X.w
def xY:List DV->Bool
 |[]=>true
 |d ::ds=>d.isP&&xY ds
def c9:List (List DV)->Bool
 |[]=>true
 |r ::rs=>xY r&&c9 rs
def FY(M0:Nat->Nat->Prop)(w:World)(blk:Nat):Cx :=
 {ρ := fun i => if i = 0 then some blk else none
  own:=fun g=>if g=blk then some (.box 0) else none
  M:=M0
  w:=w
  ex:=fun i=>if i=0 then some blk else none }
def EU(P:Program)(f:FuncId)(size:Nat)(args:List DV)(rows rows':List (List DV))(r:DV):Prop :=
 B6 P f/\r.plain=true/\c9 rows'=true/\∀(M0:Nat->Nat->Prop) (w:World) (cargs:Array Value) (blk:Nat) (cs:Array Value) (ty:TypeId),cargs.size=args.length ->
  BoxRel (FY M0 w blk) w.heap.size 0 ⟨true,size,rows,true⟩ blk cs ty ->
  (∀(i:Nat) d v,args[i]?=some d->cargs[i]?=some v->VRel (FY M0 w blk) w.heap.size (.tmp i) d v) ->
  Calls P f cargs w fun e w'=>∃v X cs' ty',e=.returned v/\X.w=w'/\VRel X w.heap.size (.tmp 0) r v/\BoxRel X w.heap.size 0 ⟨true,size,rows',true⟩ blk cs' ty' /\
   (∀b,b<w.heap.size->b≠blk->∀o,X.M b o↔M0 b o)/\BelowX (fun i=>if i=0 then some blk else none) w.heap.size w w'
def rA(ν:Nat->Option Nat):List CapV->Option (List CapV)
 |[]=>some []
 | .p x ::cs=>match rA ν cs with
  |some l=>some (.p x ::l)
  |none=>none
 | .addr k sz r o ::cs=>match ν k,rA ν cs with
  |some k',some l=>some (.addr k' sz r o ::l)
  |_,_=>none
def cF(ν:Nat->Option Nat):DV->DV
 | .p x=>.p x
 | .ow size nl rows=>.p (.sl size nl rows)
 | .addr k sz r o=>match ν k with
  |some k'=>.addr k' sz r o
  |none=>.top
 | .bs k sz ag lo n=>match ν k with
  |some k'=>.bs k' sz ag lo n
  |none=>.top
 | .mh k=>match ν k with
  |some k'=>.mh k'
  |none=>.top
 | .fn f caps=>match rA ν caps with
  |some l=>.fn f l
  |none=>.top
 | .ob T=>.ob T
 |_=>.top
def uM(ν:Nat->Option Nat):List DV->List DV
 |[]=>[]
 |d ::ds=>cF ν d ::uM ν ds
def lS(ν:Nat->Option Nat):List (List DV)->List (List DV)
 |[]=>[]
 |r ::rs=>uM ν r ::lS ν rs
def dH(ν:Nat->Option Nat)(rows:List (List DV)):List (List DV):=bif c9 rows then rows else lS ν rows
def t6(ν:Nat->Option Nat)(r:DV):DV:=if r.plain then r else cF ν r
def oB:List CapV->List Nat->List Nat
 |[],l=>l
 | .addr k _ _ _ ::cs,l=>k ::oB cs l
 |_ ::cs,l=>oB cs l
def nT:DV->List Nat->List Nat
 | .addr k _ _ _,l | .bs k _ _ _ _,l | .mh k,l=>k ::l
 | .fn _ caps,l=>oB caps l
 |_,l=>l
def IK:List DV->List Nat->List Nat
 |[],l=>l
 |d ::ds,l=>nT d (IK ds l)
def pM:List (List DV)->List Nat->List Nat
 |[],l=>l
 |r ::rs,l=>IK r (pM rs l)
def oP(k:Nat):List Nat->Bool
 |[]=>false
 |q ::l=>if Nat.beq k q then true else oP k l
def eH:List (Option Box)->Nat->Option Box
 |[],_=>none
 |x ::_,0=>x
 |_ ::xs,n+1=>eH xs n
def dU(b:List (Option Box)):Nat->List Nat->List Nat->List Nat
 |0,_,ks=>ks
 |_+1,[],ks=>ks
 |n+1,k ::ws,ks=>if oP k ks then dU b n ws ks else match eH b k with
  |some bx=>if bx.live then dU b n (bif c9 bx.rows then ws else pM bx.rows ws) (ks++[k]) else dU b n ws ks
  |none=>dU b n ws ks
def kQ(k:Nat):List Nat->Nat->Nat
 |[],i=>i
 |q ::ks,i=>if Nat.beq q k then i else kQ k ks (i+1)
def F9(ks:List Nat)(k:Nat):Option Nat:=if oP k ks then some (kQ k ks 0) else none
def mL:List Nat->Nat->Nat->Nat
 |[],L,i=>L+i
 |k ::_,_,0=>k
 |_ ::ks,L,i+1=>mL ks L i
def DK(ks:List Nat)(L m:Nat)(i:Nat):Option Nat:=if Nat.blt i m then some (mL ks L i) else none
structure Hand (X:Cx) (bs:List Box):Prop where
 full:∀j g,X.ex j=some g->∀o,X.M g o
 boxes:∀(i:Nat) bx,bs[i]?=some bx->BX X X.w.heap.size i bx
structure Back (X X':Cx) (m:Nat) (bs':List (Option Box)) (r:DV) (v:Value):Prop where
 ex:X'.ex=X.ex
 val:VRel X' X.w.heap.size (.tmp 0) r v
 boxes:∀(i:Nat) bx,bs'[i]?=some (some bx)->bx.live=true/\BX X' X.w.heap.size i bx
 rho:∀i,i<m->X'.ρ i=X.ρ i
 mem:∀b,b<X.w.heap.size->(∀j,X.ex j≠some b)->∀o,X'.M b o↔X.M b o
 below:BelowX X.ex X.w.heap.size X.w X'.w
def DV.isRef:DV->Bool
 | .addr _ _ _ _ | .bs _ _ _ _ _ | .mh _=>true
 |_=>false
def aM(P:Program)(f:FuncId)(args:List DV)(bs:List Box)(bs':List (Option Box))(r:DV):Prop :=
 B6 P f/\(r.plain=true\/r.isRef=true)/\bs.length<=bs'.length /\
 ∀(X:Cx) (cargs:Array Value),cargs.size=args.length->Hand X bs->(∀(i:Nat) d v,args[i]?=some d->cargs[i]?=some v->VRel X X.w.heap.size (.tmp i) d v) ->
  Calls P f cargs X.w fun e w'=>∃v X',e=.returned v/\X'.w=w'/\Back X X' bs.length bs' r v
def iM(b:List (Option Box)):List DV->List Nat
 |[]=>[]
 |d ::ds=>match d.frz b with
  |some _=>iM b ds
  |none=>nT d (iM b ds)
def sJ(b:List (Option Box))(xs:List DV):List Nat:=dU b 4000 (iM b xs) []
def DV.isRefF:DV->Bool
 | .addr _ _ _ _ | .bs _ _ _ _ _ | .mh _ | .fn _ _=>true
 |_=>false
def lD(b:List (Option Box))(ν:Nat->Option Nat):List DV->Option (List DV)
 |[]=>some []
 |d ::ds=>match lD b ν ds with
  |some xs=>match d.frz b with
   |some x=>some (.p x ::xs)
   |none=>if d.isRefF then some (cF ν d ::xs) else none
  |none=>none
def CM(b:List (Option Box))(ν:Nat->Option Nat)(k:Nat):Box :=
 match eH b k with
 |some bx=>⟨true,bx.size,dH ν bx.rows,true⟩
 |none=>⟨true,1,[],true⟩
def kO(b:List (Option Box))(ν:Nat->Option Nat):List Nat->List Box
 |[]=>[]
 |k ::ks=>CM b ν k ::kO b ν ks
def qB(b:List (Option Box))(k:Nat):Bool :=
 match eH b k with
 |some bx=>bx.old
 |none=>false
def oC(ν:Nat->Option Nat)(old:Bool):Option Box->Option Box
 |some bx=>some ⟨true,bx.size,dH ν bx.rows,old⟩
 |none=>none
def vT(ν:Nat->Option Nat):List (Option Box)->List (Option Box)
 |[]=>[]
 |x ::l=>oC ν false x ::vT ν l
def fR(ν:Nat->Option Nat):List Nat->List (Option Box)->List (Option Box)->List (Option Box)
 |[],l,b=>b++vT ν l
 |k ::ks,x ::l,b=>fR ν ks l (aF b k (oC ν (qB b k) x))
 |_ ::_,[],b=>b
def mU:List CapV->List DV
 |[]=>[]
 | .p x ::cs=>.p x ::mU cs
 | .addr k sz r o ::cs=>.addr k sz r o ::mU cs
def nN(n:Nat):List CapV->Bool
 |[]=>true
 | .addr k _ _ _ ::cs=>Nat.blt k n&&nN n cs
 |_ ::cs=>nN n cs
def GL(n:Nat):List DV->Bool
 |[]=>true
 | .addr k _ _ _ ::l | .bs k _ _ _ _ ::l | .mh k ::l=>Nat.blt k n&&GL n l
 |_ ::l=>GL n l
def M6(n:Nat):DV->Bool
 | .addr k _ _ _ | .bs k _ _ _ _ | .mh k=>Nat.blt k n
 | .fn _ caps=>nN n caps
 | .agd cs=>GL n (BB cs)
 |_=>true
def wK(n:Nat):List DV->Bool
 |[]=>true
 |d ::ds=>M6 n d&&wK n ds
def HS(n:Nat):List (List DV)->Bool
 |[]=>true
 |r ::rs=>wK n r&&HS n rs
def MT(n:Nat)(rows:List (List DV)):Bool:=bif c9 rows then true else HS n rows
def C4(n:Nat):List (Option Box)->Bool
 |[]=>true
 |some bx ::l=>MT n bx.rows&&C4 n l
 |none ::l=>C4 n l
def dN:Option IntKind->TypeDesc
 |some q=>.int q
 |none=>.string
def dK:Option IntKind->PV->Bool
 |some q,.int q' _=>decide (q'=q)
 |none,.str _=>true
 |_,_=>false
def fX:PV->PV->Bool
 | .int _ x,.int _ n=>decide (n=x)
 | .str s,.str u=>decide (u.data.toList=s.data.toList)
 |_,_=>false
def r9(q:Option IntKind)(x:PV):List (List DV)->Option (Option DV)
 |[]=>some none
 |[.p k,d] ::rs=>if dK q k=true then (if fX x k=true then some (some d) else r9 q x rs) else none
 |_=>none
def CK(q:Option IntKind)(x:PV)(v:DV):List (List DV)->Option (List (List DV))
 |[]=>some [[.p x,v]]
 |[.p k,u] ::rs=>if dK q k=true then (if fX x k=true then some ([.p k,v] ::rs) else match CK q x v rs with
  |some l=>some ([.p k,u] ::l)
  |none=>none) else none
 |_=>none
def AJ(q:Option IntKind)(x:PV):List (List DV)->Option (List (List DV))
 |[]=>some []
 |[.p k,u] ::rs=>if dK q k=true then (if fX x k=true then some rs else match AJ q x rs with
  |some l=>some ([.p k,u] ::l)
  |none=>none) else none
 |_=>none
def N7:DV->Option RfV
 | .p x=>some (.p x)
 | .ow sz nl rows=>some (.p (.sl sz nl rows))
 | .addr k sz r o=>some (.addr k sz r o)
 | .bs k sz ag lo n=>some (.bs k sz ag lo n)
 | .mh k=>some (.mh k)
 |_=>none
def pW:List DV->Option (List RfV)
 |[]=>some []
 |d ::ds=>match N7 d,pW ds with
  |some x,some xs=>some (x ::xs)
  |_,_=>none
def cX(q:Option IntKind)(x:PV):List (List DV)->Option (PV×Int)
 |[.p k,.p v,.p (.int .i64 s)] ::rs=>if dK q k=true then (if fX x k=true then some (v,s) else cX q x rs) else none
 |_=>none
def fW(s:Int)(d:DV):List (List DV)->Option (List (List DV))
 |[.p k,u,.p (.int .i64 s')] ::rs=>if s'=s then some ([.p k,d,.p (.int .i64 s')] ::rs) else match fW s d rs with
  |some l=>some ([.p k,u,.p (.int .i64 s')] ::l)
  |none=>none
 |_=>none
@[irreducible] def f8 (q:Option IntKind) (x:PV) (rows:List (List DV)):Option (PV×Int):=cX q x rows
@[irreducible] def iW (s:Int) (d:DV) (rows:List (List DV)):Option (List (List DV)):=fW s d rows
def J5(k:Nat)(b:List (Option Box)):DV->Option DV
 | .bs k' sz ag lo n=>if k'=k then some (.bs 0 sz ag lo n) else none
 | .addr k' sz r o=>if k'=k then some (.addr 0 sz r o) else none
 |d=>match d.frz b with
  |some x=>some (.p x)
  |none=>none
def tM(k:Nat)(b:List (Option Box)):List DV->Option (List DV)
 |[]=>some []
 |d ::ds=>match J5 k b d,tM k b ds with
  |some x,some xs=>some (x ::xs)
  |_,_=>none
def aL(op:BinOp)(k:IntKind)(x y:Int):Int :=
 let a:=BitVec.ofInt k.bits x
 let b:=BitVec.ofInt k.bits y
 match op with
 | .and=>k.wrap (a &&& b).toNat
 | .or=>k.wrap (a ||| b).toNat
 | .xor=>k.wrap (a ^^^ b).toNat
 |_=>k.wrap (a &&& ~~~b).toNat
def jH(op:BinOp)(x y:PV)(K:PV->Prop):Prop :=
 match x,y with
 | .int k a,.int k' b=>match op with
  | .add=>k=k'/\K (.int k (k.wrap (a+b)))
  | .sub=>k=k'/\K (.int k (k.wrap (a-b)))
  | .mul=>k=k'/\K (.int k (k.wrap (a*b)))
  | .quo=>k=k'/\b≠0/\K (.int k (k.wrap (a.tdiv b)))
  | .rem=>k=k'/\b≠0/\K (.int k (a.tmod b))
  | .and=>k=k'/\K (.int k (aL .and k a b))
  | .or=>k=k'/\K (.int k (aL .or k a b))
  | .xor=>k=k'/\K (.int k (aL .xor k a b))
  | .andNot=>k=k'/\K (.int k (aL .andNot k a b))
  | .shl=>0<=b/\K (.int k (k.wrap (a*2 ^ (min b.toNat k.bits))))
  | .shr=>0<=b/\K (.int k (a.fdiv (2 ^ (min b.toNat k.bits))))
  | .eql=>k=k'/\K (.bool (a ==b))
  | .neq=>k=k'/\K (.bool (a !=b))
  | .lss=>k=k'/\K (.bool (decide (a<b)))
  | .leq=>k=k'/\K (.bool (decide (a<=b)))
  | .gtr=>k=k'/\K (.bool (decide (a>b)))
  | .geq=>k=k'/\K (.bool (decide (a≥b)))
 | .str a,.str b=>match op with
  | .eql=>K (.bool (a.toList ==b.toList))
  | .neq=>K (.bool !(a.toList ==b.toList))
  | .add=>(a.size+b.size<=140737488355328)/\K (.str (a++b))
  |_=>False
 |_,_=>False
def rE:List PV->Nat->List PV->List PV
 |l,_,[]=>l
 |l,o,c ::cs=>rE (aF l o c) (o+1) cs
def oW:List PV->List (Nat×Nat)->List PV->Option (List PV)
 |z,[],[]=>some z
 |z,o ::os,x ::xs=>if (aE x).length=o.2 then oW (rE z o.1 (aE x)) os xs else none
 |_,_,_=>none
def rJ:List PV->Nat->Nat->List PV
 |_,_,0=>[]
 |[],_,_=>[]
 |x ::xs,0,n+1=>x ::rJ xs 0 n
 |_ ::xs,o+1,n+1=>rJ xs o (n+1)
def eW:List DV->Nat->Nat->List DV
 |_,_,0=>[]
 |[],_,_=>[]
 |x ::xs,0,n+1=>x ::eW xs 0 n
 |_ ::xs,o+1,n+1=>eW xs o (n+1)
def iR:List DV->Nat->List DV->List DV
 |l,_,[]=>l
 |l,o,c ::cs=>iR (aF l o c) (o+1) cs
def kW:List DV->List DV
 |[]=>[]
 |d ::ds=>d.copy ::kW ds
def aK:DV->Option (List DV)
 | .p x=>some ((aE x).map .p)
 | .top=>none
 | .tup _=>none
 | .ob _=>none
 | .pk _=>none
 | .agd cs=>some (BB cs)
 |d=>some [d]
def mP(q:IntKind)(x:Int):List (List DV)->Option (Option PV)
 |[]=>some none
 |[.p (.int q' n),.p v] ::rs=>if q'=q then (if n=x then some (some v) else mP q x rs) else none
 |_=>none
def vU(q:IntKind)(x:Int)(v:PV):List (List DV)->Option (List (List DV))
 |[]=>some [[.p (.int q x),.p v]]
 |[.p (.int q' n),.p u] ::rs=>if q'=q then (if n=x then some ([.p (.int q' n),.p v] ::rs) else match vU q x v rs with
  |some l=>some ([.p (.int q' n),.p u] ::l)
  |none=>none) else none
 |_=>none
def gB(cells:List PV)(off n:Nat)(isAgg:Bool)(K:PV->Prop):Prop :=
 if isAgg then off+n<=cells.length/\K (.agg (rJ cells off n))
 else ∃c,cells[off]?=some c/\K c
def fP:DV->Option Nat
 | .p (.sl _ _ rows)=>some rows.length
 | .ow _ _ rows=>some rows.length
 | .bs _ _ _ _ n=>some n
 | .pk (some n)=>some n
 |_=>none
def TV.dv:TV->DV
 | .p x=>.p x
 | .ow size n rows=>.ow size n rows
def E7:List PV->List PV->Option Bool
 |[],[]=>some true
 | .int k a ::xs,.int k' b ::ys=>if k=k' then match E7 xs ys with
  |some r=>some ((a ==b)&&r)
  |none=>none
  else none
 |_,_=>none
def BK(j:Nat)(ag:Bool)(T:Ob)(K0:PV->Prop)(K:DV->Box->Prop):Prop :=
 match T with
 | .ptr cells=>match cells with
  |[]=>False
  |_ ::_=>K (.addr j cells.length 0 0) ⟨true,cells.length,[EX cells],false⟩
 | .sl size nl rows=>match size with
  |0=>False
  |_+1=>match nl with
   |true=>K0 (.sl size true [])
   |false=>K (.bs j size ag 0 rows.length) ⟨true,size,eV rows,false⟩
 | .mp keys vals=>K (.mh j) ⟨true,0,rS keys vals,false⟩
 |_=>False
def o5:List PV->List (List DV)
 |[]=>[]
 |x ::xs=>(aE x).map DV.p ::o5 xs
def aW:List (List DV)->List (List DV)
 |[]=>[]
 |r ::rs=>kW r ::aW rs
def iG(b:List (Option Box))(size:Nat):DV->Option (List (List DV))
 | .bs k sz _ lo n=>match bF b k with
  |some bx=>if bx.live=true/\sz=size/\bx.size=size/\lo=0/\n=bx.rows.length then some (aW bx.rows) else none
  |none=>none
 |y=>match y.frz b with
  |some (.sl sz _ rows)=>if sz=size\/rows=[] then some (o5 rows) else none
  |_=>none
def j6:List PV->List RfV
 |[]=>[]
 |x ::xs=>.p x ::j6 xs
def rB:List RfV->Nat->List RfV->List RfV
 |l,_,[]=>l
 |l,o,c ::cs=>rB (aF l o c) (o+1) cs
def qY:DV->Option (List RfV)
 | .p x=>some (j6 (aE x))
 | .ow size nl rows=>some [.p (.sl size nl rows)]
 | .addr k sz r o=>some [.addr k sz r o]
 | .bs k sz ag lo n=>some [.bs k sz ag lo n]
 | .mh k=>some [.mh k]
 |_=>none
def pA:List RfV->List (Nat×Nat)->List DV->Option (List RfV)
 |z,[],[]=>some z
 |z,o ::os,x ::xs=>match qY x with
  |some cs=>if cs.length=o.2 then pA (rB z o.1 cs) os xs else none
  |none=>none
 |_,_,_=>none
def callO(P:Program)(f:FuncId)(gr:Bool)(xs:List DV)(b:List (Option Box))(K:DV->List (Option Box)->Prop):Prop :=
 match lD b (F9 (sJ b xs)) xs with
 |some args=>∃bs' r,aM P f args (kO b (F9 (sJ b xs)) (sJ b xs)) bs' r/\(gr=true\/bs'.length=(sJ b xs).length) /\
   K (t6 (DK (sJ b xs) b.length bs'.length) r) (fR (DK (sJ b xs) b.length bs'.length) (sJ b xs) bs' b)
 |none=>False
def bB(P:Program)(κ:KO)(vs:List DV)(b:List (Option Box))(K:DV->List (Option Box)->Prop):Prop :=
 match κ,vs with
 | .ldo j ag,[.addr k sz r off]=>match bF b k with
  |some bx=>sz=bx.size/\∃row,bx.rows[r]?=some row/\∃d,row[off]?=some d/\match d with
   | .ob T=>bx.live=true/\j≠k/\BK j ag T (fun x=>K (.p x) b) fun d' bx'=>K d' (aF (aF b k (some { bx with rows:=aF bx.rows r (aF row off d') })) j (some bx'))
   |d=>K d.copy b
  |none=>False
 | .ldo _ _,[.p (.ptr cells off)]=>∃c,cells[off]?=some c/\K (.p c) b
 | .callo f gr,xs=>callO P f gr xs b K
 | .callvo gr,fx ::xs=>match fx with
  | .fn f caps=>callO P f gr (xs++mU caps) b K
  |_=>False
 | .bldo zero offs,xs=>match pA (j6 zero) offs xs with
  |some cs=>K (.agd cs) b
  |none=>False
 | .eqp neq,[x,.p (.atom (.pointer none))]=>match x with
  | .addr _ _ _ _=>K (.p (.bool neq)) b
  | .p (.atom (.pointer none))=>K (.p (.bool (!neq))) b
  | .p (.ptr _ _)=>K (.p (.bool neq)) b
  | .pk none=>K (.p (.bool neq)) b
  |_=>False
 | .appd size bytes ag,[x,y]=>match iG b size y with
  |some new=>match x with
   | .p (.sl sz true [])=>sz=size/\new.length*bytes<=140737488355328/\new.length<=maxLen/\(new=[]->K (.p (.sl size true [])) b) /\
     (new≠[]->K (.bs b.length size ag 0 new.length) (b++[some ⟨true,size,new,false⟩]))
   | .bs k sz _ lo n=>match bF b k with
    |some bx=>bx.live=true/\sz=size/\bx.size=size/\lo=0/\n=bx.rows.length/\(bx.rows.length+new.length)*bytes<=140737488355328/\bx.rows.length+new.length<=maxLen /\ 
      K (.bs b.length size ag 0 (bx.rows.length+new.length)) (aF b k none++[some ⟨true,size,aW bx.rows++new,false⟩])
    |none=>False
   |_=>False
  |none=>False
 | .bsld size n ag,xs=>size=1/\xs.length=n/\n≠0/\(xs.all DV.isRef)=true/\(xs.all (M6 b.length))=true/\K (.bs b.length 1 ag 0 n) (b++[some ⟨true,1,xs.map fun x=>[x],false⟩])
 | .slx size,[.bs k sz ag lo n,.p (.int _ h)]=>sz=size/\lo=0/\0<=h/\h<=n/\match bF b k with
  |some bx=>sz=bx.size/\bx.live=true/\h<=bx.rows.length/\K (.bs k sz ag 0 h.toNat) (aF b k (some { bx with rows:=bx.rows.take h.toNat }))
  |none=>False
 | .slx size,[.p (.sl sz nl rows),.p (.int _ h)]=>(sz=size\/rows=[])/\0<=h/\h<=rows.length/\K (.p (.sl sz nl (rows.take h.toNat))) b
 | .lookx q zero ok,[.mh k,.p x]=>dK q x=true/\match dV b k with
  |some bx=>match r9 q x bx.rows with
   |some (some d)=>if ok then ∃v,d=.p v/\K (.tup [.p v,.p (.bool true)]) b else K d.copy b
   |some none=>K (if ok then .tup [.p zero,.p (.bool false)] else .p zero) b
   |none=>False
  |none=>False
 | .mupx q,[.mh k,.p x,d]=>dK q x=true/\(d.isRef||d.isP)=true/\match dV b k with
  |some bx=>match CK q x d bx.rows with
   |some rows=>K .top (aF b k (some { bx with rows:=rows }))
   |none=>False
  |none=>False
 | .mdel q,[.mh k,.p x]=>dK q x=true/\match dV b k with
  |some bx=>match AJ q x bx.rows with
   |some rows=>K .top (aF b k (some { bx with rows:=aW rows }))
   |none=>False
  |none=>False
 | .mlen,[.mh k]=>match dV b k with
  |some bx=>K (.p (.int .i64 bx.rows.length)) b
  |none=>False
 | .callr f,xs=>callO P f false xs b fun v b'=>b'=b/\K v b
 | .mpe q,[.mh k,.p x]=>dK q x=true/\match dV b k with
  |some bx=>match f8 q x bx.rows with
   |some (v,s)=>K (.tup [.p v,.p (.int .i64 s)]) b
   |none=>False
  |none=>False
 | .lda n,[.addr k sz r off]=>match bF b k with
  |some bx=>sz=bx.size/\∃row,bx.rows[r]?=some row/\off+n<=row.length/\match pW (eW row off n) with
   |some cs=>K (.agd cs) b
   |none=>False
  |none=>False
 | .ents,[.mh k,.p (.int .i64 s),d]=>(d.isRef||d.isP)=true/\match dV b k with
  |some bx=>match iW s d bx.rows with
   |some rows=>K .top (aF b k (some { bx with rows:=rows }))
   |none=>False
  |none=>False
 |_,_=>False
def aD(P:Program)(κ:Kd)(vs:List DV)(b:List (Option Box))(K:DV->List (Option Box)->Prop):Prop :=
 match κ,vs with
 | .mov take,[x]=>K (if take then x else x.copy) b
 | .pick,[.p (.bool c),x,y]=>(c=true->K x.copy b)/\(c=false->K y.copy b)
 | .box k size,[x]=>match aK x with
  |some cs=>cs.length=size/\x.ment k=false/\K (.addr k size 0 0) (aF b k (some ⟨true,size,[kW cs],false⟩))
  |none=>False
 | .alloc k size zero,[]=>zero.length=size/\K (.addr k size 0 0) (aF b k (some ⟨true,size,[zero],false⟩))
 | .build zero offs,xs=>match cH xs with
  |some ps=>match oW zero offs ps with
   |some cs=>K (.p (.agg cs)) b
   |none=>False
  |none=>False
 | .bsl size n,xs=>match cH xs with
  |some rows=>rows.length=n/\(∀r,r∈rows->(aE r).length=size)/\K (.ow size false rows) b
  |none=>False
 | .load n isAgg take,[.addr k sz r off]=>match bF b k with
  |some bx=>sz=bx.size/\∃row,bx.rows[r]?=some row/\off+n<=row.length /\
    if isAgg then match cH (eW row off n) with
     |some cs=>K (.p (.agg cs)) b
     |none=>False
    else ∃d,row[off]?=some d/\K (if take then d else d.copy) (if take then aF b k (some { bx with rows:=aF bx.rows r (aF row off d.copy) }) else b)
  |none=>False
 | .load n isAgg _,[.p (.ptr cells off)]=>gB cells off n isAgg fun x=>K (.p x) b
 | .loadp n isAgg,[.p (.ptr cells off)]=>gB cells off n isAgg fun x=>K (.p x) b
 | .store n,[.addr k sz r off,v]=>match bF b k,aK v with
  |some bx,some cs=>sz=bx.size/\bx.live=true/\cs.length=n/\∃row,bx.rows[r]?=some row/\off+n<=row.length /\
    K .top (aF b k (some { bx with rows:=aF bx.rows r (iR row off cs) }))
  |_,_=>False
 | .bin op,[.p x,.p y]=>jH op x y fun z=>K (.p z) b
 | .eqnil neq,[x,.ow _ true []]=>match x with
  | .p (.sl _ n _)=>K (.p (.bool (if neq then !n else n))) b
  | .ow _ n _=>K (.p (.bool (if neq then !n else n))) b
  |_=>False
 | .un op,[.p (.bool x)]=>match op with
  | .not=>K (.p (.bool !x)) b
  |_=>False
 | .un op,[.p (.int k x)]=>match op with
  | .neg=>K (.p (.int k (k.wrap (0-x)))) b
  |_=>False
 | .conv k,[.p (.int _ n)]=>K (.p (.int k (k.wrap n))) b
 | .fad off,[.addr k size r o]=>K (.addr k size r (o+off)) b
 | .fad off,[.p (.ptr cells o)]=>K (.p (.ptr cells (o+off))) b
 | .fld off n isAgg,[.p (.agg cs)]=>gB cs off n isAgg fun x=>K (.p x) b
 | .iad size,[x,.p (.int _ i)]=>match x with
  | .p (.sl sz _ rows)=>sz=size/\0<=i/\∃row,rows[i.toNat]?=some row/\K (.p (.ptr (aE row) 0)) b
  | .ow sz _ rows=>sz=size/\0<=i/\∃row,rows[i.toNat]?=some row/\K (.p (.ptr (aE row) 0)) b
  | .bs k sz _ lo n=>sz=size/\0<=i/\i<n/\K (.addr k sz (lo+i.toNat) 0) b
  |_=>False
 | .sidx,[.p (.str s),.p (.int _ i)]=>0<=i/\∃c,s.data.toList[i.toNat]?=some c/\K (.p (.int .u8 c.toNat)) b
 | .len,[x]=>match fP x with
  |some n=>n<=maxLen->K (.p (.int .i64 n)) b
  |none=>False
 | .lenD,[x]=>match fP x with
  |some n=>K (.p (.int .i64 n)) b
  |none=>False
 | .slen,[.p (.str z)]=>K (.p (.int .i64 z.size)) b
 | .app size bytes,[.ow sz nl rows,y]=>match y.frz b with
  |some (.sl sz2 _ rows2)=>(sz=size\/(nl=true/\rows=[]))/\(sz2=size\/rows2=[])/\(rows.length+rows2.length)*bytes<=140737488355328 /\
    rows.length+rows2.length<=maxLen/\K (.ow size (nl&&rows2.isEmpty) (rows++rows2)) b
  |_=>False
 | .app size bytes,[.p (.sl sz true []),y]=>match y.frz b with
  |some (.sl sz2 _ rows2)=>sz=size/\(sz2=size\/rows2=[])/\rows2.length*bytes<=140737488355328/\rows2.length<=maxLen/\K (.ow size rows2.isEmpty rows2) b
  |_=>False
 | .ext j,[.tup ds]=>match ds[j]? with
  |some d=>K d.dv b
  |none=>False
 | .extp j,[.tup ds]=>match ds[j]? with
  |some d=>K d.dv.copy b
  |none=>False
 | .call f,xs=>match lH b xs with
  |some args=>∃r,aB P f args r/\K r b
  |none=>False
 | .callv,fx ::xs=>match fx.frz b,lH b xs with
  |some (.fn f caps),some args=>∃r,aB P f (args++caps) r/\K r b
  |_,_=>False
 | .mkfn f,xs=>match lH b xs with
  |some caps=>K (.p (.fn f caps)) b
  |none=>False
 | .mksl k size bytes isAgg zero,[.p (.int _ n),.p (.int _ m)]=>n=m/\0<=n/\n*bytes<=140737488355328/\n<=maxLen/\zero.length=size /\
   K (.bs k size isAgg 0 n.toNat) (aF b k (some ⟨true,size,List.replicate n.toNat zero,false⟩))
 | .slc size lo hi,x ::ys=>match x with
  | .p (.sl sz nl rows)=>(sz=size\/rows=[])/\match lo,hi,ys with
   |true,true,[.p (.int _ l),.p (.int _ h)]=>0<=l/\l<=h/\h<=rows.length/\K (.p (.sl sz nl ((rows.take h.toNat).drop l.toNat))) b
   |true,false,[.p (.int _ l)]=>0<=l/\l<=rows.length/\K (.p (.sl sz nl (rows.drop l.toNat))) b
   |false,true,[.p (.int _ h)]=>0<=h/\h<=rows.length/\K (.p (.sl sz nl (rows.take h.toNat))) b
   |_,_,_=>False
  |_=>False
 | .ssl lo hi,.p (.str z) ::ys=>match lo,hi,ys with
  |true,true,[.p (.int _ l),.p (.int _ h)]=>0<=l/\l<=h/\h<=z.size/\K (.p (.str (z.extract l.toNat h.toNat))) b
  |true,false,[.p (.int _ l)]=>0<=l/\l<=z.size/\K (.p (.str (z.extract l.toNat z.size))) b
  |false,true,[.p (.int _ h)]=>0<=h/\h<=z.size/\K (.p (.str (z.extract 0 h.toNat))) b
  |_,_,_=>False
 | .slb k size,[.bs k' sz ag lo n,.p (.int _ h)]=>k'=k/\sz=size/\lo=0/\0<=h/\h<=n/\match bF b k with
  |some bx=>h<=bx.rows.length/\K (.bs k sz ag 0 h.toNat) (aF b k (some { bx with rows:=bx.rows.take h.toNat }))
  |none=>False
 | .callm f k,xs=>match bF b k,tM k b xs with
  |some bx,some args=>bx.live=true/\c9 bx.rows=true/\∃rows' r,EU P f bx.size args bx.rows rows' r/\K r (aF b k (some { bx with rows:=rows' }))
  |_,_=>False
 | .mkmap k,[]=>K (.mh k) (aF b k (some ⟨true,0,[],false⟩))
 | .look q zero,[.mh k,.p (.int q' x)]=>q'=q/\match dV b k with
  |some bx=>match mP q x bx.rows with
   |some (some v)=>K (.p v) b
   |some none=>K (.p zero) b
   |none=>False
  |none=>False
 | .mupd q,[.mh k,.p (.int q' x),.p v]=>q'=q/\v.one=true/\match dV b k with
  |some bx=>match vU q x v bx.rows with
   |some rows=>K .top (aF b k (some { bx with rows:=rows }))
   |none=>False
  |none=>False
 | .eqat neq,[.p (.atom .nilIface),.p (.atom .nilIface)]=>K (.p (.bool (!neq))) b
 | .eqs n neq,[.p (.agg xs),.p (.agg ys)]=>xs.length=n/\match E7 xs ys with
  |some r=>K (.p (.bool (if neq then !r else r))) b
  |none=>False
 | .eqb neq,[.p (.bool x),.p (.bool y)]=>K (.p (.bool (if neq then !(x ==y) else x ==y))) b
 | .mkz size bytes row,[.p (.int _ n),.p (.int _ m)]=>n=m/\0<=n/\n*bytes<=140737488355328/\n<=maxLen/\(aE row).length=size /\
   K (.ow size false (List.replicate n.toNat row)) b
 | .s2b,[.p (.str z)]=>z.size<=maxLen/\K (.p (.sl 1 false (z.data.toList.map fun c=>.int .u8 c.toNat))) b
 | .nilchk,[x]=>match x with
  | .addr _ _ _ _=>K x b
  | .p (.ptr _ _)=>K x b
  | .p (.fn _ _)=>K x b
  |_=>False
 | .mn,[.p (.int k x),.p (.int k' y)]=>k=k'/\K (.p (.int k (if y<x then y else x))) b
 | .mx,[.p (.int k x),.p (.int k' y)]=>k=k'/\K (.p (.int k (if y>x then y else x))) b
 | .ob κ,vs=>bB P κ vs b K
 |_,_=>False
def cJ(P:Program)(κ:Kd)(vs:List DV)(b:List (Option Box))(K:DV->List (Option Box)->Prop):Prop :=
 match κ with
 | .at k κ'=>match vs with
  | .addr k' _ _ _ ::_=>k'=k/\aD P κ' vs b K
  |_=>False
 | .pl κ'=>(cH vs).isSome=true/\aD P κ' vs b K
 | κ'=>aD P κ' vs b K
def Kd.core:Kd->Kd
 | .at _ κ => κ
 | .pl κ => κ
 | κ => κ
def fE:Kd->List O->List DV->List DV
 | .mov true,[.t n],t=>aF t n (aT t n).copy
 | .app _ _,.t n ::_,t=>aF t n (aT t n).copy
 | .store _,[_,.t n],t=>aF t n (aT t n).copy
 | .ext j,[.t n],t=>match aT t n with
  | .tup ds=>match ds[j]? with
   |some d=>aF t n (.tup (aF ds j d.copy))
   |none=>t
  |_=>t
 |_,_,t=>t
def aH(t:List DV)(d:Option Nat)(v:DV):List DV :=
 match d with
 |some i=>aF t i v
 |none=>t
def c8(k:Nat):List DV->Bool
 |[]=>true
 |d ::ds => !d.ment k&&c8 k ds
def cZ(k:Nat):List (List DV)->Bool
 |[]=>true
 |r ::rs=>c8 k r&&cZ k rs
def cK(k:Nat):Nat->List (Option Box)->Bool
 |_,[]=>true
 |i,x ::xs=>(i ==k||match x with|some bx=>cZ k bx.rows|none=>true)&&cK k (i+1) xs
def fF:Kd->Option Nat
 | .box k _ | .alloc k _ _ | .mksl k _ _ _ _ | .mkmap k | .ob (.ldo k _)=>some k
 |_=>none
def oK:Kd->Bool
 | .ob (.callo _ true) | .ob (.callvo true) | .ob (.appd _ _ _) | .ob (.bsld _ _ _)=>true
 |_=>false
def fresh(i:Ins)(s:St):Prop :=
 match fF i.k with
 |some k=>k<s.b.length/\c8 k (aH s.t i.d .top)=true/\cK k 0 s.b=true
 |none=>bif oK i.k then (wK s.b.length (aH s.t i.d .top)&&C4 s.b.length s.b)=true else True
def mX(P:Program)(i:Ins)(s:St)(K:St->Prop):Prop :=
 fresh i s/\cJ P i.k (i.xs.map (O.val s.t)) s.b fun v b'=>K ⟨aH (fE i.k.core i.xs s.t) i.d v,b'⟩
def b7(P:Program)(i:Ins)(s:St)(K:St->Prop):Prop :=
 match i.g with
 |none=>mX P i s K
 |some (j,want)=>match aT s.t j with
  | .p (.bool c)=>(c=want->mX P i ⟨aF s.t j (.p (.bool want)),s.b⟩ K)/\(c=(!want)->K ⟨aH (aF s.t j (.p (.bool (!want)))) i.d (.tup []),s.b⟩)
  | .tup []=>K ⟨aH s.t i.d (.tup []),s.b⟩
  |_=>False
def bV(P:Program):List Ins->St->(St->Prop)->Prop
 |[],s,K=>K s
 |i ::is,s,K=>b7 P i s fun s'=>bV P is s' K
open Go.RowKit
variable {P:Program}
def aZ(G:Gl)(K:St->Prop)(a:Act)(w:World):Prop:=∃s X,Rel G X s a/\X.w=w/\K s
theorem Rel.get{G:Gl}{X:Cx}{s:St}{a:Act}(h:Rel G X s a)(n:Nat):VRel X G.base (.tmp n) (aT s.t n) (a.tmps.getD n undef):=by
 rw[cL]
 cases hn:s.t[n]? with
 |none=>trivial
 |some d=>exact h.tmps n d hn
theorem AF(a:Act)(d:Option Nat)(u:Value)(i:Nat):(a.put d u).tmps.getD i undef=if d=some i/\i<a.tmps.size then u else a.tmps.getD i undef:=by
 cases d with
 |none=>simp[Act.put]
 |some j=>
  simp only[Act.put,bQ]
  by_cases hij:j=i
  ·subst hij
   by_cases hlt:j<a.tmps.size
   ·simp[Array.getD,hlt]
   ·simp[Array.getD,hlt]
  ·by_cases hlt:i<a.tmps.size
   ·simp[Array.getD,hlt,hij]
   ·simp[Array.getD,hlt]
theorem CH(a:Act)(d:Option Nat)(u:Value):(a.put d u).tmps.size=a.tmps.size:=by cases d<;>simp[Act.put]
theorem tL(a:Act)(d:Option Nat)(u:Value):(a.put d u).defers=a.defers:=by cases d<;>simp[Act.put]
theorem CA(t:List DV)(d:Option Nat)(v:DV):(aH t d v).length=t.length:=by cases d<;>simp[aH,aI]
theorem JT(t:List DV)(d:Option Nat)(v:DV)(i:Nat):(aH t d v)[i]?=if d=some i then t[i]?.map (fun _=>v) else t[i]?:=by
 cases d with
 |none=>simp[aH]
 |some j=>simp only[aH,getElem?_setL,bQ];by_cases h:i=j<;>simp[h,eq_comm]
theorem Rel.put{G:Gl}{X:Cx}{s:St}{a:Act}(h:Rel G X s a){d:Option Nat}{v:DV}{u:Value}(hv:∀j,d=some j->VRel X G.base (.tmp j) v u) :
  Rel G X ⟨aH s.t d v,s.b⟩ (a.put d u):=by
 refine⟨by rw[tL];exact h.defers,by rw[CH];simp[CA,h.size],?_,h.boxes,h.below,h.hb,h.mold⟩
 intro i e he;simp only[JT] at he;rw[AF]
 by_cases hd:d=some i
 ·rw[if_pos hd] at he
  cases ht:s.t[i]? with
  |none=>rw[ht] at he;simp at he
  |some e0=>
   rw[ht] at he;simp at he;subst he;have hlt:i<s.t.length:=(bM.1 ht).1;rw[if_pos ⟨hd,by rw[h.size];exact hlt⟩]
   exact hv i hd
 ·rw[if_neg hd] at he
  rw[if_neg (fun hh=>hd hh.1)]
  exact h.tmps i e he
theorem Rel.weak{G:Gl}{X:Cx}{s:St}{a:Act}(h:Rel G X s a)(n:Nat)(v:DV)(hv:VRel X G.base (.tmp n) v (a.tmps.getD n undef)):Rel G X ⟨aF s.t n v,s.b⟩ a:=by
 refine⟨h.defers,by simp[aI,h.size],?_,h.boxes,h.below,h.hb,h.mold⟩
 intro i e he;rw[getElem?_setL] at he
 by_cases hi:i=n
 ·subst hi
  rw[if_pos rfl] at he
  cases ht:s.t[i]? with
  |none=>rw[ht] at he;simp at he
  |some e0=>rw[ht] at he;simp at he;subst he;exact hv
 ·rw[if_neg hi] at he
  exact h.tmps i e he
inductive OT:Operand->O->Prop
 |tmp (n:Nat):OT (.tmp n) (.t n)
 |int (k:IntKind) (n:Int):OT (.const (.int k n)) (.c (.p (.int k n)))
 |bool (b:Bool):OT (.const (.bool b)) (.c (.p (.bool b)))
 |str (s:ByteArray):OT (.const (.string s)) (.c (.p (.str s)))
 |nil (n:Nat):OT (.const (.slice none 0 0)) (.c (.ow n true []))
 |nilp (n:Nat):OT (.const (.slice none 0 0)) (.c (.p (.sl n true [])))
 |func (f:FuncId):OT (.func f) (.c (.p (.fn f [])))
 |atom (v:Value) (h:v.oneCell'=true):OT (.const v) (.c (.p (.atom v)))
 |any (x:Operand):OT x (.c .top)
theorem VRel.const{X:Cx}{base:Nat}{L:Loc}{a:Act}{t:List DV}{x:Operand}{o:O}(h:OT x o)(hn:∀n,o≠.t n):VRel X base L (o.val t) (a.eval x):=by
 cases h with
 |tmp n=>exact absurd rfl (hn n)
 |int k n=>exact Flat.int k n
 |bool b=>exact Flat.bool b
 |str s=>exact Flat.str s
 |nil n=>exact .inl ⟨rfl,.inl ⟨rfl,rfl⟩⟩
 |nilp n=>exact Flat.nilsl n
 |func f=>exact Flat.fn f [] #[] rfl (fun i c v h=>by simp at h)
 |atom v h=>exact Flat.atom v h
 |any x=>trivial
theorem Rel.opnd{G:Gl}{X:Cx}{s:St}{a:Act}(h:Rel G X s a){x:Operand}{o:O}(ho:OT x o):∃L,VRel X G.base L (o.val s.t) (a.eval x):=by
 cases ho with
 |tmp n=>exact⟨.tmp n,h.get n⟩
 |_=>exact⟨.tmp 0,VRel.const (by first|exact .int _ _|exact .bool _|exact .str _|exact .nil _|exact .nilp _|exact .func _|exact .any _|(exact .atom _ (by assumption))) (by intro n hn;cases hn)⟩
theorem bI{G:Gl}{X:Cx}{s:St}{a:Act}{o:Oper}{K:St->Prop}{Q:Exit->Act->World->Prop}{v:DV}{u:Value}
  (h:Rel G X s a) (hrun:(execOp a.eval o).run P X.w=.ok (.value u) X.w) (hv:∀j,o.dst=some j->VRel X G.base (.tmp j) v u)
  (hK:K ⟨aH s.t o.dst v,s.b⟩):o.wp P a X.w (aZ G K) Q:=by
 unfold Oper.wp;rw[hrun,Oper.upon_value];exact⟨_,X,h.put hv,rfl,hK⟩
theorem bC{G:Gl}{X:Cx}{s:St}{a:Act}{o:Oper}{K:St->Prop}{Q:Exit->Act->World->Prop}{z:PV}{u:Value}
  (h:Rel G X s a) (hrun:(execOp a.eval o).run P X.w=.ok (.value u) X.w) (hv:Flat X.M X.w z u)
  (hK:K ⟨aH s.t o.dst (.p z),s.b⟩):o.wp P a X.w (aZ G K) Q:=bI (v:=.p z) h hrun (fun _ _=>hv) hK
theorem EJ{X:Cx}{base:Nat}{L:Loc}{d:DV}{x:PV}{v:Value}(h:VRel X base L d v)(hx:uK d=some x):Flat X.M X.w x v:=by
 cases d<;>simp[uK] at hx
 ·subst hx;exact h
 ·subst hx;exact OwRel.flat h
theorem Flat.intv{M:Nat->Nat->Prop}{w:World}{k:IntKind}{n:Int}{v:Value}(h:Flat M w (.int k n) v):v=.int k n:=by cases h;rfl
theorem Flat.boolv{M:Nat->Nat->Prop}{w:World}{b:Bool}{v:Value}(h:Flat M w (.bool b) v):v=.bool b:=by cases h;rfl
theorem Flat.strv{M:Nat->Nat->Prop}{w:World}{s:ByteArray}{v:Value}(h:Flat M w (.str s) v):v=.string s:=by cases h;rfl
theorem G0{G:Gl}{X:Cx}{s:St}{a:Act}{Q:Exit->Act->World->Prop}{o:Oper}{K:St->Prop}(h:Rel G X s a)(op:BinOp)(t t':TypeId)(x y:Operand)(ho:o.op=.binOp op t x y t')
  {p q:PV} (hx:Flat X.M X.w p (a.eval x)) (hy:Flat X.M X.w q (a.eval y)) (hK:jH op p q fun z=>K ⟨aH s.t o.dst (.p z),s.b⟩):o.wp P a X.w (aZ G K) Q:=by
 cases p<;>cases q<;>simp only[jH] at hK<;>try exact hK.elim
 case int.int k m k' n=>
  have ex:=hx.intv;have ey:=hy.intv;cases op<;>simp only at hK
  case quo|rem=>
   obtain⟨rfl,hn,hK⟩:=hK;refine bC (z:=.int _ _) h ?_ (Flat.int _ _) hK;simp[execOp,ho,ex,ey,binOp,Op.intDiv,hn,eqGuard]
  case shl|shr=>
   obtain⟨hn,hK⟩:=hK;refine bC (z:=.int _ _) h ?_ (Flat.int _ _) hK;simp[execOp,ho,ex,ey,binOp,Op.shift,Int.not_lt.2 hn,eqGuard]
  all_goals
   obtain⟨rfl,hK⟩:=hK
   first|refine bC (z:=.int _ _) h ?_ (Flat.int _ _) hK|refine bC (z:=.bool _) h ?_ (Flat.bool _) hK
   simp[execOp,ho,ex,ey,binOp,Op.intArith,Op.intCmp,Op.intBits,aL,eqGuard]
 case str.str m n=>
  have ex:=hx.strv;have ey:=hy.strv;cases op<;>simp only at hK<;>try exact hK.elim
  case add=>
   obtain⟨hn,hK⟩:=hK;refine bC (z:=.str _) h ?_ (Flat.str _) hK
   have hn':¬((m.size+n.size:Nat):Int)>IntKind.i64.max:=by
    have:IntKind.i64.max=9223372036854775807:=by decide
    rw[this];omega
   simp only[execOp,ho,ex,ey,binOp,Op.stringOp,eqGuard,if_neg hn'];simp
  all_goals
   refine bC (z:=.bool _) h ?_ (Flat.bool _) hK;simp[execOp,ho,ex,ey,binOp,Op.stringOp,eqGuard]
open Go.RowKit
variable {P:Program}
section
variable {G:Gl} {X:Cx} {s:St} {a:Act} {Q:Exit->Act->World->Prop} {o:Oper} {K:St->Prop}
theorem s_pick(h:Rel G X s a){c x y:Operand}{oc ox oy:O}(hc:OT c oc)(hx:OT x ox)(hy:OT y oy)(ho:o.op=.pick c x y)
  (hK:aD P .pick [oc.val s.t,ox.val s.t,oy.val s.t] s.b fun v b=>K ⟨aH s.t o.dst v,b⟩):o.wp P a X.w (aZ G K) Q:=by
 obtain⟨Lc,rc⟩:=h.opnd hc;obtain⟨Lx,rx⟩:=h.opnd hx;obtain⟨Ly,ry⟩:=h.opnd hy;generalize oc.val s.t=vc at *
 cases vc with
 |p z=>
  cases z with
  |bool b=>
   have e:=Flat.boolv rc;simp only[aD] at hK
   cases b with
   |true=>exact bI h (by simp[execOp,ho,e,asBool]) (fun j _=>rx.copy _) (hK.1 rfl)
   |false=>exact bI h (by simp[execOp,ho,e,asBool]) (fun j _=>ry.copy _) (hK.2 rfl)
  |_=>simp[aD] at hK
 |_=>simp[aD] at hK
theorem s_un(h:Rel G X s a){op:UnOp}{t:TypeId}{x:Operand}{ox:O}(hx:OT x ox)(ho:o.op=.unOp op t x)
  (hK:aD P (.un op) [ox.val s.t] s.b fun v b=>K ⟨aH s.t o.dst v,b⟩):o.wp P a X.w (aZ G K) Q:=by
 obtain⟨Lx,rx⟩:=h.opnd hx;generalize ox.val s.t=vx at *
 cases vx with
 |p z=>
  cases z with
  |bool b=>
   have e:=Flat.boolv rx;cases op<;>simp only[aD] at hK<;>try exact hK.elim
   exact bC (z:=.bool _) h (by simp[execOp,ho,e,Op.unary]) (.bool _) hK
  |int k n=>
   have e:=Flat.intv rx;cases op<;>simp only[aD] at hK<;>try exact hK.elim
   exact bC (z:=.int _ _) h (by simp[execOp,ho,e,Op.unary,Op.intArith]) (.int _ _) hK
  |_=>simp[aD] at hK
 |_=>simp[aD] at hK
theorem s_conv(h:Rel G X s a){k:IntKind}{src dst:TypeId}{x:Operand}{ox:O}(hx:OT x ox)(ho:o.op=.convert src dst x)
  (hs:∃d,P.underlying src=some d) (hd:P.underlying dst=some (.int k))
  (hK:aD P (.conv k) [ox.val s.t] s.b fun v b=>K ⟨aH s.t o.dst v,b⟩):o.wp P a X.w (aZ G K) Q:=by
 obtain⟨Lx,rx⟩:=h.opnd hx;obtain⟨ds,hs⟩:=hs;generalize ox.val s.t=vx at *
 cases vx with
 |p z=>
  cases z with
  |int k' n=>
   have e:=Flat.intv rx;simp only[aD] at hK;exact bC (z:=.int _ _) h (by simp[execOp,ho,e,convert,run_underlying hs,run_underlying hd,Conv.intToInt]) (.int _ _) hK
  |_=>simp[aD] at hK
 |_=>simp[aD] at hK
theorem s_fad(h:Rel G X s a){off:Nat}{t:TypeId}{f:Nat}{x:Operand}{ox:O}(hx:OT x ox)(ho:o.op=.fieldAddr t x f)
  {fs:Array Field} {fd:Field} {i:TypeInfo} (hu:P.underlying t=some (.struct fs)) (hf:fs[f]?=some fd) (hi:P.info? fd.type=some i) (hz:i.size≠0) (hoff:fd.offset=off)
  (hK:aD P (.fad off) [ox.val s.t] s.b fun v b=>K ⟨aH s.t o.dst v,b⟩):o.wp P a X.w (aZ G K) Q:=by
 obtain⟨Lx,rx⟩:=h.opnd hx;subst hoff;generalize ox.val s.t=vx at *
 have run:∀b n,a.eval x=.pointer (some ⟨b,n,none⟩)->(execOp a.eval o).run P X.w=.ok (.value (.pointer (some ⟨b,n+fd.offset,none⟩))) X.w:=by
  intro b n e;simp[execOp,ho,e,Instr.fieldAt,run_underlying hu,hf,Instr.sureAddr,fieldPlace,sizeOf,typeInfo,hi,hz,Addr.add_lit]
 cases vx with
 |addr k size r n=>
  obtain⟨blk,h1,e⟩:=rx;simp only[aD] at hK;refine bI h (run _ _ e) (fun j _=>?_) hK
  exact⟨blk,h1,by rw[Nat.add_assoc]⟩
 |p z=>
  cases z with
  |ptr cells n=>
   simp only[aD] at hK;generalize hv:a.eval x=v at *
   cases (show Flat X.M X.w (.ptr cells n) v from rx) with
   |ptr _ _ b n0 cv hc h1 hr=>
    refine bC h (run _ _ rfl) ?_ hK;rw[Nat.add_assoc];exact .ptr cells _ b n0 cv hc h1 hr
  |_=>simp[aD] at hK
 |_=>simp[aD] at hK
theorem j4(l:List PV)(off n:Nat):rJ l off n=(l.drop off).take n:=by
 induction l generalizing off n with
 |nil=>cases n<;>simp[rJ]
 |cons x xs ih=>cases n<;>cases off<;>simp[rJ,ih]
theorem iX(l:List DV)(off n:Nat):eW l off n=(l.drop off).take n:=by
 induction l generalizing off n with
 |nil=>cases n<;>simp[eW]
 |cons x xs ih=>cases n<;>cases off<;>simp[eW,ih]
structure TyIs (P:Program) (t:TypeId) (n:Nat) (isA:Bool):Prop where
 info:∃i,P.info? t=some i/\i.size=n
 agg:∃d,P.underlying t=some d/\(match d with | .struct _ | .array _ _=>true|_=>false)=isA
theorem TyIs.run_isAgg{t:TypeId}{n:Nat}{isA:Bool}(h:TyIs P t n isA)(w:World):(isAgg t).run P w=.ok isA w:=by
 obtain⟨d,hd,he⟩:=h.agg;simp only[isAgg,Sem.run_bind,run_underlying hd,Result.andThen_ok];cases d<;>simp at he<;>subst he<;>simp
theorem TyIs.run_sizeOf{t:TypeId}{n:Nat}{isA:Bool}(h:TyIs P t n isA)(w:World):(sizeOf t).run P w=.ok n w:=by
 obtain⟨i,hi,rfl⟩:=h.info;simp[sizeOf,typeInfo,hi]
theorem HK{M:Nat->Nat->Prop}{w:World}{cs:List PV}{vs:Array Value}(h:Flat M w (.agg cs) (.agg vs))(off n:Nat)(hn:off+n<=cs.length) :
  Flat M w (.agg (rJ cs off n)) (.agg (vs.extract off (off+n))):=by
 cases h with
 |agg _ _ hl h1 h=>
  refine .agg _ _ ?_ ?_ ?_
  ·rw[j4];simp[hl];omega
  ·intro c hc;rw[j4] at hc;exact h1 c (List.mem_of_mem_drop (List.mem_of_mem_take hc))
  ·intro i c v hc hv
   rw[j4,List.getElem?_take] at hc
   split at hc
   ·rw[List.getElem?_drop] at hc
    rw[Array.getElem?_extract] at hv
    split at hv
    ·exact h (off+i) c v hc hv
    ·simp at hv
   ·simp at hc
theorem s_fld(h:Rel G X s a){off n:Nat}{isA:Bool}{t:TypeId}{f:Nat}{x:Operand}{ox:O}(hx:OT x ox)(ho:o.op=.field t x f)
  {fs:Array Field} {fd:Field} (hu:P.underlying t=some (.struct fs)) (hf:fs[f]?=some fd) (hi:TyIs P fd.type n isA) (hoff:fd.offset=off)
  (hK:aD P (.fld off n isA) [ox.val s.t] s.b fun v b=>K ⟨aH s.t o.dst v,b⟩):o.wp P a X.w (aZ G K) Q:=by
 obtain⟨Lx,rx⟩:=h.opnd hx;subst hoff;generalize ox.val s.t=vx at *
 cases vx with
 |p z=>
  cases z with
  |agg cs=>
   simp only[aD,gB] at hK;generalize hv:a.eval x=v at *;have rx':Flat X.M X.w (.agg cs) v:=rx
   cases rx' with
   |agg _ vs hl h1 hh=>
    cases isA with
    |true=>
     simp only[if_true] at hK;refine bC (z:=.agg _) (u:=.agg (vs.extract fd.offset (fd.offset+n))) h ?_ (HK (.agg cs vs hl h1 hh) _ _ hK.1) hK.2;simp[execOp,ho,hv,Instr.field,run_underlying hu,hf,part,hi.run_isAgg,hi.run_sizeOf,asAgg]
    |false=>
     simp only[Bool.false_eq_true,if_false] at hK;obtain⟨c,hc,hK⟩:=hK;have hlt:fd.offset<vs.size:=by rw[hl];exact(bM.1 hc).1
     refine bC (z:=c) (u:=vs[fd.offset]) h ?_ (hh _ c _ hc (by simp[hlt])) hK
     simp[execOp,ho,hv,Instr.field,run_underlying hu,hf,part,hi.run_isAgg,asAgg,hlt]
  |_=>simp[aD] at hK
 |_=>simp[aD] at hK
theorem x7{t e:TypeId}{n:Nat}{isA:Bool}(hu:P.underlying t=some (.slice e))(hi:TyIs P e n isA)(w:World)(b off len cap:Nat)(k:IntKind)(i:Int)(h0:0<=i)(h1:i<len) :
  (Instr.indexAt t (.slice (some ⟨b,off,none⟩) len cap) (.int k i)).run P w=.ok (.pointer (some ⟨b,off+i.toNat*n,none⟩)) w:=by
 simp[Instr.indexAt,asIntOf,run_underlying hu,h0,h1,hi.run_sizeOf,Addr.add_lit]
theorem E2{M:Nat->Nat->Prop}{w:World}{size:Nat}{nl:Bool}{rows:List PV}{v:Value}(h:Flat M w (.sl size nl rows) v){i:Nat}{row:PV}(hr:rows[i]?=some row) :
  ∃b off cap,v=.slice (some ⟨b,off,none⟩) rows.length cap/\Flat M w (.ptr (aE row) 0) (.pointer (some ⟨b,off+i*size,none⟩)):=by
 have hlt:i<rows.length:=(bM.1 hr).1
 cases h with
 |nilsl=>simp at hr
 |sl0=>simp at hr
 |sl _ _ b off cap cv hcap hmax hc hs h1 hrr=>
  refine⟨b,off,cap,rfl,?_⟩;have hm:=cD hr;have:=Flat.ptr (M:=M) (w:=w) (aE row) 0 b (off+i*size) (fun j=>cv (i*size+j)) (fun j hj=>?_) (h1 row hm) (fun j c hcj=>hrr i j row c hr hcj)
  ·simpa using this
  ·rw[hs row hm] at hj
   have h2:i*size+j<rows.length*size:=Nat.lt_of_lt_of_le (by omega:i*size+j<i*size+size) (by rw[<-Nat.succ_mul];exact Nat.mul_le_mul_right _ hlt)
   have:=hc (i*size+j) h2;rw[Nat.add_assoc];exact this
theorem s_iad(h:Rel G X s a){size:Nat}{isA:Bool}{t e:TypeId}{x ix:Operand}{ox oi:O}(hx:OT x ox)(hix:OT ix oi)(ho:o.op=.indexAddr t x ix)
  (hu:P.underlying t=some (.slice e)) (hi:TyIs P e size isA)
  (hK:aD P (.iad size) [ox.val s.t,oi.val s.t] s.b fun v b=>K ⟨aH s.t o.dst v,b⟩):o.wp P a X.w (aZ G K) Q:=by
 obtain⟨Lx,rx⟩:=h.opnd hx;obtain⟨Li,ri⟩:=h.opnd hix;generalize ox.val s.t=vx at *;generalize oi.val s.t=vi at *
 have imm:∀sz nl rows k i,Flat X.M X.w (.sl sz nl rows) (a.eval x)->a.eval ix=.int k i->sz=size->0<=i->(∃row,rows[i.toNat]?=some row/\K ⟨aH s.t o.dst (.p (.ptr (aE row) 0)),s.b⟩)->o.wp P a X.w (aZ G K) Q:=by
  intro sz nl rows k i hfl ei hsz h0 ⟨row,hr,hKK⟩;subst hsz;obtain⟨b,off,cap,ev,hp⟩:=E2 hfl hr;have hlt:i.toNat<rows.length:=(bM.1 hr).1;refine bC h ?_ hp hKK;have hr':=x7 (P:=P) hu hi X.w b off rows.length cap k i h0 (by omega)
  simp[execOp,ho,ev,ei,hr']
 cases vi with
 |p z=>
  cases z with
  |int k i=>
   have ei:=Flat.intv ri;simp only[aD] at hK
   cases vx with
   |p z=>
    cases z with
    |sl sz nl rows=>exact imm _ _ _ k i rx ei hK.1 hK.2.1 hK.2.2
    |_=>exact hK.elim
   |ow sz nl rows=>exact imm _ _ _ k i (OwRel.flat rx) ei hK.1 hK.2.1 hK.2.2
   |bs k' sz ag lo n=>
    obtain⟨rfl,h0,h1,hK⟩:=hK;obtain⟨blk,cap,e1,e2,e3,_,ev⟩:=rx;refine bI (v:=.addr k' sz (lo+i.toNat) 0) h (u:=.pointer (some ⟨blk,lo*sz+i.toNat*sz,none⟩)) ?_ (fun j _=>⟨blk,e1,by rw[Nat.add_mul];rfl⟩) hK
    have hr':=x7 (P:=P) hu hi X.w blk (lo*sz) n cap k i h0 (by omega)
    simp[execOp,ho,ev,ei,hr']
   |_=>exact hK.elim
  |_=>simp[aD] at hK
 |_=>simp[aD] at hK
theorem sC{t:TypeId}{x:Operand}(ho:o.op=.call { callee:=.builtin .len,args := #[x],argTypes := #[t] }){e:TypeId}(hu:P.underlying t=some (.slice e))
  {b:Option Addr} {n c:Nat} (ev:a.eval x=.slice b n c) (w:World):(execOp a.eval o).run P w=.ok (.value (.int .i64 n)) w:=by
 simp[execOp,ho,resolve,invoke,builtin,Builtin.len_,run_underlying hu,ev,goInt]
theorem Flat.slv{M:Nat->Nat->Prop}{w:World}{size:Nat}{nl:Bool}{rows:List PV}{v:Value}(h:Flat M w (.sl size nl rows) v):∃b cap,v=.slice b rows.length cap:=by
 cases h with
 |nilsl=>exact⟨none,0,rfl⟩
 |sl0 _ a=>exact⟨some a,0,rfl⟩
 |sl _ _ b off cap=>exact⟨_,cap,rfl⟩
theorem Flat.sl_le{M:Nat->Nat->Prop}{w:World}{size:Nat}{nl:Bool}{rows:List PV}{v:Value}(h:Flat M w (.sl size nl rows) v):rows.length<=maxLen:=by
 cases h with
 |nilsl=>exact Nat.zero_le _
 |sl0=>exact Nat.zero_le _
 |sl _ _ b off cap cv hcap hmax=>exact Nat.le_trans hcap hmax
theorem s_len(h:Rel G X s a){t e:TypeId}{x:Operand}{ox:O}(hx:OT x ox)(ho:o.op=.call { callee:=.builtin .len,args := #[x],argTypes := #[t] })
  (hu:P.underlying t=some (.slice e))
  (hK:aD P .len [ox.val s.t] s.b fun v b=>K ⟨aH s.t o.dst v,b⟩):o.wp P a X.w (aZ G K) Q:=by
 obtain⟨Lx,rx⟩:=h.opnd hx;generalize ox.val s.t=vx at *
 cases vx with
 |p z=>
  cases z with
  |sl size nl rows=>
   obtain⟨b,cap,ev⟩:=Flat.slv rx;exact bC (z:=.int .i64 _) h (sC ho hu ev _) (.int _ _) (hK (Flat.sl_le rx))
  |_=>simp[aD,fP] at hK
 |ow size nl rows=>
  obtain⟨b,cap,ev⟩:=(OwRel.flat rx).slv;exact bC (z:=.int .i64 _) h (sC ho hu ev _) (.int _ _) (hK (OwRel.flat rx).sl_le)
 |bs k size ag lo n=>
  obtain⟨blk,cap,e1,e2,e3,_,ev⟩:=rx;exact bC (z:=.int .i64 _) h (sC ho hu ev _) (.int _ _) (hK (Nat.le_trans e2 e3))
 |pk q=>
  cases q with
  |none=>simp[aD,fP] at hK
  |some n=>
   obtain⟨e1,ad,cap,ev⟩:=rx;exact bC (z:=.int .i64 _) h (sC ho hu ev _) (.int _ _) (hK e1)
 |_=>simp[aD,fP] at hK
theorem s_slen(h:Rel G X s a){t:TypeId}{x:Operand}{ox:O}(hx:OT x ox)(ho:o.op=.call { callee:=.builtin .len,args := #[x],argTypes := #[t] })
  (hu:P.underlying t=some .string)
  (hK:aD P .slen [ox.val s.t] s.b fun v b=>K ⟨aH s.t o.dst v,b⟩):o.wp P a X.w (aZ G K) Q:=by
 obtain⟨Lx,rx⟩:=h.opnd hx;generalize ox.val s.t=vx at *
 cases vx with
 |p z=>
  cases z with
  |str z=>
   have ev:=Flat.strv rx;refine bC (z:=.int .i64 _) h ?_ (.int _ _) hK;simp[execOp,ho,resolve,invoke,builtin,Builtin.len_,run_underlying hu,ev,goInt]
  |_=>simp[aD] at hK
 |_=>simp[aD] at hK
theorem s_minmax(h:Rel G X s a){mx:Bool}{t:TypeId}{x y:Operand}{ox oy:O}(hx:OT x ox)(hy:OT y oy)(ho:o.op=.call { callee:=.builtin (if mx then .max else .min),args := #[x,y],argTypes := #[t,t] })
  (hK:aD P (if mx then .mx else .mn) [ox.val s.t,oy.val s.t] s.b fun v b=>K ⟨aH s.t o.dst v,b⟩):o.wp P a X.w (aZ G K) Q:=by
 obtain⟨Lx,rx⟩:=h.opnd hx;obtain⟨Ly,ry⟩:=h.opnd hy;generalize ox.val s.t=vx at *;generalize oy.val s.t=vy at *
 cases vx with
 |p z=>
  cases z with
  |int k m=>
   cases vy with
   |p z=>
    cases z with
    |int k' n=>
     have ex:=Flat.intv rx;have ey:=Flat.intv ry
     cases mx with
     |true=>
      simp only[if_true,aD] at hK;obtain⟨rfl,hK⟩:=hK;exact bC (z:=.int _ _) h (by simp[execOp,ho,resolve,invoke,builtin,Builtin.max_,Builtin.max2,ex,ey]) (.int _ _) hK
     |false=>
      simp only[Bool.false_eq_true,if_false,aD] at hK;obtain⟨rfl,hK⟩:=hK;exact bC (z:=.int _ _) h (by simp[execOp,ho,resolve,invoke,builtin,Builtin.min_,Builtin.min2,ex,ey]) (.int _ _) hK
    |_=>cases mx<;>simp[aD] at hK
   |_=>cases mx<;>simp[aD] at hK
  |_=>cases mx<;>simp[aD] at hK
 |_=>cases mx<;>simp[aD] at hK
theorem s_nilchk(h:Rel G X s a){x:Operand}{ox:O}(hx:OT x ox)(ho:o.op=.nilCheck x)
  (hK:aD P .nilchk [ox.val s.t] s.b fun v b=>K ⟨aH s.t o.dst v,b⟩):o.wp P a X.w (aZ G K) Q:=by
 obtain⟨Lx,rx⟩:=h.opnd hx;generalize ox.val s.t=vx at *
 cases vx with
 |addr k size r off=>
  simp only[aD] at hK;obtain⟨blk,h1,ev⟩:=rx;exact bI (v:=.addr k size r off) h (by simp[execOp,ho,ev]) (fun j _=>⟨blk,h1,rfl⟩) hK
 |p z=>
  cases z with
  |ptr cells off=>
   simp only[aD] at hK;generalize hv:a.eval x=v at *;have rx':Flat X.M X.w (.ptr cells off) v:=rx;have:=rx'
   cases rx' with
   |ptr _ _ b n0 cv hc h1 hr=>exact bC h (by simp[execOp,ho,hv]) this hK
  |fn f caps=>
   simp only[aD] at hK;generalize hv:a.eval x=v at *;have rx':Flat X.M X.w (.fn f caps) v:=rx;have:=rx'
   cases rx' with
   |fn _ _ vs hl hh=>exact bC h (by simp[execOp,ho,hv]) this hK
  |_=>simp[aD] at hK
 |_=>simp[aD] at hK
theorem s_sidx(h:Rel G X s a){t:TypeId}{x ix:Operand}{ox oi:O}(hx:OT x ox)(hix:OT ix oi)(ho:o.op=.index t x ix)(hu:P.underlying t=some .string)
  (hK:aD P .sidx [ox.val s.t,oi.val s.t] s.b fun v b=>K ⟨aH s.t o.dst v,b⟩):o.wp P a X.w (aZ G K) Q:=by
 obtain⟨Lx,rx⟩:=h.opnd hx;obtain⟨Li,ri⟩:=h.opnd hix;generalize ox.val s.t=vx at *;generalize oi.val s.t=vi at *
 cases vx with
 |p z=>
  cases z with
  |str z=>
   cases vi with
   |p y=>
    cases y with
    |int k i=>
     have ex:=Flat.strv rx;have ei:=Flat.intv ri;simp only[aD] at hK;obtain⟨h0,c,hc,hK⟩:=hK
     have hlt:i.toNat<z.size:=by
      have:=(bM.1 hc).1
      simpa using this
     have hz:z[i.toNat]?=some c:=by
      have h2:=(bM.1 hc).2;rw[getElem?_pos z i.toNat hlt]
      congr 1
     refine bC (z:=.int .u8 _) h ?_ (.int _ _) hK;simp[execOp,ho,Instr.index,asIntOf,run_underlying hu,ex,ei,h0,hz]
    |_=>simp[aD] at hK
   |_=>simp[aD] at hK
  |_=>simp[aD] at hK
 |_=>simp[aD] at hK
theorem DJ{M:Nat->Nat->Prop}{w:World}{size:Nat}{rows:List PV}{b off cap:Nat}(h:Flat M w (.sl size false rows) (.slice (some ⟨b,off,none⟩) rows.length cap))
  (l m:Nat) (hlm:l<=m) (hm:m<=rows.length):Flat M w (.sl size false ((rows.take m).drop l)) (.slice (some ⟨b,if cap=l then off else off+l*size,none⟩) (m-l) (cap-l)):=by
 cases h with
 |sl0=>
  simp at hm;subst hm;have:l=0:=by omega
  subst this
  simpa using Flat.sl0 size _
 |sl _ _ _ _ _ cv hcap hmax hc hs h1 hr=>
  have hlen:((rows.take m).drop l).length=m-l:=by simp;omega
  by_cases he:m=l
  ·subst he
   have e0:(rows.take m).drop m=[]:=List.eq_nil_of_length_eq_zero (by simp)
   rw[e0,Nat.sub_self];exact .sl size [] b _ _ (fun _=>undef) (Nat.zero_le _) (by omega) (fun j hj=>by simp at hj) (fun _ h=>by simp at h) (fun _ h=>by simp at h) (fun _ _ _ _ h=>by simp at h)
  ·have hne:cap≠l:=by omega
   rw[if_neg hne]
   have:=Flat.sl (M:=M) (w:=w) size ((rows.take m).drop l) b (off+l*size) (cap-l) (fun j=>cv (l*size+j)) (by rw[hlen];omega) (by omega) (fun j hj=>?_)
    (fun row hrow=>hs row (List.mem_of_mem_take (List.mem_of_mem_drop hrow))) (fun row hrow=>h1 row (List.mem_of_mem_take (List.mem_of_mem_drop hrow))) (fun i j row c hrow hcj=>?_)
   ·rw[hlen] at this;exact this
   ·rw[hlen] at hj
    have h2:l*size+j<rows.length*size:=by
     have:(l+(m-l))*size<=rows.length*size:=Nat.mul_le_mul_right _ (by omega)
     rw[Nat.add_mul] at this;omega
    have:=hc (l*size+j) h2;rw[Nat.add_assoc];exact this
   ·rw[List.getElem?_drop,List.getElem?_take] at hrow
    split at hrow
    ·have:=hr (l+i) j row c hrow hcj
     rw[Nat.add_mul,Nat.add_assoc] at this;exact this
    ·simp at hrow
theorem D3{t e:TypeId}(hu:P.underlying t=some (.slice e)):P.underlying t=some (.slice (P.elem t)):=by
 rw[hu];simp[Program.elem,hu]
theorem l6{M:Nat->Nat->Prop}{w:World}{sz size:Nat}{nl:Bool}{rows:List PV}{b:Option Addr}{n c:Nat}(h:Flat M w (.sl sz nl rows) (.slice b n c))(hsz:sz=size\/rows=[])
  (l m:Nat) (hlm:l<=m) (hm:m<=rows.length):n=rows.length/\n<=c/\Flat M w (.sl sz nl ((rows.take m).drop l)) (sliced b l m c size):=by
 generalize hv:Value.slice b n c=v at h
 cases h with
 |nilsl=>
  injection hv with e1 e2 e3
  subst e1;subst e2;subst e3;simp at hm;subst hm;have:l=0:=by omega
  subst this;exact⟨rfl,Nat.le_refl _,by simpa [sliced] using Flat.nilsl sz⟩
 |sl0 _ ad=>
  injection hv with e1 e2 e3
  subst e1;subst e2;subst e3;simp at hm;subst hm;have:l=0:=by omega
  subst this;exact⟨rfl,Nat.le_refl _,by simpa [sliced] using Flat.sl0 sz _⟩
 |sl _ _ b' off cap cv hcap hmax hc hs h1 hr=>
  injection hv with e1 e2 e3
  subst e1;subst e2;subst e3;refine⟨rfl,hcap,?_⟩;rcases hsz with rfl|rfl
  ·have:=DJ (.sl sz rows b' off c cv hcap hmax hc hs h1 hr) l m hlm hm
   simp only[sliced,Option.map_some,Addr.add_lit]
   split<;>rename_i he
   ·rw[if_pos he] at this;exact this
   ·rw[if_neg he] at this;exact this
  ·simp at hm
   subst hm;have:l=0:=by omega
   subst this;simp only[sliced,Option.map_some,Addr.add_lit,List.take_nil,List.drop_nil,Nat.sub_zero,Nat.zero_mul,Nat.add_zero]
   split<;>exact .sl sz [] b' off c cv (Nat.zero_le _) hmax (fun j hj=>by simp at hj) (fun _ h=>by simp at h) (fun _ h=>by simp at h) (fun _ _ _ _ h=>by simp at h)
theorem s_slc(h:Rel G X s a){size:Nat}{isA:Bool}{t e:TypeId}{x:Operand}{ox:O}{lo hi:Option Operand}{ys:List O}(hx:OT x ox)(ho:o.op=.slice t x lo hi none)
  (hu:P.underlying t=some (.slice e)) (hi':TyIs P e size isA)
  (hys:match lo,hi,ys with|some l,some m,[ol,om]=>OT l ol/\OT m om|some l,none,[ol]=>OT l ol|none,some m,[om]=>OT m om|_,_,_=>False)
  (hK:aD P (.slc size lo.isSome hi.isSome) (ox.val s.t ::ys.map (O.val s.t)) s.b fun v b=>K ⟨aH s.t o.dst v,b⟩):o.wp P a X.w (aZ G K) Q:=by
 obtain⟨Lx,rx⟩:=h.opnd hx;generalize ox.val s.t=vx at *;have hu':=D3 hu;have he:P.elem t=e:=by rw[hu] at hu';injection hu' with h1;injection h1 with h2;exact h2.symm
 have hsize:∀w,(sizeOf (P.elem t)).run P w=.ok size w:=fun w=>by rw[he];exact hi'.run_sizeOf w
 cases vx with
 |p z=>
  cases z with
  |sl sz nl rows=>
   obtain⟨b,cap,ev⟩:=Flat.slv rx;have rx':Flat X.M X.w (.sl sz nl rows) (.slice b rows.length cap):=ev▸rx;simp only[aD] at hK;obtain⟨hsz,hK⟩:=hK
   cases lo with
   |some l=>
    cases hi with
    |some m=>
     match ys,hys with
     |[ol,om],⟨hl,hm⟩=>
      obtain⟨_,rl⟩:=h.opnd hl;obtain⟨_,rm⟩:=h.opnd hm;simp only[Option.isSome_some,List.map_cons,List.map_nil] at hK;generalize ol.val s.t=vl at *;generalize om.val s.t=vm at *
      obtain⟨k1,l',rfl⟩:∃k1 l',vl=.p (.int k1 l'):=by
       rcases vl with _|x|_|_|_|_|_<;>first|(simp at hK;done)|skip
       cases x<;>first|(simp at hK;done)|exact⟨_,_,rfl⟩
      obtain⟨k2,m',rfl⟩:∃k1 l',vm=.p (.int k1 l'):=by
       rcases vm with _|x|_|_|_|_|_<;>first|(simp at hK;done)|skip
       cases x<;>first|(simp at hK;done)|exact⟨_,_,rfl⟩
      have el:=Flat.intv rl;have em:=Flat.intv rm;obtain⟨h0,h1,h2,hK⟩:=hK;obtain⟨_,hnc,hf⟩:=l6 rx' hsz l'.toNat m'.toNat (by omega) (by omega)
      refine bC h ?_ hf hK;simp[execOp,ho,ev,el,em,run_sliceAt_slice,hu',run_slice_lh X.w t b rows.length cap hu' _ _ l' m' h0 h1 (by omega),hsize]
    |none=>
     match ys,hys with
     |[ol],hl=>
      obtain⟨_,rl⟩:=h.opnd hl;simp only[Option.isSome_some,Option.isSome_none,List.map_cons,List.map_nil] at hK;generalize ol.val s.t=vl at *
      obtain⟨k1,l',rfl⟩:∃k1 l',vl=.p (.int k1 l'):=by
       rcases vl with _|x|_|_|_|_|_<;>first|(simp at hK;done)|skip
       cases x<;>first|(simp at hK;done)|exact⟨_,_,rfl⟩
      have el:=Flat.intv rl;obtain⟨h0,h1,hK⟩:=hK;obtain⟨_,hnc,hf⟩:=l6 rx' hsz l'.toNat rows.length (by omega) (by omega)
      rw[List.take_length] at hf;refine bC h ?_ hf hK;simp[execOp,ho,ev,el,run_sliceAt_slice,hu',run_slice_l X.w t b rows.length cap hu' _ l' h0 h1,hsize]
   |none=>
    cases hi with
    |some m=>
     match ys,hys with
     |[om],hm=>
      obtain⟨_,rm⟩:=h.opnd hm;simp only[Option.isSome_some,Option.isSome_none,List.map_cons,List.map_nil] at hK;generalize om.val s.t=vm at *
      obtain⟨k1,m',rfl⟩:∃k1 l',vm=.p (.int k1 l'):=by
       rcases vm with _|x|_|_|_|_|_<;>first|(simp at hK;done)|skip
       cases x<;>first|(simp at hK;done)|exact⟨_,_,rfl⟩
      have em:=Flat.intv rm;obtain⟨h0,h1,hK⟩:=hK;obtain⟨_,hnc,hf⟩:=l6 rx' hsz 0 m'.toNat (by omega) (by omega)
      rw[List.drop_zero] at hf;refine bC h ?_ hf hK;simp[execOp,ho,ev,em,run_sliceAt_slice,hu',run_slice_h X.w t b rows.length cap hu' _ m' h0 (by omega),hsize]
    |none=>exact hys.elim
  |_=>simp[aD] at hK
 |_=>simp[aD] at hK
end
open Go.RowKit
variable {P:Program}
theorem dE{w:World}{b o:Nat}{cs:Array Value}{ty:TypeId}{fr:Nat×Nat}(h:w.heap[b]?=some (.cells cs ty fr)):w.cell? ⟨b,o,none⟩=cs[o]?:=by simp[World.cell?,h]
theorem BoxRel.mono{S:Loc->Prop}(hc:∀L j,S L->S (.comp L j)){X X':Cx}(h:Ev S X X'){base k:Nat}{bx:Box}{blk:Nat}{cs:Array Value}{ty:TypeId}
  (hb:BoxRel X base k bx blk cs ty) (h1:S (.box k)) (h2:∀r o,S (.cell k r o)) (hρ:X'.ρ k=X.ρ k)
  (hr:∀row,row∈bx.rows->∀d,d∈row->∀j,d.ment j=true->X'.ρ j=X.ρ j):BoxRel X' base k bx blk cs ty:=by
 have hlt:blk<X.w.heap.size:=(Array.getElem?_eq_some_iff.1 hb.heap).1;obtain⟨e1,e2,e3⟩:=h.own blk _ hb.own h1 hlt;refine⟨hρ.trans hb.ρ,e1,by rw[h.ex];exact hb.hbase,e2.trans hb.heap,hb.size,hb.width,?_,fun hl o=>e3 o (hb.live hl o),?_⟩
 ·intro r o row d u hrow hd hu
  obtain⟨hv,hone⟩:=hb.cells r o row d u hrow hd hu;exact⟨hv.mono hc h (h2 r o) (fun j hj=>hr row (cD hrow) d (cD hd) j hj),hone⟩
 ·intro hl
  obtain⟨f1,f2⟩:=hb.fixed hl;refine⟨fun o ho=>?_,f2⟩
  have ho':o<cs.size:=Nat.lt_of_lt_of_le ho hb.size;have hcell:X.w.cell? ⟨blk,o,none⟩=some cs[o]:=by rw[dE hb.heap];simp[ho']
  exact(h.keeps blk o _ (f1 o ho) hcell).2
theorem BX.mono{S:Loc->Prop}(hc:∀L j,S L->S (.comp L j)){X X':Cx}(h:Ev S X X'){base k:Nat}{bx:Box}(hb:BX X base k bx)(h1:S (.box k))(h2:∀r o,S (.cell k r o))(hρ:X'.ρ k=X.ρ k)
  (hr:∀row,row∈bx.rows->∀d,d∈row->∀j,d.ment j=true->X'.ρ j=X.ρ j):BX X' base k bx:=by
 unfold BX at *
 split
 ·rename_i hs
  rw[if_pos hs] at hb;obtain⟨blk,es,clock,m1,m2,m3,m4,m5,m6,m0,m7⟩:=hb;have hlt:blk<X.w.heap.size:=(Array.getElem?_eq_some_iff.1 m4).1;obtain⟨e1,e2,e3⟩:=h.own blk _ m2 h1 hlt;refine⟨blk,es,clock,hρ.trans m1,e1,by rw[h.ex];exact m3,e2.trans m4,m5,fun o=>e3 o (m6 o),m0,fun i row e hi he=>?_⟩
  obtain⟨q,n,d,f1,f2,f3⟩:=m7 i row e hi he;exact⟨q,n,d,f1,f2,f3.mono hc h (h2 i 1) fun j hj=>hr row (cD hi) d (by rw[f1];simp) j hj⟩
 ·rename_i hs
  rw[if_neg hs] at hb;obtain⟨blk,cs,ty,hb⟩:=hb;exact⟨blk,cs,ty,hb.mono hc h h1 h2 hρ hr⟩
theorem Rel.change{G:Gl}{X X':Cx}{s:St}{a:Act}(h:Rel G X s a)(S:Loc->Prop)(hc:∀L j,S L->S (.comp L j))(hev:Ev S X X')
  (hslots:∀(i:Nat) d,s.t[i]?=some d->(S (.tmp i)/\∀k,d.ment k=true->X'.ρ k=X.ρ k)\/VRel X' G.base (.tmp i) d (a.tmps.getD i undef))
  (hboxes : ∀ (k : Nat) bx, s.b[k]? = some (some bx) -> (S (.box k) /\ (∀ r o, S (.cell k r o)) /\ X'.ρ k = X.ρ k /\ ∀ row, row ∈ bx.rows -> ∀ d, d ∈ row -> ∀ j, d.ment j = true -> X'.ρ j = X.ρ j) \/
   BX X' G.base k bx)
  (hbelow:Below G.base X.w X'.w) (hold:∀b,b<G.base->∀o,X'.M b o↔X.M b o):Rel G X' s a:=by
 refine⟨h.defers,h.size,?_,?_,h.below.trans (.of hbelow),Nat.le_trans h.hb hbelow.size,hev.ex.trans h.mold.1,fun b hb hx o=>(hold b hb o).trans (h.mold.2 b hb hx o)⟩
 ·intro i d hd
  rcases hslots i d hd with ⟨h1,h2⟩|h1
  ·exact(h.tmps i d hd).mono hc hev h1 h2
  ·exact h1
 ·intro k bx hk
  rcases hboxes k bx hk with ⟨h1,h2,h3,h4⟩|h1
  ·exact(h.boxes k bx hk).mono hc hev h1 h2 h3 h4
  ·exact h1
def Loc.root:Loc->Loc
 | .comp L _=>L.root
 |L=>L
def Cx.moved(X:Cx)(φ:Loc->Loc):Cx:={ X with own:=fun g=>(X.own g).map φ }
theorem oF(X:Cx)(φ:Loc->Loc)(S:Loc->Prop)(h:∀L,S L -> φ L=L):Ev S X (X.moved φ) :=
 ⟨Keeps.refl _ _,fun g L hg hS _=>⟨by simp[Cx.moved,hg,h L hS],rfl,fun _ h=>h⟩,rfl,fun _=>.refl _ _⟩
theorem OwRel.moved{X:Cx}{base:Nat}{L:Loc}{size:Nat}{n:Bool}{rows:List PV}{v:Value}(h:OwRel X base L size n rows v)(φ:Loc->Loc):OwRel (X.moved φ) base (φ L) size n rows v:=by
 rcases h with h|⟨h0,g,cap,cur,ty,h1,h2,h3⟩
 ·exact .inl h
 ·exact .inr ⟨h0,g,cap,cur,ty,h1,by simp[Cx.moved,h2],h3⟩
theorem ObRel.moved{X:Cx}{base:Nat}{L:Loc}{T:Ob}{v:Value}(h:ObRel X base L T v)(φ:Loc->Loc)(hφ:∀L j, φ (.comp L j)=.comp (φ L) j):ObRel (X.moved φ) base (φ L) T v :=
 ObRel.map (X:=X) (X':=X.moved φ) (base:=base) (base':=base) (fun L L'=>L' = φ L) (fun L L' j e=>by rw[e,hφ]) (Keeps.refl _ _) (fun g L L' e h1 h2 h3 _=>⟨by simp[Cx.moved,h1,e],h2,rfl,h3⟩) h rfl
theorem VRel.copy_moved{X:Cx}{base:Nat}{L:Loc}{d:DV}{v:Value}(h:VRel X base L d v)(φ:Loc->Loc)(L':Loc):VRel (X.moved φ) base L' d.copy v:=by
 have h':=h.copy L'
 cases d with
 |tup ds=>
  obtain⟨vs,h1,h2,h3⟩:=h';refine⟨vs,h1,h2,fun j d u hd hu=>?_⟩
  have:=h3 j d u hd hu;rw[List.getElem?_map] at hd
  cases hj:ds[j]? with
  |none=>rw[hj] at hd;simp at hd
  |some d0=>
   rw[hj] at hd;simp at hd;subst hd;cases d0<;>exact this
 |ob T=>cases T<;>exact h'
 |pk o=>cases o<;>exact h'
 |_=>exact h'
theorem VRel.moved{X:Cx}{base:Nat}{L:Loc}{d:DV}{v:Value}(h:VRel X base L d v)(φ:Loc->Loc)(hφ:∀L j, φ (.comp L j)=.comp (φ L) j):VRel (X.moved φ) base (φ L) d v:=by
 cases d with
 |ob T=>exact ObRel.moved h φ hφ
 |pk o=>cases o<;>exact h
 |tup ds=>
  obtain⟨vs,h1,h2,h3⟩:=h;refine⟨vs,h1,h2,fun j d u hd hu=>?_⟩
  have:=h3 j d u hd hu
  cases d with
  |p x=>exact this
  |ow size n rows=>rw[<-hφ];exact OwRel.moved this φ
 |ow size n rows=>exact OwRel.moved h φ
 |_=>exact h
def toSlot(n m:Nat):Loc->Loc
 | .tmp i=>if i=n then .tmp m else .tmp i
 | .comp L j=>.comp (toSlot n m L) j
 |L=>L
theorem GS(n m:Nat)(L:Loc)(h:L.root≠.tmp n):toSlot n m L=L:=by
 induction L with
 |tmp i=>simp only[toSlot];rw[if_neg];intro e;subst e;exact h rfl
 |comp L j ih=>simp only[toSlot];rw[ih h]
 |_=>rfl
theorem pF{t:List DV}{n i:Nat}{v d:DV}(h:(aF t n v)[i]?=some d):(i=n/\d=v/\n<t.length)\/(i≠n/\t[i]?=some d):=by
 rw[getElem?_setL] at h
 by_cases hi:i=n
 ·subst hi
  rw[if_pos rfl] at h
  cases ht:t[i]? with
  |none=>rw[ht] at h;simp at h
  |some e=>rw[ht] at h;simp at h;exact .inl ⟨rfl,h.symm,(bM.1 ht).1⟩
 ·rw[if_neg hi] at h
  exact .inr ⟨hi,h⟩
theorem Rel.toSlot{G:Gl}{X:Cx}{s:St}{a:Act}(h:Rel G X s a)(n m:Nat) :
  Rel G (X.moved (toSlot n m)) ⟨aF s.t n (aT s.t n).copy,s.b⟩ a/\VRel (X.moved (toSlot n m)) G.base (.tmp m) (aT s.t n) (a.tmps.getD n undef):=by
 have hv:=h.get n;have hw:=h.weak n (aT s.t n).copy (hv.copy _);refine⟨hw.change (fun L=>L.root≠.tmp n) (fun L j h=>h) (oF X _ _ fun L hL=>GS n m L hL) ?_ ?_ (Below.refl _ _) (fun _ _ _=>Iff.rfl),?_⟩
 ·intro i d hd
  rcases pF hd with ⟨rfl,rfl,_⟩|⟨hne,_⟩
  ·exact .inr (hv.copy_moved _ _)
  ·exact .inl ⟨fun e=>hne (by simpa [Loc.root] using e),fun _ _=>rfl⟩
 ·intro k bx hk
  exact .inl ⟨by simp[Loc.root],by simp[Loc.root],rfl,fun _ _ _ _ _ _=>rfl⟩
 ·have:=hv.moved (Vc.toSlot n m) (fun _ _=>rfl)
  simpa [Vc.toSlot] using this
section
variable {G:Gl} {X:Cx} {s:St} {a:Act} {Q:Exit->Act->World->Prop} {o:Oper} {K:St->Prop}
theorem s_mov(h:Rel G X s a){take:Bool}{x:Operand}{ox:O}(hx:OT x ox)(ho:o.op=.move x\/o.op=.assign x)
  (hK:aD P (.mov take) [ox.val s.t] s.b fun v b=>K ⟨aH (fE (.mov take) [ox] s.t) o.dst v,b⟩):o.wp P a X.w (aZ G K) Q:=by
 have run:(execOp a.eval o).run P X.w=.ok (.value (a.eval x)) X.w:=by rcases ho with ho|ho<;>simp[execOp,ho]
 cases take with
 |false=>
  obtain⟨Lx,rx⟩:=h.opnd hx;simp only[aD,Bool.false_eq_true,if_false,fE] at hK;exact bI h run (fun j _=>rx.copy _) hK
 |true=>
  simp only[aD,if_true] at hK
  cases ox with
  |c d=>
   simp only[fE] at hK;exact bI h run (fun j _=>VRel.const hx (by intro n hn;cases hn)) hK
  |t n=>
   simp only[fE] at hK;unfold Oper.wp;rw[run,Oper.upon_value];have hxe:x=.tmp n:=by cases hx;rfl
   subst hxe
   cases hd:o.dst with
   |none=>
    rw[hd] at hK;exact⟨_,X,(h.weak n _ ((h.get n).copy _)).put (d:=none) (v:=.top) (fun j hj=>by cases hj),rfl,hK⟩
   |some m=>
    rw[hd] at hK;obtain⟨h1,h2⟩:=h.toSlot n m;refine⟨_,_,h1.put (d:=some m) (u:=a.eval (.tmp n)) (fun j hj=>?_),rfl,hK⟩
    injection hj with hj
    subst hj;exact h2
def qU(n j m:Nat)(L:Loc):Loc :=
 match L with
 | .comp (.tmp i) j'=>if i=n/\j'=j then .tmp m else L
 |L=>L
theorem s_ext(h:Rel G X s a){j:Nat}{x:Operand}{ox:O}(hx:OT x ox)(ho:o.op=.extract x j)
  (hK:aD P (.ext j) [ox.val s.t] s.b fun v b=>K ⟨aH (fE (.ext j) [ox] s.t) o.dst v,b⟩):o.wp P a X.w (aZ G K) Q:=by
 cases ox with
 |c d=>
  exfalso
  cases hx<;>simp[O.val,aD] at hK
 |t n=>
  have hxe:x=.tmp n:=by cases hx;rfl
  subst hxe;have hv:=h.get n;simp only[O.val] at hK;simp only[fE] at hK;generalize hg:aT s.t n=dv at *
  cases dv with
  |tup ds=>
   simp only[aD] at hK
   cases hj:ds[j]? with
   |none=>simp[hj] at hK
   |some d=>
    simp only[hj] at hK;obtain⟨vs,ev,hl,hh⟩:=hv;have hlt:j<vs.size:=by rw[hl];exact(bM.1 hj).1
    have hu:vs[j]?=some vs[j]:=by simp[hlt]
    have hr:=hh j d _ hj hu;have ev':a.eval (.tmp n)=.tuple vs:=ev;have run:(execOp a.eval o).run P X.w=.ok (.value vs[j]) X.w:=by simp[execOp,ho,ev',Instr.extract,hlt]
    unfold Oper.wp;rw[run,Oper.upon_value]
    have hcop:∀(X':Cx),X'.M=X.M->X'.w=X.w->X'.ρ=X.ρ->(∀j' d',j'≠j->ds[j']?=some d'->∀u,vs[j']?=some u->TRel X' G.base (.comp (.tmp n) j') d' u)->VRel X' G.base (.tmp n) (.tup (aF ds j d.copy)) (a.tmps.getD n undef):=by
     intro X' eM ew eρ hoth;refine⟨vs,ev,by rw[aI];exact hl,fun j' d' u hd' hu'=>?_⟩
     rw[getElem?_setL] at hd'
     by_cases hjj:j'=j
     ·subst hjj
      rw[if_pos rfl,hj] at hd';simp at hd';subst hd';have:=TRel.copy (hh j' d u hj hu') (.comp (.tmp n) j');cases d<;>(simp only[TV.copy,TRel] at this ⊢;rw[eM,ew];exact this)
     ·rw[if_neg hjj] at hd'
      exact hoth j' d' hjj hd' u hu'
    have hw:=h.weak n (.tup (aF ds j d.copy)) (hcop X rfl rfl rfl fun j' d' _ hd' u hu'=>hh j' d' u hd' hu')
    cases hd:o.dst with
    |none=>
     rw[hd] at hK;exact⟨_,X,hw.put (d:=none) (v:=.top) (u:=vs[j]) (fun j hj=>by cases hj),rfl,hK⟩
    |some m=>
     rw[hd] at hK
     have hch:Rel G (X.moved (qU n j m)) ⟨aF s.t n (.tup (aF ds j d.copy)),s.b⟩ a:=by
      refine hw.change (fun L=>L.root≠.tmp n) (fun L j h=>h) (oF X _ _ fun L hL=>?_) ?_ ?_ (Below.refl _ _) (fun _ _ _=>Iff.rfl)
      ·unfold qU
       split
       ·rename_i i j';split
        ·rename_i he;obtain⟨rfl,rfl⟩:=he;exact absurd rfl hL
        ·rfl
       ·rfl
      ·intro i e he
       rcases pF he with ⟨rfl,rfl,_⟩|⟨hne,_⟩
       ·refine .inr (hcop _ rfl rfl rfl fun j' d' hne hd' u hu'=>?_)
        have:=hh j' d' u hd' hu'
        cases d' with
        |p x=>exact this
        |ow size nl rows=>
         have e:=OwRel.moved this (qU i j m);have e2:qU i j m (.comp (.tmp i) j')=.comp (.tmp i) j':=by simp[qU,hne]
         rw[e2] at e;exact e
       ·exact .inl ⟨fun e=>hne (by simpa [Loc.root] using e),fun _ _=>rfl⟩
      ·intro k bx hk
       exact .inl ⟨by simp[Loc.root],by simp[Loc.root],rfl,fun _ _ _ _ _ _=>rfl⟩
     refine⟨_,_,hch.put (d:=some m) (u:=vs[j]) (fun i hi=>?_),rfl,hK⟩
     injection hi with hi
     subst hi
     cases d with
     |p x=>exact hr
     |ow size nl rows=>
      have e:=OwRel.moved hr (qU n j m);have e2:qU n j m (.comp (.tmp n) j)=.tmp m:=by simp[qU]
      rw[e2] at e;exact e
  |_=>simp[aD] at hK
end
open Go.RowKit
variable {P:Program}
def Cx.grow(X:Cx)(k:Nat)(cs:Array Value)(ty:TypeId):Cx :=
 {ρ := fun j => if j = k then some X.w.heap.size else X.ρ j
  own:=fun g=>if g=X.w.heap.size then some (.box k) else X.own g
  M:=fun b o=>if b=X.w.heap.size then True else X.M b o
  w:=X.w.alloc (.cells cs ty)
  ex:=X.ex }
theorem FO(X:Cx)(k:Nat)(cs:Array Value)(ty:TypeId):Ev (fun _=>True) X (X.grow k cs ty):=by
 refine⟨fun b o v hM hc=>?_,fun g L hg _ hlt=>?_,rfl,fun g cs' ty' hg=>⟨cs',ty',(Below.heap_alloc _ _ _ (Array.getElem?_eq_some_iff.1 hg).1).trans hg,rfl⟩⟩
 ·have hlt:b<X.w.heap.size:=World.block_lt_of_cell? _ _ hc
  refine⟨by show (X.w.alloc _).cell? _=_;rw[World.cell?_alloc_lt _ _ _ hlt];exact hc,?_⟩
  show ¬(if b=X.w.heap.size then True else X.M b o)
  rw[if_neg (by omega)]
  exact hM
 ·refine⟨?_,?_,fun o hM=>?_⟩
  ·show (if g=X.w.heap.size then _ else X.own g)=_
   rw[if_neg (by omega)];exact hg
  ·exact Below.heap_alloc _ _ _ hlt
  ·show (if g=X.w.heap.size then True else X.M g o)
   split
   ·trivial
   ·exact hM
theorem i9{k:Nat}{t:List DV}(h:c8 k t=true){i:Nat}{d:DV}(hd:t[i]?=some d):d.ment k=false:=by
 induction t generalizing i with
 |nil=>simp at hd
 |cons e es ih=>
  simp only[c8,aY,Bool.not_eq_true'] at h
  cases i with
  |zero=>simp at hd;subst hd;exact h.1
  |succ i=>exact ih h.2 (by simpa using hd)
theorem f9{k:Nat}{rs:List (List DV)}(h:cZ k rs=true){row:List DV}(hr:row∈rs){d:DV}(hd:d∈row):d.ment k=false:=by
 induction rs with
 |nil=>simp at hr
 |cons e es ih=>
  simp only[cZ,aY] at h;rcases List.mem_cons.1 hr with rfl|hr
  ·obtain⟨i,hi,he⟩:=List.getElem_of_mem hd
   exact i9 h.1 (i:=i) (by rw[List.getElem?_eq_getElem hi,he])
  ·exact ih h.2 hr
theorem hU{k i:Nat}{bs:List (Option Box)}(h:cK k i bs=true){j:Nat}{bx:Box}(hb:bs[j]?=some (some bx))(hne:i+j≠k):cZ k bx.rows=true:=by
 induction bs generalizing i j with
 |nil=>simp at hb
 |cons e es ih=>
  simp only[cK,aY,Bool.or_eq_true,beq_iff_eq] at h
  cases j with
  |zero=>
   simp at hb;subst hb;rcases h.1 with h1|h1
   ·exact absurd (by omega) hne
   ·exact h1
  |succ j=>exact ih h.2 (by simpa using hb) (by omega)
theorem Rel.grow{G:Gl}{X:Cx}{s:St}{a:Act}(h:Rel G X s a){k:Nat}{d:Option Nat}(cs:Array Value)(ty:TypeId)(bx:Box)
  (hT:c8 k (aH s.t d .top)=true) (hB:cK k 0 s.b=true)
  (hsize:cs.size=bx.rows.length*bx.size) (hwidth:∀row,row∈bx.rows->row.length=bx.size)
  (hcells:∀(r o:Nat) row e u,bx.rows[r]?=some row->row[o]?=some e->cs[r*bx.size+o]?=some u->VRel (X.grow k cs ty) G.base (.cell k r o) e u/\u.oneCell'=true)
  (hlive:bx.live=true) (hold:bx.old=false) (hne:bx.size≠0) {v:DV} {u:Value} (hv:VRel (X.grow k cs ty) G.base (.tmp (d.getD 0)) v u) :
  Rel G (X.grow k cs ty) ⟨aH s.t d v,aF s.b k (some bx)⟩ (a.put d u):=by
 have hev:=FO X k cs ty;have hρ:∀j,j≠k->(X.grow k cs ty).ρ j=X.ρ j:=fun j hj=>by show (if j=k then _ else X.ρ j)=_;rw[if_neg hj]
 have h0:Rel G X ⟨aH s.t d .top,s.b⟩ a:=by
  cases d with
  |none=>exact h
  |some i=>exact h.weak i .top trivial
 have h1:Rel G (X.grow k cs ty) ⟨aH s.t d .top,aF s.b k (some bx)⟩ a:=by
  have h0':Rel G X ⟨aH s.t d .top,s.b⟩ a:=h0;refine⟨h0'.defers,h0'.size,?_,?_,h0'.below.trans (.of ((Below.refl _ _).alloc h0'.hb _)),by show _<=(X.w.heap.push _).size;rw[Array.size_push];exact Nat.le_succ_of_le h0'.hb,h0'.mold.1,?_⟩
  ·intro i e he
   have hm:=i9 hT he;refine(h0'.tmps i e he).mono (fun _ _ h=>h) hev trivial fun j hj=>hρ j (fun e'=>by subst e';rw[hm] at hj;cases hj)
  ·intro j bx' hj
   rcases(by rw[getElem?_setL] at hj;exact hj:(if j=k then s.b[j]?.map (fun _=>some bx) else s.b[j]?)=some (some bx')) with hj
   by_cases hjk:j=k
   ·subst hjk
    rw[if_pos rfl] at hj
    have:bx'=bx:=by
     cases hb:s.b[j]? with
     |none=>rw[hb] at hj;simp at hj
     |some _=>rw[hb] at hj;simp at hj;exact hj.symm
    subst this;refine BX.cell (blk:=X.w.heap.size) (cs:=cs) (ty:=ty) hne ⟨?_,?_,⟨.inl h.hb,fun h=>by rw[hold] at h;cases h⟩,?_,Nat.le_of_eq hsize.symm,hwidth,hcells,fun _ o=>?_,fun hl=>by rw[hlive] at hl;cases hl⟩
    ·show (if j=j then some X.w.heap.size else _)=_;rw[if_pos rfl]
    ·show (if X.w.heap.size=X.w.heap.size then _ else _)=_;rw[if_pos rfl]
    ·show (X.w.heap.push _)[_]?=_;simp
    ·show (if _ then True else _);rw[if_pos rfl];trivial
   ·rw[if_neg hjk] at hj
    have hr:=hU hB hj (by omega)
    exact(h0'.boxes j bx' hj).mono (fun _ _ h=>h) hev trivial (fun _ _=>trivial) (hρ j hjk) fun row hrow e he i hi=>
     hρ i (fun e'=>by subst e';rw[f9 hr hrow he] at hi;cases hi)
  ·intro b hb hx o
   have:b<X.w.heap.size:=Nat.lt_of_lt_of_le hb h.hb
   show (if b=X.w.heap.size then True else X.M b o)↔_
   rw[if_neg (by omega)]
   exact h0'.mold.2 b hb hx o
 have h2:=h1.put (d:=d) (v:=v) (u:=u) (fun j hj=>by subst hj;exact hv)
 have e:aH (aH s.t d .top) d v=aH s.t d v:=by
  cases d with
  |none=>rfl
  |some i=>
   apply List.ext_getElem?
   intro j;simp only[aH,getElem?_setL]
   by_cases hj:j=i
   ·subst hj;cases s.t[j]?<;>simp
   ·simp[hj]
 rw[e] at h2;exact h2
section
variable {G:Gl} {X:Cx} {s:St} {a:Act} {Q:Exit->Act->World->Prop} {o:Oper} {K:St->Prop}
theorem Flat.one_of_cell{M:Nat->Nat->Prop}{w:World}{x:PV}{v:Value}(h:Flat M w x v)(hv:v.oneCell'=true):x.one=true:=by
 cases h<;>first|rfl|(simp[Value.oneCell'] at hv)
theorem j7(l:List DV):kW l=l.map DV.copy:=by induction l with|nil=>rfl|cons x xs ih=>simp[kW,ih]
theorem jA(k:Nat)(d:DV):d.copy.ment k=d.ment k:=by
 cases d with
 |ob T=>cases T<;>rfl
 |_=>rfl
theorem jO{X:Cx}{base:Nat}{L:Loc}{x:DV}{v:Value}(h:VRel X base L x v){cs:List DV}(hc:aK x=some cs) :
  v.cells.size=cs.length/\∀(i:Nat) d u,cs[i]?=some d->v.cells[i]?=some u->(∀L',VRel X base L' d.copy u)/\u.oneCell'=true/\∀k,d.ment k=true->x.ment k=true:=by
 have single:x.isP=false->cs=[x]->v.oneCell'=true->v.cells.size=cs.length/\∀(i:Nat) d u,cs[i]?=some d->v.cells[i]?=some u->(∀L',VRel X base L' d.copy u)/\u.oneCell'=true/\∀k,d.ment k=true->x.ment k=true:=by
  intro _ e hone;subst e;rw[cM hone];refine⟨rfl,fun i d u hd hu=>?_⟩
  cases i with
  |zero=>simp at hd hu;subst hd;subst hu;exact⟨fun L'=>h.copy L',hone,fun _ h=>h⟩
  |succ i=>simp at hd
 cases x with
 |ob T=>simp[aK] at hc
 |pk o=>simp[aK] at hc
 |agd rs=>
  simp[aK] at hc;subst hc;obtain⟨vs,rfl,h2,h3⟩:=h;refine⟨by rw[nZ,List.length_map];exact h2,fun i d u hd hu=>?_⟩
  rw[nZ,List.getElem?_map] at hd
  cases hr:rs[i]? with
  |none=>rw[hr] at hd;simp at hd
  |some c=>
   rw[hr] at hd;simp only[Option.map_some,bQ] at hd;subst hd;obtain⟨f1,f2⟩:=h3 i c u hr hu;refine⟨fun L'=>(f1.dv base L').copy L',f2,fun k hk=>?_⟩
   simp only[DV.ment,List.any_eq_true];exact⟨c,cD hr,by cases c<;>exact hk⟩
 |mh k=>
  simp[aK] at hc;obtain⟨blk,_,rfl⟩:=h;exact single rfl hc.symm rfl
 |top=>simp[aK] at hc
 |tup ds=>simp[aK] at hc
 |p z=>
  simp[aK] at hc;subst hc;obtain⟨e1,e2⟩:=Flat.cells (show Flat X.M X.w z v from h)
  refine⟨by simpa using e1,fun i d u hd hu=>?_⟩
  rw[List.getElem?_map] at hd
  cases hz:(aE z)[i]? with
  |none=>rw[hz] at hd;simp at hd
  |some c=>
   rw[hz] at hd;simp at hd;subst hd;obtain⟨f1,f2⟩:=e2 i c u hz hu;exact⟨fun L'=>f1,f1.oneCell f2,fun k hk=>by simp[DV.ment] at hk⟩
 |ow size n rows=>
  simp[aK] at hc;refine single rfl hc.symm ?_;have:=OwRel.flat h;exact this.oneCell rfl
 |addr k size r off=>
  simp[aK] at hc;obtain⟨blk,_,rfl⟩:=h;exact single rfl hc.symm rfl
 |bs k size ag lo n=>
  simp[aK] at hc;obtain⟨blk,cap,_,_,_,_,rfl⟩:=h;exact single rfl hc.symm rfl
 |fn f caps=>
  simp[aK] at hc;obtain⟨vs,rfl,_⟩:=h;exact single rfl hc.symm rfl
theorem tN{X:Cx}{base k:Nat}{cs:Array Value}{ty:TypeId}{L:Loc}{d:DV}{v:Value}(h:VRel X base L d v)(hm:d.ment k=false):VRel (X.grow k cs ty) base L d v :=
 h.mono (S:=fun _=>True) (fun _ _ h=>h) (FO X k cs ty) trivial fun j hj=>by
  show (if j=k then _ else X.ρ j)=_
  rw[if_neg (fun e=>by subst e;rw[hm] at hj;cases hj)]
theorem s_box(h:Rel G X s a){k size:Nat}{t:TypeId}{x:Operand}{ox:O}(hx:OT x ox)(ho:o.op=.box t x)
  (hsne:size≠0) (hf:k<s.b.length/\c8 k (aH s.t o.dst .top)=true/\cK k 0 s.b=true)
  (hK:aD P (.box k size) [ox.val s.t] s.b fun v b=>K ⟨aH s.t o.dst v,b⟩):o.wp P a X.w (aZ G K) Q:=by
 obtain⟨Lx,rx⟩:=h.opnd hx;generalize ox.val s.t=vx at *;simp only[aD] at hK
 cases hc:aK vx with
 |none=>simp[hc] at hK
 |some cs=>
  simp only[hc] at hK;obtain⟨hl,hm,hK⟩:=hK;obtain⟨e1,e2⟩:=jO rx hc
  have run:(execOp a.eval o).run P X.w=.ok (.value (.pointer (some ⟨X.w.heap.size,0,none⟩))) (X.w.alloc (.cells (a.eval x).cells t)):=by
   simp[execOp,ho,Instr.box,newVar,newRow]
  unfold Oper.wp;rw[run,Oper.upon_value];refine⟨_,X.grow k (a.eval x).cells t,h.grow (a.eval x).cells t ⟨true,size,[kW cs],false⟩ hf.2.1 hf.2.2 ?_ ?_ ?_ rfl rfl hsne (v:=.addr k size 0 0) ⟨X.w.heap.size,by simp[Cx.grow],by simp⟩,rfl,hK⟩
  ·simp[e1,hl]
  ·intro row hrow
   simp at hrow;subst hrow;simp[j7,hl]
  ·intro r i row e u hrow he hu
   cases r with
   |zero=>
    simp at hrow;subst hrow;rw[j7,List.getElem?_map] at he
    cases hd:cs[i]? with
    |none=>rw[hd] at he;simp at he
    |some d=>
     rw[hd] at he;simp at he;subst he;obtain⟨f1,f2,f3⟩:=e2 i d u hd (by simpa using hu)
     refine⟨tN (f1 _) ?_,f2⟩;rw[jA]
     cases hmd:d.ment k with
     |false=>rfl
     |true=>have:=f3 k hmd;rw[hm] at this;cases this
   |succ r=>simp at hrow
inductive ZR:DV->Value->Prop
 |int (k:IntKind) (n:Int):ZR (.p (.int k n)) (.int k n)
 |bool (b:Bool):ZR (.p (.bool b)) (.bool b)
 |str (s:ByteArray):ZR (.p (.str s)) (.string s)
 |nil (n:Nat):ZR (.ow n true []) (.slice none 0 0)
 |atom (v:Value) (h:v.oneCell'=true):ZR (.p (.atom v)) v
 |top (v:Value) (h:v.oneCell'=true):ZR .top v
theorem ZR.rel{X:Cx}{base:Nat}{L:Loc}{d:DV}{v:Value}(h:ZR d v):VRel X base L d v/\v.oneCell'=true:=by
 cases h with
 |int k n=>exact⟨Flat.int k n,rfl⟩
 |bool b=>exact⟨Flat.bool b,rfl⟩
 |str s=>exact⟨Flat.str s,rfl⟩
 |nil n=>exact⟨.inl ⟨rfl,.inl ⟨rfl,rfl⟩⟩,rfl⟩
 |atom v h=>exact⟨Flat.atom v h,h⟩
 |top v h=>exact⟨trivial,h⟩
def VN(l:List DV)(vs:Array Value):Prop:=vs.size=l.length/\∀(i:Nat) d v,l[i]?=some d->vs[i]?=some v->ZR d v
theorem s_alloc(h:Rel G X s a){k size:Nat}{zero:List DV}{t:TypeId}(ho:o.op=.alloc t){i:TypeInfo}{z:Value}(hi:P.info? t=some i)(hz:i.zero=some z)(hzr:VN zero z.cells)
  (hsne:size≠0) (hf:k<s.b.length/\c8 k (aH s.t o.dst .top)=true/\cK k 0 s.b=true)
  (hK:aD P (.alloc k size zero) [] s.b fun v b=>K ⟨aH s.t o.dst v,b⟩):o.wp P a X.w (aZ G K) Q:=by
 simp only[aD] at hK;obtain⟨hl,hK⟩:=hK
 have run:(execOp a.eval o).run P X.w=.ok (.value (.pointer (some ⟨X.w.heap.size,0,none⟩))) (X.w.alloc (.cells z.cells t)):=by
  simp[execOp,ho,Instr.alloc,zeroValue,typeInfo,hi,hz,newVar,newRow]
 unfold Oper.wp;rw[run,Oper.upon_value];refine⟨_,X.grow k z.cells t,h.grow z.cells t ⟨true,size,[zero],false⟩ hf.2.1 hf.2.2 ?_ ?_ ?_ rfl rfl hsne (v:=.addr k size 0 0) ⟨X.w.heap.size,by simp[Cx.grow],by simp⟩,rfl,hK⟩
 ·simp[hzr.1,hl]
 ·intro row hrow
  simp at hrow;subst hrow;exact hl
 ·intro r i row e u hrow he hu
  cases r with
  |zero=>
   simp at hrow;subst hrow;exact(hzr.2 i e u he (by simpa using hu)).rel
  |succ r=>simp at hrow
theorem s_mksl(h:Rel G X s a){k size bytes:Nat}{ag:Bool}{zero:List DV}{t e:TypeId}{x y:Operand}{ox oy:O}(hx:OT x ox)(hy:OT y oy)(ho:o.op=.makeSlice t x y)
  (hu:P.underlying t=some (.slice e)) {i:TypeInfo} {z:Value} (hi:P.info? e=some i) (hz:i.zero=some z) (hsz:i.size=size) (hby:i.bytes=bytes) (hzr:VN zero z.cells)
  (hsne:size≠0) (hf:k<s.b.length/\c8 k (aH s.t o.dst .top)=true/\cK k 0 s.b=true)
  (hK:aD P (.mksl k size bytes ag zero) [ox.val s.t,oy.val s.t] s.b fun v b=>K ⟨aH s.t o.dst v,b⟩):o.wp P a X.w (aZ G K) Q:=by
 obtain⟨_,rx⟩:=h.opnd hx;obtain⟨_,ry⟩:=h.opnd hy;generalize ox.val s.t=vx at *;generalize oy.val s.t=vy at *
 obtain⟨k1,n,rfl⟩:∃k1 l',vx=.p (.int k1 l'):=by
  rcases vx with _|x|_|_|_|_|_<;>first|(simp[aD] at hK;done)|skip
  cases x<;>first|(simp[aD] at hK;done)|exact⟨_,_,rfl⟩
 obtain⟨k2,m,rfl⟩:∃k1 l',vy=.p (.int k1 l'):=by
  rcases vy with _|x|_|_|_|_|_<;>first|(simp[aD] at hK;done)|skip
  cases x<;>first|(simp[aD] at hK;done)|exact⟨_,_,rfl⟩
 simp only[aD] at hK;obtain⟨rfl,h0,hb,hmax,hzl,hK⟩:=hK;have ex:=Flat.intv rx;have ey:=Flat.intv ry;subst hsz;subst hby;have hm63:n<=9223372036854775807:=by simpa [maxLen] using hmax
 have hr:=run_make (P:=P) X.w t e i z hu hi hz k1 k2 n n h0 (Int.le_refl _) (by rw[Int.mul_comm];omega) hm63
 have run:(execOp a.eval o).run P X.w=.ok (.value (.slice (some ⟨X.w.heap.size,0,none⟩) n.toNat n.toNat)) (X.w.alloc (.cells (madeCells z.cells (n.toNat*i.size)) e)):=by
  simp[execOp,ho,ex,ey,hr]
 unfold Oper.wp;rw[run,Oper.upon_value];have hzs:z.cells.size=i.size:=hzr.1.trans hzl;refine⟨_,X.grow k _ e,h.grow (madeCells z.cells (n.toNat*i.size)) e ⟨true,i.size,List.replicate n.toNat zero,false⟩ hf.2.1 hf.2.2 ?_ ?_ ?_ rfl rfl hsne (v:=.bs k i.size ag 0 n.toNat) ?_,rfl,hK⟩
 ·simp[size_madeCells]
 ·intro row hrow
  rw[(List.mem_replicate.1 hrow).2];exact hzl
 ·intro r j row d u hrow hd hu
  rw[List.getElem?_replicate] at hrow
  split at hrow
  ·rename_i hrn
   injection hrow with hrow
   subst hrow;have hj:j<i.size:=by rw[<-hzl];exact(bM.1 hd).1
   have hlt:r*i.size+j<n.toNat*i.size:=by
    have:(r+1)*i.size<=n.toNat*i.size:=Nat.mul_le_mul_right _ hrn;rw[Nat.add_mul] at this;omega
   have hmod:(r*i.size+j)%i.size=j:=by rw[Nat.add_comm,Nat.add_mul_mod_self_right];exact Nat.mod_eq_of_lt hj
   have hjz:j<z.cells.size:=by omega
   have hu':z.cells[j]?=some u:=by
    simp only[madeCells,Array.getElem?_map] at hu;rw[Array.getElem?_range,if_pos hlt] at hu;simp only[Option.map_some,bQ] at hu;rw[hzs,hmod] at hu;rw[<-hu];simp[hjz]
   exact(hzr.2 j d u hd hu').rel
  ·cases hrow
 ·exact⟨X.w.heap.size,n.toNat,by simp[Cx.grow],Nat.le_refl _,by omega,⟨madeCells z.cells (n.toNat*i.size),e,by show (X.w.heap.push _)[_]?=_;simp,by simp[madeCells]⟩,by simp⟩
end
open Go.RowKit
variable {P:Program}
section
variable {G:Gl} {X:Cx} {s:St} {a:Act} {Q:Exit->Act->World->Prop} {o:Oper} {K:St->Prop}
theorem kE{t:TypeId}{n:Nat}(ht:TyIs P t n false){x:Operand}(ho:o.op=.load t x){b i:Nat}(ev:a.eval x=.pointer (some ⟨b,i,none⟩)){w:World}{v:Value}
  (hv:w.cell? ⟨b,i,none⟩=some v):(execOp a.eval o).run P w=.ok (.value v) w:=by
 simp[execOp,ho,ev,Instr.loadAt,Instr.sureAddr,loadVar,ht.run_isAgg,run_load,hv]
theorem jK{t:TypeId}{n:Nat}(ht:TyIs P t n true){x:Operand}(ho:o.op=.load t x){b i:Nat}(ev:a.eval x=.pointer (some ⟨b,i,none⟩)){w:World}(f:Nat->Value)
  (hv:∀j,j<n->w.cell? ⟨b,i+j,none⟩=some (f j)):(execOp a.eval o).run P w=.ok (.value (.agg ((List.range n).map f).toArray)) w:=by
 have:=run_loadCells (P:=P) w ⟨b,i,none⟩ n f (fun j hj=>by rw[Addr.add_lit];exact hv j hj)
 simp[execOp,ho,ev,Instr.loadAt,Instr.sureAddr,loadVar,ht.run_isAgg,ht.run_sizeOf,this]
theorem s_loadP(h:Rel G X s a){t:TypeId}{n:Nat}{isA take:Bool}(ht:TyIs P t n isA){x:Operand}{ox:O}(hx:OT x ox)(ho:o.op=.load t x){cells:List PV}{off:Nat}
  (e:ox.val s.t=.p (.ptr cells off)) (hK:aD P (.load n isA take) [ox.val s.t] s.b fun v b=>K ⟨aH s.t o.dst v,b⟩):o.wp P a X.w (aZ G K) Q:=by
 obtain⟨_,rx⟩:=h.opnd hx;rw[e] at rx hK;simp only[aD,gB] at hK;generalize hv:a.eval x=v at *;have rx':Flat X.M X.w (.ptr cells off) v:=rx
 cases rx' with
 |ptr _ _ b n0 cv hc h1 hr=>
  cases isA with
  |true=>
   simp only[if_true] at hK;obtain⟨hle,hK⟩:=hK;refine bC (z:=.agg _) h (jK ht ho hv (fun j=>cv (off+j)) fun j hj=>?_) (.agg _ _ ?_ ?_ ?_) hK
   ·have:=(hc (off+j) (by omega)).1
    rw[Nat.add_assoc];exact this
   ·rw[j4];simp;omega
   ·intro c hcm;rw[j4] at hcm;exact h1 c (List.mem_of_mem_drop (List.mem_of_mem_take hcm))
   ·intro i c u hci hu
    rw[j4,List.getElem?_take] at hci
    split at hci
    ·rename_i hin
     rw[List.getElem?_drop] at hci;have:u=cv (off+i):=by simpa [hin,eq_comm] using hu
     subst this;exact hr _ c hci
    ·cases hci
  |false=>
   simp only[Bool.false_eq_true,if_false] at hK;obtain⟨c,hcc,hK⟩:=hK;have hlt:=(bM.1 hcc).1;exact bC (z:=c) h (kE ht ho hv (hc off hlt).1) (hr off c hcc) hK
theorem lR{ds:List DV}{xs:List PV}(h:cH ds=some xs):xs.length=ds.length/\∀(i:Nat) d x,ds[i]?=some d->xs[i]?=some x->uK d=some x:=by
 induction ds generalizing xs with
 |nil=>simp[cH] at h;subst h;exact⟨rfl,fun i d x hd=>by simp at hd⟩
 |cons d ds ih=>
  simp only[cH] at h
  cases hd:uK d with
  |none=>simp[hd] at h
  |some x=>
   cases hds:cH ds with
   |none=>simp[hd,hds] at h
   |some ys=>
    simp[hd,hds] at h;subst h;obtain⟨e1,e2⟩:=ih hds;refine⟨by simp[e1],fun i d' x' hd' hx'=>?_⟩
    cases i with
    |zero=>simp at hd' hx';subst hd';subst hx';exact hd
    |succ i=>exact e2 i d' x' (by simpa using hd') (by simpa using hx')
theorem BoxRel.cell{X:Cx}{base k:Nat}{bx:Box}{blk:Nat}{cs:Array Value}{ty:TypeId}(hb:BoxRel X base k bx blk cs ty){r i:Nat}{row:List DV}(hr:bx.rows[r]?=some row)(hi:i<row.length) :
  ∃u,cs[r*bx.size+i]?=some u/\X.w.cell? ⟨blk,r*bx.size+i,none⟩=some u/\VRel X base (.cell k r i) row[i] u/\u.oneCell'=true:=by
 have hw:=hb.width row (cD hr);have hrl:=(bM.1 hr).1
 have hlt:r*bx.size+i<cs.size:=by
  have:=hb.size;have:(r+1)*bx.size<=bx.rows.length*bx.size:=Nat.mul_le_mul_right _ hrl;rw[Nat.add_mul] at this;omega
 have hu:cs[r*bx.size+i]?=some cs[r*bx.size+i]:=by simp[hlt]
 obtain⟨h1,h2⟩:=hb.cells r i row row[i] _ hr (by simp[hi]) hu
 exact⟨_,hu,by rw[dE hb.heap];exact hu,h1,h2⟩
theorem BoxRel.upd{X:Cx}{base k:Nat}{bx:Box}{blk:Nat}{cs:Array Value}{ty:TypeId}(hb:BoxRel X base k bx blk cs ty){r i:Nat}{row:List DV}(hr:bx.rows[r]?=some row){d:DV}{own':Nat->Option Loc}
  (ho:own' blk=some (.box k))
  (hd:∀u,cs[r*bx.size+i]?=some u->VRel { X with own:=own' } base (.cell k r i) d u) (hp:bx.live=false->d.isP=true)
  (hcs:∀(r' o':Nat) e u,¬(r'=r/\o'=i)->VRel X base (.cell k r' o') e u->VRel { X with own:=own' } base (.cell k r' o') e u) :
  BoxRel { X with own:=own' } base k { bx with rows:=aF bx.rows r (aF row i d) } blk cs ty:=by
 refine⟨hb.ρ,ho,hb.hbase,hb.heap,by simpa [aI] using hb.size,?_,?_,hb.live,?_⟩
 ·intro row' hrow'
  obtain⟨j,hj⟩:=List.getElem?_of_mem hrow';simp only[getElem?_setL] at hj
  by_cases hjr:j=r
  ·subst hjr
   rw[if_pos rfl,hr] at hj;simp at hj;subst hj;rw[aI];exact hb.width row (cD hr)
  ·rw[if_neg hjr] at hj
   exact hb.width row' (cD hj)
 ·intro r' o' row' e u hrow' he hu
  simp only[getElem?_setL] at hrow'
  by_cases hjr:r'=r
  ·subst hjr
   rw[if_pos rfl,hr] at hrow';simp at hrow';subst hrow';rw[getElem?_setL] at he
   by_cases hoo:o'=i
   ·subst hoo
    rw[if_pos rfl] at he
    cases hx:row[o']? with
    |none=>rw[hx] at he;simp at he
    |some e0=>
     rw[hx] at he;simp at he;subst he;exact⟨hd u hu,(hb.cells r' o' row e0 u hr hx hu).2⟩
   ·rw[if_neg hoo] at he
    obtain⟨f1,f2⟩:=hb.cells r' o' row e u hr he hu;exact⟨hcs r' o' e u (fun hh=>hoo hh.2) f1,f2⟩
  ·rw[if_neg hjr] at hrow'
   obtain⟨f1,f2⟩:=hb.cells r' o' row' e u hrow' he hu;exact⟨hcs r' o' e u (fun hh=>hjr hh.1) f1,f2⟩
 ·intro hl
  obtain⟨f1,f2⟩:=hb.fixed hl;refine⟨by simpa [aI] using f1,fun row' hrow' e he=>?_⟩
  obtain⟨j,hj⟩:=List.getElem?_of_mem hrow';simp only[getElem?_setL] at hj
  by_cases hjr:j=r
  ·subst hjr
   rw[if_pos rfl,hr] at hj;simp at hj;subst hj;obtain⟨q,hq⟩:=List.getElem?_of_mem he;rw[getElem?_setL] at hq
   by_cases hqi:q=i
   ·subst hqi
    rw[if_pos rfl] at hq
    cases hx:row[q]? with
    |none=>rw[hx] at hq;simp at hq
    |some e0=>rw[hx] at hq;simp at hq;subst hq;exact hp hl
   ·rw[if_neg hqi] at hq
    exact f2 row (cD hr) e (cD hq)
  ·rw[if_neg hjr] at hj
   exact f2 row' (cD hj) e he
theorem b8{bs:List (Option Box)}{k:Nat}{bx:Box}(h:bF bs k=some bx):bs[k]?=some (some bx):=by
 rw[FM] at h;have h:=(nJ h).1
 cases hk:bs[k]? with
 |none=>rw[hk] at h;simp at h
 |some x=>rw[hk] at h;simp at h;rw[h]
theorem bG{bs:List (Option Box)}{k:Nat}{bx:Box}(h:bF bs k=some bx):bx.size≠0:=by
 rw[FM] at h;exact(nJ h).2
theorem eE{bs:List (Option Box)}{k:Nat}{bx:Box}(h:dV bs k=some bx):bs[k]?=some (some bx)/\bx.size=0:=by
 rw[MC] at h;obtain⟨h1,h2⟩:=GI h;refine⟨?_,h2⟩
 cases hk:bs[k]? with
 |none=>rw[hk] at h1;simp at h1
 |some x=>rw[hk] at h1;simp at h1;rw[h1]
theorem dI{bs:List (Option Box)}{k j:Nat}{bx bx':Box}(h:(aF bs k (some bx))[j]?=some (some bx')):(j=k/\bx'=bx)\/(j≠k/\bs[j]?=some (some bx')):=by
 rw[getElem?_setL] at h
 by_cases hjk:j=k
 ·subst hjk
  rw[if_pos rfl] at h
  cases hb:bs[j]? with
  |none=>rw[hb] at h;simp at h
  |some _=>rw[hb] at h;simp at h;exact .inl ⟨rfl,h.symm⟩
 ·rw[if_neg hjk] at h
  exact .inr ⟨hjk,h⟩
theorem BoxRel.weak{X:Cx}{base k:Nat}{bx:Box}{blk:Nat}{cs:Array Value}{ty:TypeId}(hb:BoxRel X base k bx blk cs ty){r i:Nat}{row:List DV}(hr:bx.rows[r]?=some row){d:DV}
  (hd:∀u,cs[r*bx.size+i]?=some u->VRel X base (.cell k r i) d u) (hp:bx.live=false->d.isP=true):BoxRel X base k { bx with rows:=aF bx.rows r (aF row i d) } blk cs ty :=
 hb.upd hr hb.own hd hp fun _ _ _ _ _ h=>h
def hG(k r i m:Nat):Loc->Loc
 | .cell k' r' i'=>if k'=k/\r'=r/\i'=i then .tmp m else .cell k' r' i'
 | .comp L j=>.comp (hG k r i m L) j
 |L=>L
theorem G7(k r i m:Nat)(L:Loc)(h:L.root≠.cell k r i):hG k r i m L=L:=by
 induction L with
 |cell k' r' i'=>simp only[hG];rw[if_neg];rintro⟨rfl,rfl,rfl⟩;exact h rfl
 |comp L j ih=>simp only[hG];rw[ih h]
 |_=>rfl
theorem s_loadB(h:Rel G X s a){t:TypeId}{n:Nat}{isA take:Bool}(ht:TyIs P t n isA){x:Operand}{ox:O}(hx:OT x ox)(ho:o.op=.load t x){k sz r off:Nat}
  (e:ox.val s.t=.addr k sz r off) (hK:aD P (.load n isA take) [ox.val s.t] s.b fun v b=>K ⟨aH s.t o.dst v,b⟩):o.wp P a X.w (aZ G K) Q:=by
 obtain⟨_,rx⟩:=h.opnd hx;rw[e] at rx hK;obtain⟨blk,hρ,ev⟩:=rx;simp only[aD] at hK
 cases hbk:bF s.b k with
 |none=>simp[hbk] at hK
 |some bx=>
  simp only[hbk] at hK;obtain⟨rfl,row,hr,hle,hK⟩:=hK;have hbk':=b8 hbk;obtain⟨blk',cs,ty,hb⟩:=h.cbox hbk' (bG hbk);have:blk'=blk:=by have:=hb.ρ;rw[hρ] at this;injection this with h;exact h.symm
  subst this
  cases isA with
  |true=>
   simp only[if_true] at hK
   cases hp:cH (eW row off n) with
   |none=>simp[hp] at hK
   |some xs=>
    simp only[hp] at hK;obtain⟨e1,e2⟩:=lR hp
    have hcell:∀j,j<n->∃u,X.w.cell? ⟨blk',r*bx.size+off+j,none⟩=some u/\VRel X G.base (.cell k r (off+j)) (row[off+j]?.getD .top) u/\u.oneCell'=true:=by
     intro j hj;obtain⟨u,_,h2,h3,h4⟩:=hb.cell hr (i:=off+j) (by omega)
     refine⟨u,by rw[Nat.add_assoc];exact h2,?_,h4⟩
     rw[List.getElem?_eq_getElem (by omega)]
     exact h3
    have hf:∃f:Nat->Value,∀j,j<n->X.w.cell? ⟨blk',r*bx.size+off+j,none⟩=some (f j)/\VRel X G.base (.cell k r (off+j)) (row[off+j]?.getD .top) (f j)/\(f j).oneCell'=true:=by
     refine⟨fun j=>if hj:j<n then (hcell j hj).choose else undef,fun j hj=>?_⟩
     simp only[dif_pos hj];exact(hcell j hj).choose_spec
    obtain⟨f,hf⟩:=hf;have hlen:xs.length=n:=by rw[e1,iX];simp;omega
    have hcs:∀(i:Nat) c,xs[i]?=some c->i<n/\Flat X.M X.w c (f i)/\c.one=true:=by
     intro i c hc;have hin:i<n:=by rw[<-hlen];exact(bM.1 hc).1
     have hd:(eW row off n)[i]?=some (row[off+i]?.getD .top):=by
      rw[iX,List.getElem?_take,if_pos hin,List.getElem?_drop,List.getElem?_eq_getElem (by omega)];rfl
     have hpv:=e2 i _ c hd hc;have:=EJ (hf i hin).2.1 hpv;exact⟨hin,this,this.one_of_cell (hf i hin).2.2⟩
    refine bC (z:=.agg xs) h (jK ht ho ev f fun j hj=>(hf j hj).1) (.agg _ _ (by simp[hlen]) ?_ ?_) hK
    ·intro c hc
     obtain⟨i,hi⟩:=List.getElem?_of_mem hc;exact(hcs i c hi).2.2
    ·intro i c u hc hu
     obtain⟨hin,h1,_⟩:=hcs i c hc;have:u=f i:=by simpa [hin,eq_comm] using hu
     subst this;exact h1
  |false=>
   simp only[Bool.false_eq_true,if_false] at hK;obtain⟨d,hd,hK⟩:=hK;have hlt:=(bM.1 hd).1;obtain⟨u,hcu,hu,hv,h1⟩:=hb.cell hr hlt;rw[(bM.1 hd).2] at hv;have run:=kE ht ho ev hu
   cases take with
   |false=>
    simp only[Bool.false_eq_true,if_false] at hK;exact bI h run (fun j _=>hv.copy _) hK
   |true=>
    simp only[if_true] at hK;unfold Oper.wp;rw[run,Oper.upon_value]
    cases hdst:o.dst with
    |none=>
     rw[hdst] at hK;refine⟨_,X,?_,rfl,hK⟩;refine⟨by rw[tL];exact h.defers,by rw[CH];simpa [aH] using h.size,?_,?_,h.below,h.hb,h.mold⟩
     ·intro i e he;rw[AF];simpa [aH] using h.tmps i e (by simpa [aH] using he)
     ·intro j bx' hj
      rcases dI hj with ⟨rfl,rfl⟩|⟨_,hj⟩
      ·refine BX.cell (show bx.size≠0 from bG hbk) (hb.weak hr (fun u' hu'=>?_) fun hl=>?_)
       ·rw[hcu] at hu';injection hu' with hu';subst hu';exact hv.copy _
       ·have:=(hb.fixed hl).2 row (cD hr) d (cD hd)
        cases d<;>first|rfl|(simp[DV.isP] at this)
      ·exact h.boxes j bx' hj
    |some m=>
     rw[hdst] at hK;have hmv:=hv.moved (hG k r off m) (fun _ _=>rfl)
     have e1:hG k r off m (.cell k r off)=.tmp m:=by simp[hG]
     rw[e1] at hmv;have hev:=oF X (hG k r off m) (fun L=>L.root≠.cell k r off) fun L hL=>G7 k r off m L hL
     have hch:Rel G (X.moved (hG k r off m)) ⟨s.t,aF s.b k (some { bx with rows:=aF bx.rows r (aF row off d.copy) })⟩ a:=by
      refine⟨h.defers,h.size,?_,?_,h.below,h.hb,h.mold⟩
      ·intro i e he
       exact(h.tmps i e he).mono (fun _ _ h=>h) hev (by simp[Loc.root]) fun _ _=>rfl
      ·intro j bx' hj
       rcases dI hj with ⟨rfl,rfl⟩|⟨hne,hj⟩
       ·refine BX.cell (show bx.size≠0 from bG hbk) (hb.upd hr (own':=fun g=>(X.own g).map (hG j r off m)) (by simp[hb.own,hG]) (fun u' hu'=>?_) (fun hl=>?_) fun r' o' e u' hne hv'=>?_)
        ·rw[hcu] at hu';injection hu' with hu';subst hu';exact hv.copy_moved _ _
        ·have:=(hb.fixed hl).2 row (cD hr) d (cD hd)
         cases d<;>first|rfl|(simp[DV.isP] at this)
        ·exact hv'.mono (fun _ _ h=>h) hev (by simp only[Loc.root,ne_eq,Loc.cell.injEq,true_and];exact hne) fun _ _=>rfl
       ·exact(h.boxes j bx' hj).mono (fun _ _ h=>h) hev (by simp[Loc.root]) (fun r' o'=>by simp[Loc.root,hne]) rfl fun _ _ _ _ _ _=>rfl
     refine⟨_,_,hch.put (d:=some m) (v:=d) (u:=u) (fun i hi=>?_),rfl,hK⟩
     injection hi with hi
     subst hi;exact hmv
end
open Go.RowKit
variable {P:Program}
def iS(n k r i:Nat):Loc->Loc
 | .tmp j=>if j=n then .cell k r i else .tmp j
 | .comp L j=>.comp (iS n k r i L) j
 |L=>L
theorem GX(n k r i:Nat)(L:Loc)(h:L.root≠.tmp n):iS n k r i L=L:=by
 induction L with
 |tmp j=>simp only[iS];rw[if_neg];rintro rfl;exact h rfl
 |comp L j ih=>simp only[iS];rw[ih h]
 |_=>rfl
theorem vN(l:List DV)(o:Nat)(cs:List DV):(iR l o cs).length=l.length:=by
 induction cs generalizing l o with
 |nil=>rfl
 |cons c cs ih=>simp[iR,ih,aI]
theorem E9(l:List DV)(o:Nat)(cs:List DV)(i:Nat):(iR l o cs)[i]?=if o<=i/\i<o+cs.length/\i<l.length then cs[i-o]? else l[i]?:=by
 induction cs generalizing l o with
 |nil=>simp[iR];intro h1 h2;omega
 |cons c cs ih=>
  rw[iR,ih,aI,getElem?_setL]
  by_cases h1:i=o
  ·subst h1
   rw[if_neg (by omega),if_pos rfl]
   by_cases hl:i<l.length
   ·rw[if_pos ⟨Nat.le_refl _,by simp,hl⟩];simp[hl]
   ·rw[if_neg (by omega)];simp[hl]
  ·by_cases h2:o+1<=i/\i<o+1+cs.length/\i<l.length
   ·rw[if_pos h2,if_pos ⟨by omega,by simp;omega,h2.2.2⟩]
    have:i-o=(i-(o+1))+1:=by omega
    rw[this];simp
   ·rw[if_neg h2,if_neg h1,if_neg (by simp;omega)]
section
variable {G:Gl} {X:Cx} {s:St} {a:Act} {Q:Exit->Act->World->Prop} {o:Oper} {K:St->Prop}
theorem J1(h:Rel G X s a){n k r off:Nat}{y:Operand}{oy:O}(hy:OT y oy){cs:List DV}(hc:aK (oy.val s.t)=some cs){ox:O} :
  ∃own',Rel G { X with own:=own' } ⟨fE (.store n) [ox,oy] s.t,s.b⟩ a/\(a.eval y).cells.size=cs.length /\
   ∀(i:Nat) d u,cs[i]?=some d->(a.eval y).cells[i]?=some u->VRel { X with own:=own' } G.base (.cell k r (off+i)) d u/\u.oneCell'=true:=by
 cases oy with
 |c d=>
  refine⟨X.own,h,?_⟩;have hr:∀L,VRel X G.base L d (a.eval y):=fun L=>VRel.const (t:=s.t) (o:=.c d) hy (by intro n hn;cases hn)
  obtain⟨e1,e2⟩:=jO (hr (.tmp 0)) hc;refine⟨e1,fun i d' u hd hu=>?_⟩
  obtain⟨f1,f2,_⟩:=e2 i d' u hd hu;refine⟨?_,f2⟩;simp only[O.val] at hc
  cases d with
  |ow sz nl rows=>
   simp[aK] at hc;subst hc
   cases i with
   |zero=>
    simp at hd;subst hd
    have hone:(a.eval y).oneCell'=true:=by
     have:=OwRel.flat (hr (.tmp 0));exact this.oneCell rfl
    rw[cM hone] at hu;simp at hu;subst hu;exact hr _
   |succ i=>simp at hd
  |p z=>
   simp[aK] at hc;subst hc;rw[List.getElem?_map] at hd
   cases hz:(aE z)[i]? with
   |none=>rw[hz] at hd;simp at hd
   |some c=>rw[hz] at hd;simp at hd;subst hd;exact f1 _
  |top=>simp[aK] at hc
  |ob T=>simp[aK] at hc
  |pk o=>simp[aK] at hc
  |agd rs=>
   simp[aK] at hc;subst hc
   obtain⟨c,rfl⟩:∃c:RfV,d'=c.dv:=by
    rw[nZ,List.getElem?_map] at hd
    cases hr:rs[i]? with
    |none=>rw[hr] at hd;simp at hd
    |some c=>rw[hr] at hd;simp at hd;exact⟨c,hd.symm⟩
   cases c<;>exact f1 (.tmp 0)
  |mh k=>
   simp[aK] at hc;subst hc
   cases i with
   |zero=>simp at hd;subst hd;exact f1 _
   |succ i=>simp at hd
  |tup ds=>simp[aK] at hc
  |addr k' size r' off'=>
   simp[aK] at hc;subst hc
   cases i with
   |zero=>simp at hd;subst hd;exact f1 _
   |succ i=>simp at hd
  |bs k' size ag lo m=>
   simp[aK] at hc;subst hc
   cases i with
   |zero=>simp at hd;subst hd;exact f1 _
   |succ i=>simp at hd
  |fn f caps=>
   simp[aK] at hc;subst hc
   cases i with
   |zero=>simp at hd;subst hd;exact f1 _
   |succ i=>simp at hd
 |t m=>
  have hye:y=.tmp m:=by cases hy;rfl
  subst hye;have hv:=h.get m;simp only[O.val] at hc;simp only[fE];have hweak:=h.weak m (aT s.t m).copy (hv.copy _)
  have hchange:Rel G (X.moved (iS m k r off)) ⟨aF s.t m (aT s.t m).copy,s.b⟩ a:=by
   refine hweak.change (fun L=>L.root≠.tmp m) (fun L j h=>h) (oF X _ _ fun L hL=>GX m k r off L hL) ?_ ?_ (Below.refl _ _) (fun _ _ _=>Iff.rfl)
   ·intro i d hd
    rcases pF hd with ⟨rfl,rfl,_⟩|⟨hne,_⟩
    ·exact .inr (hv.copy_moved _ _)
    ·exact .inl ⟨fun e=>hne (by simpa [Loc.root] using e),fun _ _=>rfl⟩
   ·intro k' bx hk
    exact .inl ⟨by simp[Loc.root],by simp[Loc.root],rfl,fun _ _ _ _ _ _=>rfl⟩
  refine⟨_,hchange,?_⟩;obtain⟨e1,e2⟩:=jO hv hc;refine⟨e1,fun i d' u hd hu=>?_⟩
  obtain⟨f1,f2,_⟩:=e2 i d' u hd hu;refine⟨?_,f2⟩
  have hcm:d'.copy=d'->VRel (X.moved (iS m k r off)) G.base (.cell k r (off+i)) d' u:=by
   intro e;have:=(f1 (.tmp 0)).copy_moved (iS m k r off) (.cell k r (off+i));rw[e,e] at this;exact this
  generalize hg:aT s.t m=dv at *
  cases dv with
  |ow sz nl rows=>
   simp[aK] at hc;subst hc
   cases i with
   |zero=>
    simp at hd;subst hd
    have hone:(a.eval (.tmp m)).oneCell'=true:=by
     have:=OwRel.flat hv;exact this.oneCell rfl
    rw[cM hone] at hu;simp at hu;subst hu;have:=hv.moved (iS m k r off) (fun _ _=>rfl)
    have e:iS m k r off (.tmp m)=.cell k r off:=by simp[iS]
    rw[e] at this;exact this
   |succ i=>simp at hd
  |p z=>
   simp[aK] at hc;subst hc;rw[List.getElem?_map] at hd
   cases hz:(aE z)[i]? with
   |none=>rw[hz] at hd;simp at hd
   |some c=>rw[hz] at hd;simp at hd;subst hd;exact hcm rfl
  |top=>simp[aK] at hc
  |ob T=>simp[aK] at hc
  |pk o=>simp[aK] at hc
  |agd rs=>
   simp[aK] at hc;subst hc
   obtain⟨c,rfl⟩:∃c:RfV,d'=c.dv:=by
    rw[nZ,List.getElem?_map] at hd
    cases hr:rs[i]? with
    |none=>rw[hr] at hd;simp at hd
    |some c=>rw[hr] at hd;simp at hd;exact⟨c,hd.symm⟩
   exact hcm (by cases c<;>rfl)
  |mh k=>
   simp[aK] at hc;subst hc
   cases i with
   |zero=>simp at hd;subst hd;exact hcm rfl
   |succ i=>simp at hd
  |tup ds=>simp[aK] at hc
  |addr k' size r' off'=>
   simp[aK] at hc;subst hc
   cases i with
   |zero=>simp at hd;subst hd;exact hcm rfl
   |succ i=>simp at hd
  |bs k' size ag lo m=>
   simp[aK] at hc;subst hc
   cases i with
   |zero=>simp at hd;subst hd;exact hcm rfl
   |succ i=>simp at hd
  |fn f caps=>
   simp[aK] at hc;subst hc
   cases i with
   |zero=>simp at hd;subst hd;exact hcm rfl
   |succ i=>simp at hd
theorem nD(cur:Array Value)(o0:Nat)(vs:List Value)(j:Nat)(hl:o0+vs.length<=cur.size) :
  (cur.toList.take o0++vs++cur.toList.drop (o0+vs.length)).toArray[j]?=if o0<=j/\j<o0+vs.length then vs[j-o0]? else cur[j]?:=by
 simp only[List.getElem?_toArray,List.append_assoc];rw[List.getElem?_append];have h1:(cur.toList.take o0).length=o0:=by simp;omega
 rw[h1]
 by_cases hj:j<o0
 ·rw[if_pos hj,if_neg (by omega),List.getElem?_take,if_pos hj];simp
 ·rw[if_neg hj,List.getElem?_append]
  by_cases hj2:j-o0<vs.length
  ·rw[if_pos hj2,if_pos (by omega)]
  ·rw[if_neg hj2,if_neg (by omega),List.getElem?_drop]
   have:o0+vs.length+(j-o0-vs.length)=j:=by omega
   rw[this];simp
theorem s_store(h:Rel G X s a){t:TypeId}{n:Nat}{isA:Bool}(ht:TyIs P t n isA){x y:Operand}{ox oy:O}(hx:OT x ox)(hy:OT y oy)(ho:o.op=.store t x y)(hdst:o.dst=none)
  (hne:∀m,oy=.t m->ox≠.t m)
  (hK:aD P (.store n) [ox.val s.t,oy.val s.t] s.b fun v b=>K ⟨aH (fE (.store n) [ox,oy] s.t) o.dst v,b⟩):o.wp P a X.w (aZ G K) Q:=by
 obtain⟨_,rx⟩:=h.opnd hx
 obtain⟨k,sz,r,off,e⟩:∃k sz r off,ox.val s.t=.addr k sz r off:=by
  generalize ox.val s.t=vx at *;rcases vx with _|_|_|_|⟨k,sz,r,off⟩|_|_<;>first|exact⟨_,_,_,_,rfl⟩|(simp[aD] at hK)
 rw[e] at rx hK;obtain⟨blk,hρ,ev⟩:=rx;simp only[aD] at hK
 cases hbk:bF s.b k with
 |none=>simp[hbk] at hK
 |some bx=>
  cases hcs:aK (oy.val s.t) with
  |none=>simp[hbk,hcs] at hK
  |some cs=>
   simp only[hbk,hcs] at hK;obtain⟨rfl,hlive,hlen,row,hr,hle,hK⟩:=hK;obtain⟨own',hrel,hvs,hval⟩:=J1 (n:=n) (k:=k) (r:=r) (off:=off) (ox:=ox) h hy hcs;generalize hX1:({ X with own:=own' }:Cx)=X1 at *
   have eρ:X1.ρ=X.ρ:=by subst hX1;rfl
   have ew:X1.w=X.w:=by subst hX1;rfl
   obtain⟨blk',cur,ty,hb⟩:=hrel.cbox (b8 hbk) (bG hbk);have:blk'=blk:=by have:=hb.ρ;rw[eρ,hρ] at this;injection this with h;exact h.symm
   subst this;have hw:=hb.width row (cD hr);have hrl:=(bM.1 hr).1;generalize hvl:(a.eval y).cells.toList=vl at *;have hvlen:vl.length=n:=by rw[<-hvl];simp[hvs,hlen]
   have hget:∀(i:Nat),(a.eval y).cells[i]?=vl[i]?:=fun i=>by rw[<-hvl];simp
   have hfit:r*bx.size+off+vl.length<=cur.size:=by
    rw[hvlen];have:=hb.size;have:(r+1)*bx.size<=bx.rows.length*bx.size:=Nat.mul_le_mul_right _ hrl;rw[Nat.add_mul] at this;omega
   have hone:∀v∈vl,v.oneCell'=true:=by
    intro v hv;obtain⟨i,hi⟩:=List.getElem?_of_mem hv;have hilt:=(bM.1 hi).1;have:i<cs.length:=by omega
    exact(hval i cs[i] v (by simp[this]) (by rw[hget];exact hi)).2
   have hrow:=run_storeCells_at P blk' (r*bx.size+off) ty vl 0 cur X1.w hb.heap (by simpa using hfit) hone
   simp only[Nat.add_zero] at hrow;have hsz:(a.eval y).cells.size=n:=by rw[hvs,hlen]
   rw[<-ew]
   have run:(execOp a.eval o).run P X1.w=.ok .skip (X1.w.setRow blk' (cur.toList.take (r*bx.size+off)++vl++cur.toList.drop (r*bx.size+off+vl.length)).toArray):=by
    simp[execOp,ho,ev,Instr.storeAt,Instr.sureAddr,storeVar,ht.run_sizeOf,hsz,hvl,hrow]
   unfold Oper.wp;rw[run,Oper.upon_skip,hdst];have hp:a.put none undef=a:=rfl;rw[hp];generalize hnew:(cur.toList.take (r*bx.size+off)++vl++cur.toList.drop (r*bx.size+off+vl.length)).toArray=new at *
   have hnewget:∀j,new[j]?=if r*bx.size+off<=j/\j<r*bx.size+off+vl.length then vl[j-(r*bx.size+off)]? else cur[j]?:=by
    intro j;rw[<-hnew];exact nD cur _ vl j hfit
   have hnewsize:new.size=cur.size:=by rw[<-hnew];simp;omega
   have hheap:(X1.w.setRow blk' new).heap[blk']?=some (.cells new ty (0,0)):=setRow_heap _ _ cur new ty (0,0) hb.heap;have hlt:blk'<X1.w.heap.size:=(Array.getElem?_eq_some_iff.1 hb.heap).1
   have hszA:∀g,SzAt X1.w (X1.w.setRow blk' new) g:=by
    intro g cs' ty' hg
    by_cases e:g=blk'
    ·subst e;rw[hb.heap] at hg;injection hg with hg;injection hg with hg1 hg2;subst hg1;exact⟨new,ty,hheap,hnewsize⟩
    ·exact⟨cs',ty',(setRow_other _ _ _ _ e).trans hg,rfl⟩
   have hev:Ev (fun L=>L≠.box k) X1 { X1 with w:=X1.w.setRow blk' new }:=by
    refine⟨fun b i v hM hcv=>?_,fun g L hg hS hgl=>?_,rfl,hszA⟩
    ·have hbne:b≠blk':=fun e=>by subst e;exact hM (hb.live hlive i)
     exact⟨(World.cell?_of_block (w:=X1.w) (setRow_other _ _ _ _ hbne)).trans hcv,hM⟩
    ·have hgne:g≠blk':=fun e=>by subst e;rw[hb.own] at hg;injection hg with hg;exact hS hg.symm
     exact⟨hg,setRow_other _ _ _ _ hgne,fun _ h=>h⟩
   refine⟨_,{ X1 with w:=X1.w.setRow blk' new },?_,rfl,hK⟩
   rw[hdst];refine⟨hrel.defers,hrel.size,?_,?_,hrel.below.trans ⟨rfl,rfl,rfl,by simp[World.setRow],fun q hq hx=>setRow_other _ _ _ _ (fun e=>by subst e;exact hb.hbase.1.elim (fun h=>by omega) (fun ⟨j',h⟩=>hx _ (by rw[<-hrel.mold.1];exact h))),fun _ _=>hszA _⟩,by simpa [World.setRow] using hrel.hb,hrel.mold⟩
   ·intro i d hd
    exact(hrel.tmps i d hd).mono (fun _ _ _ h=>by cases h) hev (by simp) fun _ _=>rfl
   ·intro j bx' hj
    rcases dI hj with ⟨rfl,rfl⟩|⟨hne,hj⟩
    ·refine BX.cell (blk:=blk') (cs:=new) (ty:=ty) (show bx.size≠0 from bG hbk) ⟨hb.ρ,hb.own,hb.hbase,hheap,by simpa [aI,hnewsize] using hb.size,?_,?_,fun _ o=>hb.live hlive o,fun hl=>by rw[hlive] at hl;cases hl⟩
     ·intro row' hrow'
      obtain⟨q,hq⟩:=List.getElem?_of_mem hrow';simp only[getElem?_setL] at hq
      by_cases hqr:q=r
      ·subst hqr
       rw[if_pos rfl,hr] at hq;simp at hq;subst hq;rw[vN];exact hw
      ·rw[if_neg hqr] at hq
       exact hb.width row' (cD hq)
     ·intro r' o' row' d u hrow' hd hu
      simp only[getElem?_setL] at hrow';rw[hnewget] at hu;dsimp only at hu
      by_cases hqr:r'=r
      ·subst hqr
       rw[if_pos rfl,hr] at hrow';simp at hrow';subst hrow';rw[E9] at hd
       by_cases hin:off<=o'/\o'<off+cs.length/\o'<row.length
       ·rw[if_pos hin] at hd
        have e0:r'*bx.size+o'-(r'*bx.size+off)=o'-off:=by omega
        rw[if_pos (by omega),e0] at hu
        obtain⟨f1,f2⟩:=hval (o'-off) d u hd (by rw[hget];exact hu)
        have e1:off+(o'-off)=o':=by omega
        rw[e1] at f1;exact⟨f1.mono (fun _ _ _ h=>by cases h) hev (by simp) fun _ _=>rfl,f2⟩
       ·rw[if_neg hin] at hd
        have hol:=(bM.1 hd).1;rw[if_neg (by omega)] at hu
        obtain⟨f1,f2⟩:=hb.cells r' o' row d u hr hd hu;exact⟨f1.mono (fun _ _ _ h=>by cases h) hev (by simp) fun _ _=>rfl,f2⟩
      ·rw[if_neg hqr] at hrow'
       have hw':=hb.width row' (cD hrow');have hol:=(bM.1 hd).1
       have hout:¬(r*bx.size+off<=r'*bx.size+o'/\r'*bx.size+o'<r*bx.size+off+vl.length):=by
        rintro⟨g1,g2⟩;rcases Nat.lt_or_gt_of_ne hqr with hlt'|hgt'
        ·have:(r'+1)*bx.size<=r*bx.size:=Nat.mul_le_mul_right _ hlt'
         rw[Nat.add_mul] at this;omega
        ·have:(r+1)*bx.size<=r'*bx.size:=Nat.mul_le_mul_right _ hgt'
         rw[Nat.add_mul] at this;omega
       rw[if_neg hout] at hu;obtain⟨f1,f2⟩:=hb.cells r' o' row' d u hrow' hd hu;exact⟨f1.mono (fun _ _ _ h=>by cases h) hev (by simp) fun _ _=>rfl,f2⟩
    ·exact(hrel.boxes j bx' hj).mono (fun _ _ _ h=>by cases h) hev (by simp[hne]) (fun _ _=>by simp) rfl fun _ _ _ _ _ _=>rfl
end
end Go.Proofs.YtnjphclbpgajpaaGreatDoor.Vc
