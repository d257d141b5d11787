/- Part of a proof over a Go program: VcBox, VcObj, VcObs, VcOcl, VcOst, VcOca, VcOap. No condition. -/
import Derived.Test.YtnjphclbpgajpaaGreatDoorX02
import Derived.Laws.StructEq
import Derived.Laws.Strings3
import Derived.Lib.ByteType
import Derived.Lib.ConvBytes
import Derived.MapKept
import Derived.Laws.Pointers
set_option linter.unnecessarySimpa false
set_option linter.unusedSectionVars false
set_option linter.unusedSimpArgs false
set_option linter.unusedVariables false
namespace Go.Proofs.YtnjphclbpgajpaaGreatDoor.Vc
open Go.RowKit
variable {P:Program}
theorem jG{ds:List DV}(h:xY ds=true){d:DV}(hd:d∈ds):d.isP=true:=by
 induction ds with
 |nil=>simp at hd
 |cons e es ih=>
  simp only[xY,aY] at h;rcases List.mem_cons.1 hd with rfl|hd
  ·exact h.1
  ·exact ih h.2 hd
theorem gO{rs:List (List DV)}(h:c9 rs=true){r:List DV}(hr:r∈rs):xY r=true:=by
 induction rs with
 |nil=>simp at hr
 |cons e es ih=>
  simp only[c9,aY] at h;rcases List.mem_cons.1 hr with rfl|hr
  ·exact h.1
  ·exact ih h.2 hr
section
variable {G:Gl} {X:Cx} {s:St} {a:Act} {Q:Exit->Act->World->Prop} {o:Oper} {K:St->Prop}
theorem s_ssl(h:Rel G X s a){t:TypeId}{x:Operand}{ox:O}{lo hi:Option Operand}{ys:List O}(hx:OT x ox)(ho:o.op=.slice t x lo hi none)(hu:P.underlying t=some .string)
  (hys:match lo,hi,ys with|some l,some m,[ol,om]=>OT l ol/\OT m om|some l,none,[ol]=>OT l ol|none,some m,[om]=>OT m om|_,_,_=>False)
  (hK:aD P (.ssl lo.isSome hi.isSome) (ox.val s.t ::ys.map (O.val s.t)) s.b fun v b=>K ⟨aH s.t o.dst v,b⟩):o.wp P a X.w (aZ G K) Q:=by
 obtain⟨Lx,rx⟩:=h.opnd hx;generalize ox.val s.t=vx at *
 have anInt:∀{vl:DV} {v:Value} {L:Loc},VRel X G.base L vl v->(∃k l,vl=.p (.int k l))->∃k l,vl=.p (.int k l)/\v=.int k l:=by
  rintro vl v L hv ⟨k,l,rfl⟩;exact⟨k,l,rfl,Flat.intv hv⟩
 cases vx with
 |p z=>
  cases z with
  |str z=>
   have ev:=Flat.strv rx;simp only[aD] at hK
   cases lo with
   |some l=>
    cases hi with
    |some m=>
     match ys,hys with
     |[ol,om],⟨hl,hm⟩=>
      obtain⟨_,rl⟩:=h.opnd hl;obtain⟨_,rm⟩:=h.opnd hm;simp only[Option.isSome_some,List.map_cons,List.map_nil] at hK;generalize ol.val s.t=vl at *;generalize om.val s.t=vm at *
      obtain⟨k1,l',rfl⟩:∃k1 l',vl=.p (.int k1 l'):=by
       rcases vl with _|x|_|_|_|_|_<;>first|(simp at hK;done)|skip
       cases x<;>first|(simp at hK;done)|exact⟨_,_,rfl⟩
      obtain⟨k2,m',rfl⟩:∃k1 l',vm=.p (.int k1 l'):=by
       rcases vm with _|x|_|_|_|_|_<;>first|(simp at hK;done)|skip
       cases x<;>first|(simp at hK;done)|exact⟨_,_,rfl⟩
      have el:=Flat.intv rl;have em:=Flat.intv rm;obtain⟨h0,h1,h2,hK⟩:=hK;refine bC h ?_ (Flat.str _) hK;simp[execOp,ho,ev,el,em,run_sliceAt_string,hu,run_slice_string X.w t z k1 k2 l' m' hu h0 h1 h2]
    |none=>
     match ys,hys with
     |[ol],hl=>
      obtain⟨_,rl⟩:=h.opnd hl;simp only[Option.isSome_some,Option.isSome_none,List.map_cons,List.map_nil] at hK;generalize ol.val s.t=vl at *
      obtain⟨k1,l',rfl⟩:∃k1 l',vl=.p (.int k1 l'):=by
       rcases vl with _|x|_|_|_|_|_<;>first|(simp at hK;done)|skip
       cases x<;>first|(simp at hK;done)|exact⟨_,_,rfl⟩
      have el:=Flat.intv rl;obtain⟨h0,h1,hK⟩:=hK;refine bC h ?_ (Flat.str _) hK;simp[execOp,ho,ev,el,run_sliceAt_string,hu,run_slice_string_from_if X.w t z k1 l' hu,h0,h1]
   |none=>
    cases hi with
    |some m=>
     match ys,hys with
     |[om],hm=>
      obtain⟨_,rm⟩:=h.opnd hm;simp only[Option.isSome_some,Option.isSome_none,List.map_cons,List.map_nil] at hK;generalize om.val s.t=vm at *
      obtain⟨k1,m',rfl⟩:∃k1 l',vm=.p (.int k1 l'):=by
       rcases vm with _|x|_|_|_|_|_<;>first|(simp at hK;done)|skip
       cases x<;>first|(simp at hK;done)|exact⟨_,_,rfl⟩
      have em:=Flat.intv rm;obtain⟨h0,h1,hK⟩:=hK;refine bC h ?_ (Flat.str _) hK;simp[execOp,ho,ev,em,run_sliceAt_string,hu,run_slice_string_to_if X.w t z k1 m' hu,h0,h1]
    |none=>exact hys.elim
  |_=>simp[aD] at hK
 |_=>simp[aD] at hK
theorem s_mkz(h:Rel G X s a){size bytes:Nat}{row:PV}{t e:TypeId}{x y:Operand}{ox oy:O}(hx:OT x ox)(hy:OT y oy)(ho:o.op=.makeSlice t x y){d:Nat}(hd:o.dst=some d)
  (hu:P.underlying t=some (.slice e)) {i:TypeInfo} {z:Value} (hi:P.info? e=some i) (hz:i.zero=some z) (hsz:i.size=size) (hby:i.bytes=bytes) (hzs:z.cells.size=(aE row).length)
  (hzr:∀(i:Nat) c v,(aE row)[i]?=some c->z.cells[i]?=some v->ZP c v) (hpos:0<size)
  (hK:aD P (.mkz size bytes row) [ox.val s.t,oy.val s.t] s.b fun v b=>K ⟨aH s.t o.dst v,b⟩):o.wp P a X.w (aZ G K) Q:=by
 obtain⟨_,rx⟩:=h.opnd hx;obtain⟨_,ry⟩:=h.opnd hy;generalize ox.val s.t=vx at *;generalize oy.val s.t=vy at *
 obtain⟨k1,n,rfl⟩:∃k1 l',vx=.p (.int k1 l'):=by
  rcases vx with _|x|_|_|_|_|_<;>first|(simp[aD] at hK;done)|skip
  cases x<;>first|(simp[aD] at hK;done)|exact⟨_,_,rfl⟩
 obtain⟨k2,m,rfl⟩:∃k1 l',vy=.p (.int k1 l'):=by
  rcases vy with _|x|_|_|_|_|_<;>first|(simp[aD] at hK;done)|skip
  cases x<;>first|(simp[aD] at hK;done)|exact⟨_,_,rfl⟩
 simp only[aD] at hK;obtain⟨rfl,h0,hb,hmax,hzl,hK⟩:=hK;have ex:=Flat.intv rx;have ey:=Flat.intv ry;subst hsz;subst hby;have hm63:n<=9223372036854775807:=by simpa [maxLen] using hmax
 have hr:=run_make (P:=P) X.w t e i z hu hi hz k1 k2 n n h0 (Int.le_refl _) (by rw[Int.mul_comm];omega) hm63
 have hnm:n.toNat<=maxLen:=by omega
 generalize hN:n.toNat=N at *;generalize hcur:madeCells z.cells (N*i.size)=cur at *
 have run:(execOp a.eval o).run P X.w=.ok (.value (.slice (some ⟨X.w.heap.size,0,none⟩) N N)) (X.w.alloc (.cells cur e)):=by
  simp[execOp,ho,ex,ey,hr]
 have hcs:cur.size=N*i.size:=by rw[<-hcur,size_madeCells]
 have hcg:∀k,k<N*i.size->cur[k]?=z.cells[k%i.size]?:=by
  intro k hk;have hlt:k%i.size<z.cells.size:=by rw[hzs,hzl];exact Nat.mod_lt _ hpos
  rw[<-hcur];simp only[madeCells,Array.getElem?_map];rw[Array.getElem?_range,if_pos hk];simp only[Option.map_some];rw[hzs,hzl];simp[hlt]
 unfold Oper.wp;rw[run,Oper.upon_value];rw[hd] at hK ⊢
 by_cases hn0:N=0
 ·subst hn0
  have hnb:=NewBlock.alloc X.w cur e;exact⟨_,_,(h.fresh d 0 hnb).put (d:=some d) (v:=.ow i.size false []) (fun j hj=>.inl ⟨rfl,.inr ⟨rfl,_,_,rfl⟩⟩),rfl,hK⟩
 ·have hnb:=NewBlock.alloc X.w cur e
  have hev':=oN (m:=d) (n0:=N*i.size) hnb;refine⟨_,_,(h.fresh d (N*i.size) hnb).put (d:=some d) (v:=.ow i.size false (List.replicate N row)) (fun j hj=>?_),rfl,hK⟩
  injection hj with hj
  subst hj;have hrl:(List.replicate N row).length=N:=List.length_replicate
  have hfl:Flat (X.fresh d (N*i.size) (X.w.alloc (.cells cur e))).M (X.w.alloc (.cells cur e)) (.sl i.size false (List.replicate N row)) (.slice (some ⟨X.w.heap.size,0,none⟩) (List.replicate N row).length N):=by
   refine k8 hnb.new (by omega) hnm (fun o ho=>?_) (by rw[hrl,hcs];exact Nat.le_refl _) (fun r hrm=>?_) (fun k j r c hr hc=>?_)
   ·show ¬(if X.w.heap.size=X.w.heap.size then N*i.size<=o else _)
    rw[if_pos rfl];rw[hrl] at ho;omega
   ·rw[(List.mem_replicate.1 hrm).2]
    refine⟨hzl,fun c hc=>?_⟩
    obtain⟨q,hq⟩:=List.getElem?_of_mem hc;have hql:=(bM.1 hq).1;have:z.cells[q]?=some z.cells[q]:=by simp[show q<z.cells.size by omega]
    exact((hzr q c _ hq this).rel (M:=fun _ _=>False) (w:=X.w)).2
   ·have hkl:=(bM.1 hr).1
    rw[hrl] at hkl;have er:r=row:=(List.mem_replicate.1 (cD hr)).2;subst er;have hjl:=(bM.1 hc).1;have hjs:j<i.size:=by omega
    have hlt:k*i.size+j<N*i.size:=by
     have:(k+1)*i.size<=N*i.size:=Nat.mul_le_mul_right _ hkl;rw[Nat.add_mul] at this;omega
    have hmod:(k*i.size+j)%i.size=j:=by rw[Nat.add_comm,Nat.add_mul_mod_self_right];exact Nat.mod_eq_of_lt hjs
    have hu':z.cells[j]?=some z.cells[j]:=by simp[show j<z.cells.size by omega]
    refine⟨_,?_,(hzr j c _ hc hu').rel.1⟩;rw[hcg _ hlt,hmod];exact hu'
  refine .inr ⟨rfl,X.w.heap.size,N,cur,e,by rw[hrl],?_,h.hb,hnb.new,hcs,?_,fun o ho=>?_⟩
  ·show (if X.w.heap.size=X.w.heap.size then _ else _)=_;rw[if_pos rfl]
  ·rw[hrl] at hfl;exact hfl
  ·show (if X.w.heap.size=X.w.heap.size then N*i.size<=o else _)
   rw[if_pos rfl];rw[hrl] at ho;exact ho
theorem iF(d:Nat)(xs ys:Array Value)(w:World):∀(fs:List Field) (j:Nat) (ps qs:List PV) (r:Bool),
  (∀(i:Nat) f,fs[i]?=some f->f.name ≠ "_" /\ f.offset=j+i/\(∃k,P.underlying f.type=some (.int k))/\TyIs P f.type 1 false)->ps.length=fs.length->E7 ps qs=some r ->
  (∀(i:Nat) k n,ps[i]?=some (.int k n)->xs[j+i]?=some (.int k n))->(∀(i:Nat) k n,qs[i]?=some (.int k n)->ys[j+i]?=some (.int k n)) ->
  (Op.eqFields (d+1) xs ys fs).run P w=.ok r w
 |[],j,ps,qs,r,hf,hl,hr,hx,hy=>by
  have:ps=[]:=List.eq_nil_of_length_eq_zero hl;subst this
  cases qs with
  |nil=>simp[E7] at hr;subst hr;rfl
  |cons _ _=>simp[E7] at hr
 |f ::fs,j,ps,qs,r,hf,hl,hr,hx,hy=>by
  match ps,qs,hl,hr with
  | .int k a ::ps,.int k' b ::qs,hl,hr=>
   simp only[E7] at hr
   split at hr
   ·rename_i hk
    subst hk
    split at hr
    ·rename_i r0 hr0
     injection hr with hr
     obtain⟨h1,h2,⟨k0,h3⟩,h4⟩:=hf 0 f rfl
     have ih:=iF d xs ys w fs (j+1) ps qs r0 (fun i g hg=>by
      have:=hf (i+1) g hg;rw[Nat.add_assoc,Nat.add_comm 1 i]
      exact this) (by simpa using hl) hr0 (fun i k n hi=>by
       have:=hx (i+1) k n hi;rw[Nat.add_assoc,Nat.add_comm 1 i];exact this) (fun i k n hi=>by
       have:=hy (i+1) k n hi;rw[Nat.add_assoc,Nat.add_comm 1 i];exact this)
     have ex:=hx 0 k a rfl;have ey:=hy 0 k b rfl;rw[Nat.add_zero] at ex ey h2
     have px:(part f.type xs f.offset).run P w=.ok (.int k a) w:=by
      simp[part,h4.run_isAgg w,h2,ex]
     have py:(part f.type ys f.offset).run P w=.ok (.int k b) w:=by
      simp[part,h4.run_isAgg w,h2,ey]
     have pe:=run_equalIn_int (P:=P) w d f.type k k0 a b h3;simp only[Op.eqFields,h1,ne_eq,not_false_eq_true,if_true,Sem.run_bind,px,py,pe,Result.andThen_ok];subst hr
     cases hab:(a ==b) with
     |false=>simp
     |true=>simpa using ih
    ·cases hr
   ·cases hr
theorem s_eqs(h:Rel G X s a){n:Nat}{neq:Bool}{t t':TypeId}{x y:Operand}{ox oy:O}(hx:OT x ox)(hy:OT y oy)(ho:o.op=.binOp (if neq then .neq else .eql) t x y t')
  (hu:P.underlying t=some (.struct (P.fieldsOf t))) (hst:P.stoodInHeld t=false) (hg:P.eqGuardType P.depth t=false) (hn:(P.fieldsOf t).toList.length=n)
  (hf:∀(i:Nat) f,(P.fieldsOf t).toList[i]?=some f->f.name ≠ "_" /\ f.offset=i/\(∃k,P.underlying f.type=some (.int k))/\TyIs P f.type 1 false)
  (hK:aD P (.eqs n neq) [ox.val s.t,oy.val s.t] s.b fun v b=>K ⟨aH s.t o.dst v,b⟩):o.wp P a X.w (aZ G K) Q:=by
 obtain⟨_,rx⟩:=h.opnd hx;obtain⟨_,ry⟩:=h.opnd hy;generalize ox.val s.t=vx at *;generalize oy.val s.t=vy at *
 obtain⟨xs,rfl⟩:∃l',vx=.p (.agg l'):=by
  rcases vx with _|x|_|_|_|_|_<;>first|(simp[aD] at hK;done)|skip
  cases x<;>first|(simp[aD] at hK;done)|exact⟨_,rfl⟩
 obtain⟨ys,rfl⟩:∃l',vy=.p (.agg l'):=by
  rcases vy with _|x|_|_|_|_|_<;>first|(simp[aD] at hK;done)|skip
  cases x<;>first|(simp[aD] at hK;done)|exact⟨_,rfl⟩
 simp only[aD] at hK;obtain⟨hl,hK⟩:=hK
 split at hK
 ·rename_i r hr
  have cells:∀{ps:List PV} {v:Value},Flat X.M X.w (.agg ps) v->∃vs:Array Value,v=.agg vs/\∀(i:Nat) k m,ps[i]?=some (.int k m)->vs[0+i]?=some (.int k m):=by
   intro ps v hv
   cases hv with
   |agg _ vs hl h1 h=>
    refine⟨vs,rfl,fun i k m hi=>?_⟩
    have hlt:=(bM.1 hi).1;have hv:vs[i]?=some vs[i]:=by simp[show i<vs.size by omega]
    rw[Nat.zero_add,hv,Flat.intv (h i _ _ hi hv)]
  obtain⟨vs,ev,hv⟩:=cells rx;obtain⟨us,eu,hu'⟩:=cells ry
  have run:=iF (P:=P) 9998 vs us X.w (P.fieldsOf t).toList 0 xs ys r (fun i f hif=>by
   obtain⟨a1,a2,a3⟩:=hf i f hif;exact⟨a1,by omega,a3⟩) (by omega) hr hv hu'
  have hq:=(run_equalIn_agg (P:=P) X.w 9999 t vs us hu hst).trans run;refine bC (z:=.bool _) h ?_ (.bool _) hK
  cases neq with
  |true=>
   have:=run_neq_struct (P:=P) X.w t vs us;simp[execOp,ho,ev,eu,run_eqGuard_agg _ _ _ _ _ _ _ hg,this,hq]
  |false=>
   have:=run_eql_struct (P:=P) X.w t vs us;simp[execOp,ho,ev,eu,run_eqGuard_agg _ _ _ _ _ _ _ hg,this,hq]
 ·exact hK.elim
theorem s_eqb(h:Rel G X s a){neq:Bool}{t t':TypeId}{x y:Operand}{ox oy:O}(hx:OT x ox)(hy:OT y oy)(ho:o.op=.binOp (if neq then .neq else .eql) t x y t')(hu:P.underlying t=some .bool)
  (hK:aD P (.eqb neq) [ox.val s.t,oy.val s.t] s.b fun v b=>K ⟨aH s.t o.dst v,b⟩):o.wp P a X.w (aZ G K) Q:=by
 obtain⟨_,rx⟩:=h.opnd hx;obtain⟨_,ry⟩:=h.opnd hy;generalize ox.val s.t=vx at *;generalize oy.val s.t=vy at *
 obtain⟨p,rfl⟩:∃l',vx=.p (.bool l'):=by
  rcases vx with _|x|_|_|_|_|_<;>first|(simp[aD] at hK;done)|skip
  cases x<;>first|(simp[aD] at hK;done)|exact⟨_,rfl⟩
 obtain⟨q,rfl⟩:∃l',vy=.p (.bool l'):=by
  rcases vy with _|x|_|_|_|_|_<;>first|(simp[aD] at hK;done)|skip
  cases x<;>first|(simp[aD] at hK;done)|exact⟨_,rfl⟩
 simp only[aD] at hK;have ex:=Flat.boolv rx;have ey:=Flat.boolv ry;have he:=run_equalIn_bool' (P:=P) X.w 9999 t p q hu;refine bC (z:=.bool _) h ?_ (.bool _) hK
 cases neq with
 |true=>simp[execOp,ho,ex,ey,eqGuard,binOp,Op.equal,Op.maxDepth,he]
 |false=>simp[execOp,ho,ex,ey,eqGuard,binOp,Op.equal,Op.maxDepth,he]
theorem s_eqat(h:Rel G X s a){t t':TypeId}{ms:Array (String×TypeId)}{x:Operand}{ox oy:O}(hx:OT x ox)(ho:o.op=.binOp .neq t x (.const .nilIface) t')(hu:P.underlying t=some (.interface ms))
  (hK:aD P (.eqat true) [ox.val s.t,oy.val s.t] s.b fun v b=>K ⟨aH s.t o.dst v,b⟩):o.wp P a X.w (aZ G K) Q:=by
 obtain⟨_,rx⟩:=h.opnd hx
 have hx':ox.val s.t=.p (.atom .nilIface)/\K ⟨aH s.t o.dst (.p (.bool false)),s.b⟩:=by
  revert hK
  generalize ox.val s.t=vx;generalize oy.val s.t=vy;intro hK;unfold aD at hK
  split at hK<;>first|contradiction|(rename_i e1 e2;injection e1 with e1;subst e1;injection e2 with e2 e3;injection e3 with e3 e4;exact⟨e2,hK⟩)|skip
 obtain⟨e1,hK⟩:=hx';rw[e1] at rx
 have ev:a.eval x=.nilIface:=by
  generalize a.eval x=u at rx
  cases rx with
  |atom v h=>rfl
 have e0:a.eval (.const .nilIface)=.nilIface:=rfl;refine bC (z:=.bool false) h ?_ (.bool _) hK;simp[execOp,ho,ev,e0,eqGuard_nil_constR,Lib.run_neq_nil_nil X.w hu]
theorem DL(h:Rel G X s a){z:PV}{v:Value}{w':World}(run:(execOp a.eval o).run P X.w=.ok (.value v) w')(hb:Below X.w.heap.size X.w w')(hf:Flat (fun b i=>b<X.w.heap.size/\X.M b i) w' z v)
  (hK:K ⟨aH s.t o.dst (.p z),s.b⟩):o.wp P a X.w (aZ G K) Q:=by
 unfold Oper.wp;rw[run,Oper.upon_value];obtain⟨h1,h2⟩:=n9 h (X1:={ X with M:=fun b i=>b<X.w.heap.size/\X.M b i,w:=w' }) (fun b hlt i=>⟨fun hm=>hm.2,fun hm=>⟨hlt,hm⟩⟩) hb (o.dst.getD 0) (r:=.p z) rfl hf
 exact ⟨_, _, h1.put (d := o.dst) (fun j hj => by have e : o.dst.getD 0 = j := by rw [hj]; rfl
                                                  rw[e] at h2 ⊢;exact h2),rfl,hK⟩
theorem s_s2b(h:Rel G X s a){src dst e:TypeId}{x:Operand}{ox:O}(hx:OT x ox)(ho:o.op=.convert src dst x)(hs:P.underlying src=some .string)(hd:P.underlying dst=some (.slice e))(he:P.underlying e=some (.int .u8))
  (hK:aD P .s2b [ox.val s.t] s.b fun v b=>K ⟨aH s.t o.dst v,b⟩):o.wp P a X.w (aZ G K) Q:=by
 obtain⟨_,rx⟩:=h.opnd hx;generalize ox.val s.t=vx at *
 cases vx with
 |p z=>
  cases z with
  |str z=>
   have ev:=Flat.strv rx;simp only[aD] at hK;obtain⟨hz,hK⟩:=hK
   have run:(execOp a.eval o).run P X.w=.ok (.value (.slice (some ⟨X.w.heap.size,0,none⟩) z.size (grownCap X.w z.size 0 e))) (Lib.bytesWorld X.w e z):=by
    simp[execOp,ho,ev,Lib.run_convert_string_bytes X.w src dst e z hs hd he]
   have hsz:z.data.toList.length=z.size:=Array.length_toList;refine DL h run ⟨rfl,rfl,rfl,by rw[Lib.bytesWorld_size];omega,fun k hk=>Lib.bytesWorld_at_old X.w e z k hk⟩ ?_ hK
   have hf:=Flat.sl (M:=fun b i=>b<X.w.heap.size/\X.M b i) (w:=Lib.bytesWorld X.w e z) 1 (z.data.toList.map fun c=>PV.int .u8 c.toNat) X.w.heap.size 0 (grownCap X.w z.size 0 e)
    (fun j=>.int .u8 (z.data.toList.getD j 0).toNat) (by rw[List.length_map,hsz];exact grownCap_ge X.w z.size 0 e) (grownCap_le_maxLen X.w z.size 0 e hz) (fun j hj=>?_) (fun row hr=>?_) (fun row hr c hc=>?_) (fun i j row c hr hc=>?_)
   ·simpa [hsz] using hf
   ·rw[List.length_map,hsz,Nat.mul_one] at hj
    rw[Nat.zero_add];exact⟨Lib.bytesWorld_cell X.w e z j hj,fun hm=>Nat.lt_irrefl _ hm.1⟩
   ·obtain⟨c,_,rfl⟩:=List.mem_map.1 hr;rfl
   ·obtain⟨c',_,rfl⟩:=List.mem_map.1 hr
    simp only[aE,List.mem_singleton] at hc;subst hc;rfl
   ·rw[List.getElem?_map] at hr
    cases hx:z.data.toList[i]? with
    |none=>rw[hx] at hr;simp at hr
    |some b=>
     rw[hx] at hr;simp only[Option.map_some,bQ] at hr;subst hr
     cases j with
     |zero=>
      simp only[aE,List.getElem?_cons_zero,bQ] at hc;subst hc;have:z.data.toList.getD (i*1+0) 0=b:=by simp only[Nat.mul_one,Nat.add_zero,List.getD,hx];rfl
      rw[this];exact .int _ _
     |succ j=>simp[aE] at hc
  |_=>simp[aD] at hK
 |_=>simp[aD] at hK
theorem BoxRel.cut{X:Cx}{base k:Nat}{bx:Box}{blk:Nat}{cs:Array Value}{ty:TypeId}(hb:BoxRel X base k bx blk cs ty){n:Nat}(hn:n<=bx.rows.length) :
  BoxRel X base k { bx with rows:=bx.rows.take n } blk cs ty:=by
 have hle:(bx.rows.take n).length*bx.size<=bx.rows.length*bx.size:=Nat.mul_le_mul_right _ (by simp;omega)
 refine⟨hb.ρ,hb.own,hb.hbase,hb.heap,Nat.le_trans hle hb.size,fun row hrow=>hb.width row (List.mem_of_mem_take hrow),fun r o row d u hr hd hu=>?_,hb.live,fun hl=>?_⟩
 ·simp only[List.getElem?_take] at hr
  split at hr
  ·exact hb.cells r o row d u hr hd hu
  ·cases hr
 ·obtain⟨f1,f2⟩:=hb.fixed hl
  exact⟨fun o ho=>f1 o (Nat.lt_of_lt_of_le ho hle),fun row hrow=>f2 row (List.mem_of_mem_take hrow)⟩
theorem Rel.setBox(h:Rel G X s a){k:Nat}{bx:Box}(hb:BX X G.base k bx):Rel G X ⟨s.t,aF s.b k (some bx)⟩ a:=by
 refine⟨h.defers,h.size,h.tmps,fun j bx' hj=>?_,h.below,h.hb,h.mold⟩
 rcases dI hj with ⟨rfl,rfl⟩|⟨_,hj⟩
 ·exact hb
 ·exact h.boxes j bx' hj
theorem s_slb(h:Rel G X s a){k size:Nat}{isA:Bool}{t e:TypeId}{x m:Operand}{ox om:O}(hx:OT x ox)(hm:OT m om)(ho:o.op=.slice t x none (some m) none)
  (hu:P.underlying t=some (.slice e)) (hi':TyIs P e size isA)
  (hK:aD P (.slb k size) [ox.val s.t,om.val s.t] s.b fun v b=>K ⟨aH s.t o.dst v,b⟩):o.wp P a X.w (aZ G K) Q:=by
 obtain⟨Lx,rx⟩:=h.opnd hx;obtain⟨Lm,rm⟩:=h.opnd hm;generalize ox.val s.t=vx at *;generalize om.val s.t=vm at *;have hu':=D3 hu;have he:P.elem t=e:=by rw[hu] at hu';injection hu' with h1;injection h1 with h2;exact h2.symm
 have hsize:∀w,(sizeOf (P.elem t)).run P w=.ok size w:=fun w=>by rw[he];exact hi'.run_sizeOf w
 cases vx with
 |bs k' sz ag l n=>
  obtain⟨k1,m',rfl⟩:∃k1 l',vm=.p (.int k1 l'):=by
   rcases vm with _|x|_|_|_|_|_<;>first|(simp[aD] at hK;done)|skip
   cases x<;>first|(simp[aD] at hK;done)|exact⟨_,_,rfl⟩
  simp only[aD] at hK;obtain⟨rfl,rfl,rfl,h0,h1,hK⟩:=hK;have em:=Flat.intv rm
  cases hbk:bF s.b k' with
  |none=>simp[hbk] at hK
  |some bx=>
   simp only[hbk] at hK;obtain⟨h2,hK⟩:=hK;obtain⟨blk,cap,e1,e2,e3,e5,e4⟩:=rx;obtain⟨blk',cs,ty,hb⟩:=h.cbox (b8 hbk) (bG hbk);have hne0:bx.size≠0:=bG hbk;have h':=h.setBox (.cell (bx:={ bx with rows:=bx.rows.take m'.toNat }) hne0 (hb.cut (n:=m'.toNat) (by omega)))
   have run:(execOp a.eval o).run P X.w=.ok (.value (.slice (some ⟨blk,0,none⟩) m'.toNat cap)) X.w:=by
    simp[execOp,ho,e4,em,run_sliceAt_slice,hu',run_slice_h X.w t _ n cap hu' _ m' h0 (by omega),hsize,sliced,Addr.add_lit]
   exact bI (v:=.bs k' sz ag 0 m'.toNat) h' run (fun _ _=>⟨blk,cap,e1,by omega,e3,by simpa using e5,by simp⟩) hK
 |_=>simp[aD] at hK
def Cx.growM(X:Cx)(k:Nat):Cx :=
 {ρ := fun j => if j = k then some X.w.heap.size else X.ρ j
  own:=fun g=>if g=X.w.heap.size then some (.box k) else X.own g
  M:=fun b o=>if b=X.w.heap.size then True else X.M b o
  w:=X.w.alloc (.map #[] 0)
  ex:=X.ex }
theorem IH(X:Cx)(k:Nat):Ev (fun _=>True) X (X.growM k):=by
 refine⟨fun b o v hM hc=>?_,fun g L hg _ hlt=>?_,rfl,.below fun _=>Below.heap_alloc _ _ _⟩
 ·have hlt:b<X.w.heap.size:=World.block_lt_of_cell? _ _ hc
  refine⟨by show (X.w.alloc _).cell? _=_;rw[World.cell?_alloc_lt _ _ _ hlt];exact hc,?_⟩
  show ¬(if b=X.w.heap.size then True else X.M b o)
  rw[if_neg (by omega)]
  exact hM
 ·refine⟨?_,?_,fun o hM=>?_⟩
  ·show (if g=X.w.heap.size then _ else X.own g)=_
   rw[if_neg (by omega)];exact hg
  ·exact Below.heap_alloc _ _ _ hlt
  ·show (if g=X.w.heap.size then True else X.M g o)
   split
   ·trivial
   ·exact hM
theorem s_mkmap(h:Rel G X s a){k:Nat}{t:TypeId}(ho:o.op=.makeMap t none)(hf:k<s.b.length/\c8 k (aH s.t o.dst .top)=true/\cK k 0 s.b=true)
  (hK:aD P (.mkmap k) [] s.b fun v b=>K ⟨aH s.t o.dst v,b⟩):o.wp P a X.w (aZ G K) Q:=by
 simp only[aD] at hK;obtain⟨hkl,hT,hB⟩:=hf;have hev:=IH X k;have hρ:∀j,j≠k->(X.growM k).ρ j=X.ρ j:=fun j hj=>by show (if j=k then _ else X.ρ j)=_;rw[if_neg hj]
 have h0:Rel G X ⟨aH s.t o.dst .top,s.b⟩ a:=by
  cases o.dst with
  |none=>exact h
  |some i=>exact h.weak i .top trivial
 have h1:Rel G (X.growM k) ⟨aH s.t o.dst .top,aF s.b k (some ⟨true,0,[],false⟩)⟩ a:=by
  refine⟨h0.defers,h0.size,?_,?_,h0.below.trans (.of ((Below.refl _ _).alloc h0.hb _)),by show _<=(X.w.heap.push _).size;rw[Array.size_push];exact Nat.le_succ_of_le h0.hb,h0.mold.1,?_⟩
  ·intro i e he
   have hm:=i9 hT he;exact(h0.tmps i e he).mono (fun _ _ h=>h) hev trivial fun j hj=>hρ j (fun e'=>by subst e';rw[hm] at hj;cases hj)
  ·intro j bx' hj
   rcases dI hj with ⟨rfl,rfl⟩|⟨hne,hj⟩
   ·unfold BX
    rw[if_pos rfl];refine⟨X.w.heap.size, #[],0,?_,?_,⟨.inl h.hb,fun h=>by cases h⟩,?_,rfl,fun o=>?_,HX,fun i row e hi=>by simp at hi⟩
    ·show (if j=j then some X.w.heap.size else _)=_;rw[if_pos rfl]
    ·show (if X.w.heap.size=X.w.heap.size then _ else _)=_;rw[if_pos rfl]
    ·show (X.w.heap.push _)[_]?=_;simp
    ·show (if _ then True else _);rw[if_pos rfl];trivial
   ·have hr:=hU hB hj (by omega)
    exact(h0.boxes j bx' hj).mono (fun _ _ h=>h) hev trivial (fun _ _=>trivial) (hρ j hne) fun row hrow e he i hi=>
     hρ i (fun e'=>by subst e';rw[f9 hr hrow he] at hi;cases hi)
  ·intro b hb hx o
   have:b<X.w.heap.size:=Nat.lt_of_lt_of_le hb h.hb
   show (if b=X.w.heap.size then True else X.M b o)↔_
   rw[if_neg (by omega)]
   exact h0.mold.2 b hb hx o
 unfold Oper.wp
 have run:(execOp a.eval o).run P X.w=.ok (.value (.map (some X.w.heap.size))) (X.w.alloc (.map #[] 0)):=by
  simp[execOp,ho,Instr.makeMap,newObj,Sem.run]
 rw[run,Oper.upon_value];have h2:=h1.put (d:=o.dst) (v:=.mh k) (u:=.map (some X.w.heap.size)) (fun j _=>⟨X.w.heap.size,by simp[Cx.growM],rfl⟩)
 have e:aH (aH s.t o.dst .top) o.dst (.mh k)=aH s.t o.dst (.mh k):=by
  cases o.dst with
  |none=>rfl
  |some i=>
   apply List.ext_getElem?
   intro j;simp only[aH,getElem?_setL]
   split
   ·cases s.t[j]?<;>rfl
   ·rfl
 exact⟨_,_,by simpa [e] using h2,rfl,hK⟩
theorem H3{M:Nat->Nat->Prop}{w:World}{q:IntKind}{x:Int}:∀{rows:List (List DV)} {es:List MapEntry} {r:Option PV} {i0:Nat},es.length=rows.length ->
  (∀(i:Nat) row e,rows[i]?=some row->es[i]?=some e->∃(q:PV) (n:Bool) (d:DV),row=.p q ::d ::cR n e/\e.key=cO q/\∀x,d=.p x->Flat M w x e.val)->mP q x rows=some r ->
  ∃r':Option (Nat×Value),Instr.findNow (.int q) (.int q x) es i0=some r'/\(match r,r' with|none,none=>True|some v,some (_,u)=>Flat M w v u|_,_=>False):=by
 intro rows
 induction rows with
 |nil=>
  intro es r i0 hl _ h
  cases es with
  |nil=>simp only[mP,bQ] at h;subst h;exact⟨none,rfl,trivial⟩
  |cons _ _=>simp at hl
 |cons row rows ih=>
  intro es r i0 hl hr h
  cases es with
  |nil=>simp at hl
  |cons e es=>
   obtain⟨kp,n3,d,rfl,ek,ev⟩:=hr 0 row e rfl rfl;obtain rfl:n3=false:=by cases n3<;>first|rfl|(cases kp<;>cases d<;>simp[mP,cR] at h)
   simp only[cR] at h;obtain⟨v,rfl⟩:∃v,d=.p v:=by cases d<;>first|exact⟨_,rfl⟩|(cases kp<;>simp[mP] at h)
   obtain⟨q',n,rfl⟩:∃q' n,kp=.int q' n:=by cases kp<;>first|exact⟨_,_,rfl⟩|(simp[mP] at h)
   change e.key=.int q' n at ek
   replace ev:=ev v rfl
   simp only[mP] at h
   split at h
   ·rename_i hq
    subst hq
    split at h
    ·rename_i hn
     subst hn;injection h with h
     subst h;exact⟨some (i0,e.val),by simp[Instr.findNow,Instr.sameNow,ek],ev⟩
    ·rename_i hn
     obtain⟨r',h1,h2⟩:=ih (i0:=i0+1) (es:=es) (by simpa using hl) (fun i row e h1 h2=>hr (i+1) row e (by simpa using h1) (by simpa using h2)) h
     refine⟨r',?_,h2⟩;have:(x ==n)=false:=by simpa using fun e=>hn e.symm
     simp[Instr.findNow,Instr.sameNow,ek,this,h1]
   ·cases h
theorem s_look(h:Rel G X s a){zero:PV}{t kt et:TypeId}{q:IntKind}{zv:Value}{i:TypeInfo}{x y:Operand}{ox oy:O}(hx:OT x ox)(hy:OT y oy)(ho:o.op=.lookup t x y false)(hu:P.underlying t=some (.map kt et))
  (hk:P.underlying kt=some (.int q)) (hi:P.info? et=some i) (hz:i.zero=some zv) (hzr:ZP zero zv)
  (hK:aD P (.look q zero) [ox.val s.t,oy.val s.t] s.b fun v b=>K ⟨aH s.t o.dst v,b⟩):o.wp P a X.w (aZ G K) Q:=by
 obtain⟨_,rx⟩:=h.opnd hx;obtain⟨_,ry⟩:=h.opnd hy;generalize ox.val s.t=vx at *;generalize oy.val s.t=vy at *
 cases vx with
 |mh k=>
  obtain⟨q',n,rfl⟩:∃q' n,vy=.p (.int q' n):=by
   rcases vy with _|x|_|_|_|_|_|_<;>first|(simp[aD] at hK;done)|skip
   cases x<;>first|(simp[aD] at hK;done)|exact⟨_,_,rfl⟩
  simp only[aD] at hK;obtain⟨rfl,hK⟩:=hK;have ey:=Flat.intv ry
  cases hbk:dV s.b k with
  |none=>simp[hbk] at hK
  |some bx=>
   simp only[hbk] at hK;obtain⟨hsb,hs0⟩:=eE hbk;have hB:=h.boxes k bx hsb;unfold BX at hB;rw[if_pos hs0] at hB;obtain⟨blk,es,clock,m1,m2,m3,m4,m5,m6,m0,m7⟩:=hB;obtain⟨blk',e1,e2⟩:=rx;have:blk'=blk:=by rw[e1] at m1;injection m1
   subst this
   cases hf:mP q' n bx.rows with
   |none=>simp[hf] at hK
   |some r=>
    obtain⟨r',g1,g2⟩:=H3 (i0:=0) (es:=es.toList) (by simpa using m5) (fun i row e hr he=>by obtain⟨q,n,d,f1,f2,f3⟩:=m7 i row e hr (by simpa using he);exact⟨q,n,d,f1,f2,fun x e=>by subst e;exact f3⟩) hf
    have fin:∀(u:Value) (v:PV),(execOp a.eval o).run P X.w=.ok (.value u) X.w->Flat X.M X.w v u->K ⟨aH s.t o.dst (.p v),s.b⟩->o.wp P a X.w (aZ G K) Q:=fun u v hr hv hKK=>bC h hr hv hKK
    have hkey:∀e n0,(Instr.checkKey e (n0+1) kt (.int q' n)).run P X.w=.ok () X.w:=fun e n0=>MapKept.run_checkKey hk (show MapKept.IsKey (.int q') (.int q' n) from rfl) e n0
    have hfind:(Instr.findKey kt (.int q' n) es.toList).run P X.w=.ok r' X.w:=MapKept.run_findKey hk g1
    cases r with
    |some v=>
     cases r' with
     |none=>exact g2.elim
     |some p=>
      obtain⟨i1,u⟩:=p;simp only[hf] at hK;refine fin u v ?_ g2 hK;simp[execOp,ho,e2,ey,Instr.lookup,run_underlying hu,MapKept.run_getObj_map m4,hkey _ 9999,hfind]
    |none=>
     cases r' with
     |some p=>exact g2.elim
     |none=>
      simp only[hf] at hK;refine fin zv zero ?_ hzr.rel.1 hK;have hzv:∀w,(zeroValue et).run P w=.ok zv w:=fun w=>by simp[zeroValue,typeInfo,hi,hz]
      simp[execOp,ho,e2,ey,Instr.lookup,run_underlying hu,MapKept.run_getObj_map m4,hkey _ 9999,hfind,hzv]
 |_=>cases vy<;>simp[aD] at hK
theorem J4{M:Nat->Nat->Prop}{w:World}{q:IntKind}{x:Int}{v:PV}:∀{rows rows':List (List DV)} {es:List MapEntry} {i0:Nat},es.length=rows.length ->
  (∀(i:Nat) row e,rows[i]?=some row->es[i]?=some e->∃(q:PV) (n:Bool) (d:DV),row=.p q ::d ::cR n e/\e.key=cO q/\∀x,d=.p x->Flat M w x e.val)->vU q x v rows=some rows' ->
  (Instr.findNow (.int q) (.int q x) es i0=some none/\rows'=rows++[[.p (.int q x),.p v]]) \/
  ∃j e,Instr.findNow (.int q) (.int q x) es i0=some (some (i0+j,e.val))/\es[j]?=some e/\e.key=.int q x/\rows'=aF rows j [.p (.int q x),.p v]:=by
 intro rows
 induction rows with
 |nil=>
  intro rows' es i0 hl _ h
  cases es with
  |nil=>simp only[vU,bQ] at h;subst h;exact .inl ⟨rfl,rfl⟩
  |cons _ _=>simp at hl
 |cons row rows ih=>
  intro rows' es i0 hl hr h
  cases es with
  |nil=>simp at hl
  |cons e es=>
   obtain⟨kp,n3,d,rfl,ek,ev⟩:=hr 0 row e rfl rfl;obtain rfl:n3=false:=by cases n3<;>first|rfl|(cases kp<;>cases d<;>simp[vU,cR] at h)
   simp only[cR] at h;obtain⟨u,rfl⟩:∃v,d=.p v:=by cases d<;>first|exact⟨_,rfl⟩|(cases kp<;>simp[vU] at h)
   obtain⟨q',n,rfl⟩:∃q' n,kp=.int q' n:=by cases kp<;>first|exact⟨_,_,rfl⟩|(simp[vU] at h)
   change e.key=.int q' n at ek
   replace ev:=ev u rfl
   simp only[vU] at h
   split at h
   ·rename_i hq
    subst hq
    split at h
    ·rename_i hn
     subst hn;injection h with h
     subst h;exact .inr ⟨0,e,by simp[Instr.findNow,Instr.sameNow,ek],rfl,ek,rfl⟩
    ·rename_i hn
     split at h
     ·rename_i l hl'
      injection h with h
      subst h;have hne:(x ==n)=false:=by simpa using fun e=>hn e.symm
      rcases ih (i0:=i0+1) (es:=es) (by simpa using hl) (fun i row e h1 h2=>hr (i+1) row e (by simpa using h1) (by simpa using h2)) hl' with ⟨h1,h2⟩|⟨j,e',h1,h2,h3,h4⟩
      ·exact .inl ⟨by simp[Instr.findNow,Instr.sameNow,ek,hne,h1],by rw[h2];rfl⟩
      ·exact .inr ⟨j+1,e',by simp[Instr.findNow,Instr.sameNow,ek,hne,h1];omega,by simpa using h2,h3,by rw[h4];rfl⟩
     ·cases h
   ·cases h
theorem s_mupd(h:Rel G X s a){t kt et:TypeId}{q:IntKind}{x y z:Operand}{ox oy oz:O}(hx:OT x ox)(hy:OT y oy)(hz:OT z oz)(ho:o.op=.mapUpdate t x y z)(hd:o.dst=none)(hu:P.underlying t=some (.map kt et))
  (hk:P.underlying kt=some (.int q))
  (hK:aD P (.mupd q) [ox.val s.t,oy.val s.t,oz.val s.t] s.b fun v b=>K ⟨aH s.t o.dst v,b⟩):o.wp P a X.w (aZ G K) Q:=by
 obtain⟨_,rx⟩:=h.opnd hx;obtain⟨_,ry⟩:=h.opnd hy;obtain⟨_,rz⟩:=h.opnd hz;generalize ox.val s.t=vx at *;generalize oy.val s.t=vy at *;generalize oz.val s.t=vz at *
 cases vx with
 |mh k=>
  obtain⟨q',n,rfl⟩:∃q' n,vy=.p (.int q' n):=by
   rcases vy with _|x|_|_|_|_|_|_<;>first|(simp[aD] at hK;done)|skip
   cases x<;>first|(simp[aD] at hK;done)|exact⟨_,_,rfl⟩
  obtain⟨v,rfl⟩:∃v,vz=.p v:=by
   rcases vz with _|x|_|_|_|_|_|_<;>first|(simp[aD] at hK;done)|exact⟨_,rfl⟩
  simp only[aD] at hK;obtain⟨rfl,hone,hK⟩:=hK;have ey:=Flat.intv ry;have rz':Flat X.M X.w v (a.eval z):=rz
  cases hbk:dV s.b k with
  |none=>simp[hbk] at hK
  |some bx=>
   simp only[hbk] at hK;obtain⟨hsb,hs0⟩:=eE hbk;have hB:=h.boxes k bx hsb;unfold BX at hB;rw[if_pos hs0] at hB;obtain⟨blk,es,clock,m1,m2,m3,m4,m5,m6,m0,m7⟩:=hB;obtain⟨blk',e1,e2⟩:=rx;have:blk'=blk:=by rw[e1] at m1;injection m1
   subst this
   cases hf:vU q' n v bx.rows with
   |none=>simp[hf] at hK
   |some rows'=>
    simp only[hf] at hK;have hlt:blk'<X.w.heap.size:=(Array.getElem?_eq_some_iff.1 m4).1;have hkey:∀e n0,(Instr.checkKey e (n0+1) kt (.int q' n)).run P X.w=.ok () X.w:=fun e n0=>MapKept.run_checkKey hk (show MapKept.IsKey (.int q') (.int q' n) from rfl) e n0
    have key:∃es' clock',(execOp a.eval o).run P X.w=.ok .skip { X.w with heap:=X.w.heap.setIfInBounds blk' (.map es' clock') }/\eO es' clock'/\es'.size=rows'.length /\
      ∀(i:Nat) row e,rows'[i]?=some row->es'[i]?=some e->∃(q:PV) (n:Bool) (d:DV),row=.p q ::d ::cR n e/\e.key=cO q/\VRel X G.base (.cell k i 1) d e.val:=by
     rcases J4 (i0:=0) (es:=es.toList) (by simpa using m5) (fun i row e hr he=>by obtain⟨q,n,d,f1,f2,f3⟩:=m7 i row e hr (by simpa using he);exact⟨q,n,d,f1,f2,fun x e=>by subst e;exact f3⟩) hf with ⟨g1,g2⟩|⟨j,e,g1,g2,g3,g4⟩
     ·refine⟨es.push { key:=.int q' n,val:=a.eval z,born:=clock },clock+1,?_,xF m0,by simp[g2,m5],fun i row e hr he=>?_⟩
      ·simp[execOp,ho,e2,ey,Instr.mapUpdate,run_underlying hu,MapKept.run_getObj_map m4,hkey _ 9999,MapKept.run_findKey hk g1,MapKept.run_setObj_map _ m4]
      ·subst g2
       rw[List.getElem?_append] at hr;rw[Array.getElem?_push] at he
       by_cases hi:i<bx.rows.length
       ·rw[if_pos hi] at hr
        rw[if_neg (by omega)] at he
        exact m7 i row e hr he
       ·rw[if_neg hi] at hr
        have h0:i-bx.rows.length=0:=by
         have:=(bM.1 hr).1;simp at this;omega
        rw[h0] at hr;rw[if_pos (by omega)] at he
        simp only[List.getElem?_cons_zero,bQ] at hr he;subst hr;subst he;exact⟨_,false,_,rfl,rfl,rz'⟩
     ·have hj:es[j]?=some e:=by simpa using g2
      have hjl:j<es.size:=(Array.getElem?_eq_some_iff.1 hj).1;have g1':Instr.findNow (.int q') (.int q' n) es.toList 0=some (some (j,e.val)):=by simpa using g1
      refine⟨es.modify j (fun e=>{ e with key:=.int q' n,val:=a.eval z }),clock,?_,lO m0 _ _ (fun _=>rfl),by simp[g4,aI,m5],fun i row e' hr he=>?_⟩
      ·simp[execOp,ho,e2,ey,Instr.mapUpdate,run_underlying hu,MapKept.run_getObj_map m4,hkey _ 9999,MapKept.run_findKey hk g1',hj,g3,MapKept.run_keyThatStays (d:=.int q') (k:=.int q' n) rfl,MapKept.run_setObj_map _ m4]
      ·subst g4
       rw[getElem?_setL] at hr;rw[Array.getElem?_modify] at he
       by_cases hij:i=j
       ·subst hij
        rw[if_pos rfl] at hr;rw[if_pos rfl,hj] at he
        cases hrow:bx.rows[i]? with
        |none=>rw[hrow] at hr;simp at hr
        |some row0=>
         rw[hrow] at hr;simp only[Option.map_some,bQ] at hr he;subst hr;subst he;exact⟨_,false,_,rfl,rfl,rz'⟩
       ·rw[if_neg hij] at hr
        rw[if_neg (fun e=>hij e.symm)] at he
        exact m7 i row e' hr he
    obtain⟨es',clock',run,k0,k1,k2⟩:=key;generalize hw:({ X.w with heap:=X.w.heap.setIfInBounds blk' (.map es' clock') }:World)=w' at run
    obtain⟨q1,q2⟩:=MapKept.heap_set (o':=.map es' clock') m4;have hwh:w'.heap=X.w.heap.setIfInBounds blk' (.map es' clock'):=by subst hw;rfl
    rw[<-hwh] at q1 q2;have hsz:w'.heap.size=X.w.heap.size:=by subst hw;simp
    have hszA:∀g,SzAt X.w w' g:=fun g cs' ty' hg=>by
     have hne:g≠blk':=fun e=>by subst e;rw[m4] at hg;injection hg with hg;cases hg
     exact⟨cs',ty',(q2 g hne).trans hg,rfl⟩
    have hev:Ev (fun L=>L≠.box k) X { X with w:=w' }:=by
     refine⟨fun b i u hM hcv=>?_,fun g L hg hS hgl=>?_,rfl,hszA⟩
     ·have hbne:b≠blk':=fun e=>by subst e;exact hM (m6 i)
      exact⟨(World.cell?_of_block (w:=X.w) (q2 b hbne)).trans hcv,hM⟩
     ·have hgne:g≠blk':=fun e=>by subst e;rw[m2] at hg;injection hg with hg;exact hS hg.symm
      exact⟨hg,q2 g hgne,fun _ h=>h⟩
    unfold Oper.wp;rw[run,Oper.upon_skip,hd];have hp:a.put none undef=a:=rfl;rw[hp];refine⟨_,{ X with w:=w' },?_,rfl,hK⟩
    rw[hd]
    refine⟨h.defers,h.size,fun i d hdd=>(h.tmps i d hdd).mono (fun _ _ _ h=>by cases h) hev (by simp) fun _ _=>rfl,fun j bx' hj=>?_,
     h.below.trans ⟨by subst hw;rfl,by subst hw;rfl,by subst hw;rfl,by rw[hsz];exact Nat.le_refl _,fun r hr hx=>q2 r (fun e=>by subst e;exact m3.1.elim (fun h=>by omega) (fun ⟨j',h'⟩=>hx _ (by rw[<-h.mold.1];exact h'))),fun _ _=>hszA _⟩,
     by show G.base<=w'.heap.size;rw[hsz];exact h.hb,h.mold⟩
    rcases dI hj with ⟨rfl,rfl⟩|⟨hne,hj⟩
    ·unfold BX
     rw[if_pos (show bx.size=0 from hs0)]
     refine⟨blk',es',clock',m1,m2,m3,q1,k1,m6,k0,fun i row e hr he=>?_⟩
     obtain⟨q0,n0,d0,f1,f2,f3⟩:=k2 i row e hr he;exact⟨q0,n0,d0,f1,f2,f3.mono (fun _ _ _ h=>by cases h) hev (by simp) fun _ _=>rfl⟩
    ·exact(h.boxes j bx' hj).mono (fun _ _ _ h=>by cases h) hev (by simp[hne]) (fun _ _=>by simp) rfl fun _ _ _ _ _ _=>rfl
 |_=>cases vy<;>cases vz<;>simp[aD] at hK
theorem MI(h:Rel G X s a){k blk:Nat}(hρ:X.ρ k=some blk){L:Loc}{d d':DV}{v:Value}(hv:VRel X G.base L d v)(hd:J5 k s.b d=some d')(L':Loc):VRel (FY X.M X.w blk) X.w.heap.size L' d' v:=by
 have other:∀{d:DV},VRel X G.base L d v->(match d.frz s.b with|some x=>some (DV.p x)|none=>none)=some d'->VRel (FY X.M X.w blk) X.w.heap.size L' d' v:=by
  intro d hv hd
  split at hd
  ·rename_i x hx
   injection hd with hd
   subst hd;exact frz h hv hx
  ·cases hd
 cases d with
 |bs k' sz ag lo n=>
  simp only[J5] at hd
  split at hd
  ·rename_i e
   injection hd with hd
   subst e;subst hd;obtain⟨b,cap,e1,e2,e3,e5,e4⟩:=hv;rw[hρ] at e1;injection e1 with e1
   subst e1;exact⟨blk,cap,by simp[FY],e2,e3,e5,e4⟩
  ·cases hd
 |addr k' sz r off=>
  simp only[J5] at hd
  split at hd
  ·rename_i e
   injection hd with hd
   subst e;subst hd;obtain⟨b,e1,e2⟩:=hv;rw[hρ] at e1;injection e1 with e1
   subst e1;exact⟨blk,by simp[FY],e2⟩
  ·cases hd
 |p x=>exact other hv hd
 |top=>exact other hv hd
 |mh _=>exact other hv hd
 |ob _=>exact other hv hd
 |pk _=>exact other hv hd
 |agd _=>exact other hv hd
 |ow _ _ _=>exact other hv hd
 |tup _=>exact other hv hd
 |fn _ _=>exact other hv hd
theorem GA{k:Nat}{b:List (Option Box)}{ds:List DV}:∀{xs:List DV},tM k b ds=some xs->xs.length=ds.length/\∀(i:Nat) d x,ds[i]?=some d->xs[i]?=some x->J5 k b d=some x:=by
 induction ds with
 |nil=>intro xs h;simp only[tM,bQ] at h;subst h;exact⟨rfl,fun i d x hd=>by simp at hd⟩
 |cons d ds ih=>
  intro xs h;simp only[tM] at h
  split at h
  ·rename_i x ys h1 h2
   injection h with h
   subst h;obtain⟨e1,e2⟩:=ih h2;refine⟨by simp[e1],fun i d' x' hd hx=>?_⟩
   cases i with
   |zero=>simp only[List.getElem?_cons_zero,bQ] at hd hx;subst hd;subst hx;exact h1
   |succ i=>exact e2 i d' x' (by simpa using hd) (by simpa using hx)
  ·cases h
theorem BoxRel.hand{k:Nat}{bx:Box}{base blk:Nat}{cs:Array Value}{ty:TypeId}(hb:BoxRel X base k bx blk cs ty)(hl:bx.live=true)(hp:c9 bx.rows=true) :
  BoxRel (FY X.M X.w blk) X.w.heap.size 0 ⟨true,bx.size,bx.rows,true⟩ blk cs ty:=by
 refine⟨by simp[FY],by simp[FY],⟨.inr ⟨0,by simp[FY]⟩,fun _=>by simp[FY]⟩,hb.heap,hb.size,hb.width,fun r o row d u hr hd hu=>?_,fun _=>hb.live hl,fun h=>by cases h⟩
 obtain⟨h1,h2⟩:=hb.cells r o row d u hr hd hu;have hdp:=jG (gO hp (cD hr)) (cD hd)
 cases d with
 |p x=>exact⟨h1,h2⟩
 |_=>simp[DV.isP] at hdp
theorem s_callm(h:Rel G X s a){f:FuncId}{k:Nat}{xs:Array Operand}{ts:Array TypeId}{os:List O}(ho:o.op=.call { callee:=.value (.func f),args:=xs,argTypes:=ts })
  (hl:os.length=xs.size) (hos:∀(k:Nat) x oo,xs.toList[k]?=some x->os[k]?=some oo->OT x oo)
  (hK:aD P (.callm f k) (os.map (O.val s.t)) s.b fun v b=>K ⟨aH s.t o.dst v,b⟩):o.wp P a X.w (aZ G K) Q:=by
 simp only[aD] at hK
 cases hbk:bF s.b k with
 |none=>simp[hbk] at hK
 |some bx=>
  cases hargs:tM k s.b (os.map (O.val s.t)) with
  |none=>simp[hbk,hargs] at hK
  |some args=>
   simp only[hbk,hargs] at hK;obtain⟨hlive,hpl,rows',r,⟨hf,hrp,hp',hcall⟩,hK⟩:=hK;obtain⟨blk,cs,ty,hb⟩:=h.cbox (b8 hbk) (bG hbk);obtain⟨e1,e2⟩:=GA hargs;have hlt:blk<X.w.heap.size:=(Array.getElem?_eq_some_iff.1 hb.heap).1
   have run:(execOp a.eval o).run P X.w=.ok (.enter f (xs.map a.eval)) X.w:=by
    simp[execOp,ho,resolve,Deferred.ofValue,invoke,Act.eval,oI hf]
   unfold Oper.wp;rw[run,Oper.upon_enter];refine(hcall X.M X.w (xs.map a.eval) blk cs ty (by simp at e1 ⊢;omega) (hb.hand hlive hpl) fun i d v hd hv=>?_).mono ?_
   ·rw[Array.getElem?_map] at hv
    cases hx:xs[i]? with
    |none=>rw[hx] at hv;simp at hv
    |some y=>
     rw[hx] at hv;simp only[Option.map_some,bQ] at hv;subst hv;have hio:i<os.length:=by rw[hl];exact(Array.getElem?_eq_some_iff.1 hx).1
     obtain⟨L,hvr⟩:=h.opnd (hos i y os[i] (by simpa using hx) (by simp[hio]))
     exact MI h hb.ρ hvr (e2 i (os[i].val s.t) d (by simp[hio]) hd) _
   ·rintro e w' ⟨v,X1,cs',ty',rfl,rfl,hv,hb1,hM,hbl⟩
    have hblock:∀b,b<X.w.heap.size->b≠blk->X1.w.heap[b]?=X.w.heap[b]?:=fun b hb' hne=>hbl.block b hb' fun j e=>by
     split at e
     ·injection e with e;exact hne e.symm
     ·cases e
    generalize hX':X.back X1 (o.dst.getD 0)=X';have eρ:X'.ρ=X.ρ:=by subst hX';rfl
    have eex:X'.ex=X.ex:=by subst hX';rfl
    have ew:X'.w=X1.w:=by subst hX';rfl
    have eo:∀g,g<X.w.heap.size->X'.own g=X.own g:=by subst hX';intro g hg;show (if g<X.w.heap.size then _ else _)=_;rw[if_pos hg]
    have eM:∀b,b<X.w.heap.size->∀o,X'.M b o↔X.M b o:=by subst hX';intro g hg o;show (if g<X.w.heap.size then _ else _)↔_;rw[if_pos hg]
    have eM2:∀b,b≠blk->∀o,X'.M b o↔X1.M b o:=by
     intro b hne o
     by_cases hg:b<X.w.heap.size
     ·rw[eM b hg,hM b hg hne]
     ·subst hX';show (if b<X.w.heap.size then _ else _)↔_;rw[if_neg hg]
    have hMblk:∀o,X1.M blk o:=hb1.live rfl
    have hev:Ev (fun L=>L≠.box k) X X':=by
     refine⟨fun b o' u hMb hc=>?_,fun g L hg hS hgl=>?_,eex,fun g cs' ty' hg=>by rw[ew];exact hbl.sz g (Array.getElem?_eq_some_iff.1 hg).1 cs' ty' hg⟩
     ·have hlt':b<X.w.heap.size:=World.block_lt_of_cell? _ _ hc
      have hne:b≠blk:=fun e=>by subst e;exact hMb (hb.live hlive o')
      exact⟨by rw[ew];exact(World.cell?_of_block (w:=X.w) (hblock b hlt' hne)).trans hc,fun h'=>hMb ((eM b hlt' o').1 h')⟩
     ·have hne:g≠blk:=fun e=>by subst e;rw[hb.own] at hg;injection hg with hg;exact hS hg.symm
      exact⟨(eo g hgl).trans hg,by rw[ew];exact hblock g hgl hne,fun o' hm=>(eM g hgl o').2 hm⟩
    have hkeep:Keeps X1.M X1.w X'.M X'.w:=by
     intro b o' u hMb hc;have hne:b≠blk:=fun e=>by subst e;exact hMb (hMblk o')
     exact⟨by rw[ew];exact hc,fun h'=>hMb ((eM2 b hne o').1 h')⟩
    have hbx:BoxRel X' G.base k { bx with rows:=rows' } blk cs' ty':=by
     refine⟨by rw[eρ];exact hb.ρ,(eo blk hlt).trans hb.own,by rw[eex];exact hb.hbase,by rw[ew];exact hb1.heap,hb1.size,hb1.width,fun r' o' row d u hr hd hu=>?_,fun _ o'=>(eM blk hlt o').2 (hb.live hlive o'),fun hl'=>by rw[hlive] at hl';cases hl'⟩
     obtain⟨h1,h2⟩:=hb1.cells r' o' row d u hr hd hu;have hdp:=jG (gO hp' (cD hr)) (cD hd)
     cases d with
     |p x=>exact⟨Flat.mono hkeep h1,h2⟩
     |_=>simp[DV.isP] at hdp
    have h1:Rel G X' ⟨s.t,aF s.b k none⟩ a:=by
     have h0:Rel G X ⟨s.t,aF s.b k none⟩ a:=by
      refine⟨h.defers,h.size,h.tmps,fun j bx' hj=>?_,h.below,h.hb,h.mold⟩
      simp only[getElem?_setL] at hj
      split at hj
      ·cases hb':s.b[j]?<;>rw[hb'] at hj<;>simp at hj
      ·exact h.boxes j bx' hj
     refine⟨h0.defers,h0.size,fun i d hd=>(h0.tmps i d hd).mono (fun _ _ _ h=>by cases h) hev (by simp) fun _ _=>by rw[eρ],fun j bx' hj=>?_,?_,by rw[ew];exact Nat.le_trans h.hb hbl.size,eex.trans h.mold.1,fun b hb' hx o'=>?_⟩
     ·have hne:j≠k:=fun e=>by
       subst e;simp only[getElem?_setL,if_pos] at hj;cases hb':s.b[j]?<;>rw[hb'] at hj<;>simp at hj
      exact(h0.boxes j bx' hj).mono (fun _ _ _ h=>by cases h) hev (by simp[hne]) (fun _ _=>by simp) (by rw[eρ]) fun _ _ _ _ _ _=>by rw[eρ]
     ·refine h.below.trans ⟨by rw[ew];exact hbl.os,by rw[ew];exact hbl.tape,by rw[ew];exact hbl.output,by rw[ew];exact hbl.size,fun b hb' hx=>?_,fun b hb'=>by rw[ew];exact hbl.sz b (Nat.lt_of_lt_of_le hb' h.hb)⟩
      rw[ew];refine hblock b (Nat.lt_of_lt_of_le hb' h.hb) fun e=>?_
      subst e;rcases hb.hbase.1 with h'|⟨_,h'⟩
      ·omega
      ·rw[h.mold.1] at h';exact hx _ h'
     ·exact(eM b (Nat.lt_of_lt_of_le hb' h.hb) o').trans (h.mold.2 b hb' hx o')
    have h2:Rel G X' ⟨s.t,aF s.b k (some { bx with rows:=rows' })⟩ a:=by
     have hne0:bx.size≠0:=bG hbk;have:=h1.setBox (.cell (bx:={ bx with rows:=rows' }) hne0 hbx)
     have e:aF (aF s.b k none) k (some { bx with rows:=rows' })=aF s.b k (some { bx with rows:=rows' }):=by
      apply List.ext_getElem?
      intro j;simp only[getElem?_setL]
      split
      ·cases s.b[j]?<;>rfl
      ·rfl
     simpa [e] using this
    have hvr:VRel X' G.base (.tmp (o.dst.getD 0)) r v:=by
     have own:∀{L:Loc} {size:Nat} {nl:Bool} {rows:List PV} {u:Value},(L=.tmp 0\/∃j,L=.comp (.tmp 0) j)->OwRel X1 X.w.heap.size L size nl rows u->OwRel X' G.base (toSlot 0 (o.dst.getD 0) L) size nl rows u:=by
      intro L size nl rows u hL hu;rcases hu with hu|⟨h0,g,cap,cur,ty,g0,g1,g2,g3,g4,g5,g6⟩
      ·exact .inl hu
      ·have hgn:¬g<X.w.heap.size:=by omega
       refine .inr ⟨h0,g,cap,cur,ty,g0,?_,Nat.le_trans h.hb g2,by rw[ew];exact g3,g4,g5.mono hkeep,fun o' ho'=>(eM2 g (fun e=>hgn (by rw[e];exact hlt)) o').2 (g6 o' ho')⟩
       subst hX'
       show (if g<X.w.heap.size then X.own g else (X1.own g).map _)=_
       rw[if_neg hgn,g1];rfl
     cases r with
     |p x=>exact Flat.mono hkeep hv
     |ow size nl rows=>exact own (.inl rfl) hv
     |tup ds=>
      obtain⟨vs,g1,g2,g3⟩:=hv;refine⟨vs,g1,g2,fun j d' u hd hu=>?_⟩
      have:=g3 j d' u hd hu
      cases d' with
      |p x=>exact Flat.mono hkeep this
      |ow size nl rows=>exact own (.inr ⟨j,rfl⟩) this
     |_=>simp[DV.plain] at hrp
    exact⟨_,_,h2.put (d:=o.dst) (fun j hj=>by
     have e:o.dst.getD 0=j:=by rw[hj];rfl
     rw[e] at hvr;exact hvr),ew,hK⟩
end
open Go.RowKit
variable {P:Program}
theorem DP(l:List Ob):EX l=l.map Ob.dv:=by induction l with|nil=>rfl|cons x xs ih=>simp[EX,ih]
theorem s7(l:List (List Ob)):eV l=l.map fun r=>r.map Ob.dv:=by induction l with|nil=>rfl|cons x xs ih=>simp[eV,ih,DP]
theorem ObRel.dv{X:Cx}{base:Nat}{L:Loc}{T:Ob}{v:Value}(h:ObRel X base L T v):VRel X base L T.dv v:=by
 cases T with
 |p x=>cases h with|p _ _ _ h=>exact h
 |_=>exact h
def oG(L0:Loc)(j sz:Nat):Loc->Loc
 | .comp L i=>if L=L0 then .cell j (i/sz) (i%sz) else .comp (oG L0 j sz L) i
 |L=>if L=L0 then .box j else L
theorem NA{k r o j sz:Nat}{L:Loc}(h:L.root≠.cell k r o):oG (.cell k r o) j sz L=L:=by
 induction L with
 |comp L i ih=>
  simp only[oG];rw[if_neg (fun e=>h (by rw[Loc.root,e];rfl)),ih h]
 |_=>simp only[oG];rw[if_neg (fun e=>h (by rw[e];rfl))]
def nB(j k r o sz:Nat):Loc->Loc
 | .box i=>if i=j then .cell k r o else .box i
 | .cell i r' o'=>if i=j then .comp (.cell k r o) (r'*sz+o') else .cell i r' o'
 | .comp L i=>.comp (nB j k r o sz L) i
 |L=>L
theorem MJ{j k r o sz:Nat}{L:Loc}(h1:L.root≠.box j)(h2:∀r o,L.root≠.cell j r o):nB j k r o sz L=L:=by
 induction L with
 |comp L i ih=>simp only[nB];rw[ih h1 h2]
 |box i=>simp only[nB];rw[if_neg (fun e=>h1 (by rw[e];rfl))]
 |cell i r' o'=>simp only[nB];rw[if_neg (fun e=>h2 r' o' (by rw[e];rfl))]
 |tmp i=>rfl
theorem AE:∀{ks:List PV} {vs:List Ob} {i:Nat} {row:List DV},(rS ks vs)[i]?=some row->∃k v,ks[i]?=some k/\vs[i]?=some v/\row=[.p k,v.dv]
 |k ::ks,v ::vs,0,row,h=>by simp[rS] at h;exact⟨k,v,rfl,rfl,h.symm⟩
 |k ::ks,v ::vs,i+1,row,h=>by
  simp only[rS,List.getElem?_cons_succ] at h;obtain⟨k',v',h1,h2,h3⟩:=AE h;exact⟨k',v',by simpa using h1,by simpa using h2,h3⟩
 |[],vs,i,row,h=>by cases vs<;>simp[rS] at h
 |k ::ks,[],i,row,h=>by simp[rS] at h
theorem rI:∀{ks:List PV} {vs:List Ob},ks.length=vs.length->(rS ks vs).length=ks.length
 |[],[],_=>rfl
 |k ::ks,v ::vs,h=>by simp only[rS,List.length_cons];rw[rI (by simpa using h)]
 |[],_ ::_,h=>by simp at h
 |_ ::_,[],h=>by simp at h
inductive Opens (j:Nat) (ag:Bool):Ob->Nat->DV->Box->Prop
 |ptr (cells:List Ob) (h:cells≠[]):Opens j ag (.ptr cells) cells.length (.addr j cells.length 0 0) ⟨true,cells.length,[EX cells],false⟩
 |sl (size:Nat) (rows:List (List Ob)) (hs:size≠0):Opens j ag (.sl size false rows) size (.bs j size ag 0 rows.length) ⟨true,size,eV rows,false⟩
 |mp (keys:List PV) (vals:List Ob):Opens j ag (.mp keys vals) 2 (.mh j) ⟨true,0,rS keys vals,false⟩
theorem ObRel.opens{X:Cx}{base:Nat}{k r o j sz:Nat}{ag:Bool}{T:Ob}{v:Value}{d:DV}{bx:Box}(h:ObRel X base (.cell k r o) T v)(ho:Opens j ag T sz d bx) :
  ∃g,g<X.w.heap.size/\X.own g=some (.cell k r o)/\∀X':Cx,X'.w=X.w->X'.M=X.M->X'.ex=X.ex->X'.ρ j=some g->(∀g,X'.own g=(X.own g).map (oG (.cell k r o) j sz)) ->
   (∀L,VRel X' base L d v)/\BX X' base j bx:=by
 have tr:∀{X':Cx},X'.w=X.w->X'.M=X.M->X'.ex=X.ex->(∀g,X'.own g=(X.own g).map (oG (.cell k r o) j sz))->∀{i:Nat} {T:Ob} {u:Value},ObRel X base (.comp (.cell k r o) i) T u->ObRel X' base (.cell j (i/sz) (i%sz)) T u:=by
  intro X' ew eM eex eo i T u hu
  refine hu.map (X':=X') (base':=base) (fun L L'=>L≠.cell k r o/\L'=oG (.cell k r o) j sz L) (fun L L' i ⟨h1,h2⟩=>⟨by simp,by rw[h2];simp only[oG];rw[if_neg h1]⟩) (by rw[ew,eM];exact Keeps.refl _ _)
   (fun g L L' ⟨_,h2⟩ g1 g2 g3 _=>⟨by rw[eo,g1,h2];rfl,by rw[eex];exact g2,by rw[ew],by rw[eM];exact g3⟩) ⟨by simp,by simp[oG]⟩
 cases ho with
 |ptr cells hne=>
  cases h with
  |ptr _ _ g cs ty h1 h2 h3 h4 h5 h6 h7=>
   refine⟨g,(Array.getElem?_eq_some_iff.1 h3).1,h1,fun X' ew eM eex eρ eo=>⟨fun L=>⟨g,eρ,by simp⟩,?_⟩⟩
   refine BX.cell (blk:=g) (cs:=cs) (ty:=ty) (by simpa using hne) ⟨eρ,by rw[eo,h1];simp[oG],⟨by rw[eex];exact h2,fun h=>by cases h⟩,by rw[ew];exact h3,by simpa using h5,fun row hr=>?_,fun r' o' row d u hr hd hu=>?_,fun _=>by rw[eM];exact h4,fun h=>by cases h⟩
   ·simp only[List.mem_singleton] at hr;subst hr;simp[DP]
   ·cases r' with
    |succ r'=>simp at hr
    |zero=>
     simp only[List.getElem?_cons_zero,bQ] at hr;subst hr;simp only[Nat.zero_mul,Nat.zero_add] at hu;rw[DP,List.getElem?_map] at hd
     cases hT:cells[o']? with
     |none=>rw[hT] at hd;simp at hd
     |some T=>
      rw[hT] at hd;simp only[Option.map_some,bQ] at hd;subst hd;have hlt:=(bM.1 hT).1;have:=tr ew eM eex eo (h7 o' T u hT hu);rw[Nat.div_eq_of_lt hlt,Nat.mod_eq_of_lt hlt] at this;exact⟨this.dv,h6 o' T u hT hu⟩
 |sl size rows hs=>
  cases h with
  |sl _ _ _ g cap cs ty h1 h2 h3 h4 h5 h6 h7 h8 h9 h10=>
   refine⟨g,(Array.getElem?_eq_some_iff.1 h3).1,h1,fun X' ew eM eex eρ eo=>⟨fun L=>⟨g,cap,eρ,h5,h6,⟨cs,ty,by rw[ew];exact h3,by simpa using h7⟩,by simp⟩,?_⟩⟩
   refine BX.cell (blk:=g) (cs:=cs) (ty:=ty) hs ⟨eρ,by rw[eo,h1];simp[oG],⟨by rw[eex];exact h2,fun h=>by cases h⟩,by rw[ew];exact h3,?_,fun row hr=>?_,fun r' o' row d u hr hd hu=>?_,fun _=>by rw[eM];exact h4,fun h=>by cases h⟩
   ·simp only[s7,List.length_map];exact Nat.le_trans (Nat.mul_le_mul_right _ h5) h7
   ·simp only[s7] at hr
    obtain⟨row',hr',rfl⟩:=List.mem_map.1 hr
    simpa using h8 row' hr'
   ·simp only[s7,List.getElem?_map] at hr
    cases hrow:rows[r']? with
    |none=>rw[hrow] at hr;simp at hr
    |some row'=>
     rw[hrow] at hr;simp only[Option.map_some,bQ] at hr;subst hr;rw[List.getElem?_map] at hd
     cases hT:row'[o']? with
     |none=>rw[hT] at hd;simp at hd
     |some T=>
      rw[hT] at hd;simp only[Option.map_some,bQ] at hd;subst hd;have hlt:o'<sz:=by have:=(bM.1 hT).1;rw[h8 row' (cD hrow)] at this;exact this
      have:=tr ew eM eex eo (h10 r' o' row' T u hrow hT hu)
      have e1:(r'*sz+o')/sz=r':=by
       rw[Nat.mul_comm,Nat.mul_add_div (by omega),Nat.div_eq_of_lt hlt,Nat.add_zero]
      have e2:(r'*sz+o')%sz=o':=by rw[Nat.mul_comm,Nat.mul_add_mod,Nat.mod_eq_of_lt hlt]
      rw[e1,e2] at this;exact⟨this.dv,h9 r' o' row' T u hrow hT hu⟩
 |mp keys vals=>
  cases h with
  |mp _ _ _ g es clock h1 h2 h3 h4 h5 h6 h7 hbn h8=>
   refine⟨g,(Array.getElem?_eq_some_iff.1 h3).1,h1,fun X' ew eM eex eρ eo=>⟨fun L=>⟨g,eρ,rfl⟩,?_⟩⟩
   unfold BX;rw[if_pos rfl];refine⟨g,es,clock,eρ,by rw[eo,h1];simp[oG],⟨by rw[eex];exact h2,fun h=>by cases h⟩,by rw[ew];exact h3,by rw[rI (by omega),h5],by rw[eM];exact h4,hbn,fun i row e hr he=>?_⟩
   obtain⟨kk,vv,g1,g2,rfl⟩:=AE hr;have e2:=h7 i kk e g1 he;have:=tr ew eM eex eo (h8 i vv e g2 he);have e3:(i*2+1)/2=i:=by omega
   have e4:(i*2+1)%2=1:=by omega
   rw[e3,e4] at this;exact⟨kk,false,_,rfl,e2,this.dv⟩
def KT:DV->Option Ob
 | .p x=>some (.p x)
 | .ow size nl rows=>some (.p (.sl size nl rows))
 | .ob T=>some T
 |_=>none
def KS:List DV->Option (List Ob)
 |[]=>some []
 |d ::ds=>match KT d,KS ds with
  |some T,some l=>some (T ::l)
  |_,_=>none
def BE:List (List DV)->Option (List (List Ob))
 |[]=>some []
 |r ::rs=>match KS r,BE rs with
  |some x,some l=>some (x ::l)
  |_,_=>none
def TD:List (List DV)->Option (List PV×List Ob)
 |[]=>some ([],[])
 |[.p k,d] ::rs=>match KT d,TD rs with
  |some T,some (ks,vs)=>some (k ::ks,T ::vs)
  |_,_=>none
 |_=>none
theorem s5:∀{ds:List DV} {l:List Ob},KS ds=some l->l.length=ds.length/\∀(i:Nat) d T,ds[i]?=some d->l[i]?=some T->KT d=some T
 |[],l,h=>by simp only[KS,bQ] at h;subst h;exact⟨rfl,fun i d T h=>by simp at h⟩
 |d ::ds,l,h=>by
  simp only[KS] at h
  split at h
  ·rename_i T l' h1 h2
   injection h with h
   subst h;obtain⟨e1,e2⟩:=s5 h2;refine⟨by simp[e1],fun i d' T' hd hT=>?_⟩
   cases i with
   |zero=>simp only[List.getElem?_cons_zero,bQ] at hd hT;subst hd;subst hT;exact h1
   |succ i=>exact e2 i d' T' (by simpa using hd) (by simpa using hT)
  ·cases h
theorem B8:∀{rs:List (List DV)} {l:List (List Ob)},BE rs=some l->l.length=rs.length/\∀(i:Nat) r x,rs[i]?=some r->l[i]?=some x->KS r=some x
 |[],l,h=>by simp only[BE,bQ] at h;subst h;exact⟨rfl,fun i d T h=>by simp at h⟩
 |d ::ds,l,h=>by
  simp only[BE] at h
  split at h
  ·rename_i T l' h1 h2
   injection h with h
   subst h;obtain⟨e1,e2⟩:=B8 h2;refine⟨by simp[e1],fun i d' T' hd hT=>?_⟩
   cases i with
   |zero=>simp only[List.getElem?_cons_zero,bQ] at hd hT;subst hd;subst hT;exact h1
   |succ i=>exact e2 i d' T' (by simpa using hd) (by simpa using hT)
  ·cases h
theorem F2:∀{rs:List (List DV)} {ks:List PV} {vs:List Ob},TD rs=some (ks,vs)->ks.length=rs.length/\vs.length=rs.length /\
  ∀(i:Nat) r k T,rs[i]?=some r->ks[i]?=some k->vs[i]?=some T->∃d,r=[.p k,d]/\KT d=some T
 |[],ks,vs,h=>by
  simp only[TD,bQ,Prod.mk.injEq] at h;obtain⟨rfl,rfl⟩:=h;exact⟨rfl,rfl,fun i r k T h=>by simp at h⟩
 |r ::rs,ks,vs,h=>by
  unfold TD at h
  split at h
  ·rename_i e;cases e
  ·rename_i k d rs' e
   injection e with e1 e2
   subst e1;subst e2
   split at h
   ·rename_i T ks' vs' h1 h2
    injection h with h
    injection h with ha hb
    subst ha;subst hb;obtain⟨e1,e2,e3⟩:=F2 h2;refine⟨by simp[e1],by simp[e2],fun i r k' T' hr hk hT=>?_⟩
    cases i with
    |zero=>simp only[List.getElem?_cons_zero,bQ] at hr hk hT;subst hr;subst hk;subst hT;exact⟨d,rfl,h1⟩
    |succ i=>exact e3 i r k' T' (by simpa using hr) (by simpa using hk) (by simpa using hT)
   ·cases h
  ·cases h
inductive Closes (j:Nat) (bx:Box):DV->Nat->Ob->Prop
 |ptr (row:List DV) (cells:List Ob) (hr:bx.rows=[row]) (hc:KS row=some cells) (hs:bx.size≠0):Closes j bx (.addr j bx.size 0 0) bx.size (.ptr cells)
 |sl (ag:Bool) (rows:List (List Ob)) (hc:BE bx.rows=some rows) (hs:bx.size≠0):Closes j bx (.bs j bx.size ag 0 bx.rows.length) bx.size (.sl bx.size false rows)
 |mp (keys:List PV) (vals:List Ob) (hc:TD bx.rows=some (keys,vals)) (hs:bx.size=0):Closes j bx (.mh j) 2 (.mp keys vals)
theorem VRel.cl{X X':Cx}{base:Nat}{φ:Loc->Loc}(hφ:∀L j, φ (.comp L j)=.comp (φ L) j)(ew:X'.w=X.w)(eM:X'.M=X.M)(eex:X'.ex=X.ex)(eo:∀g,X'.own g=(X.own g).map φ){L:Loc}{d:DV}{T:Ob}{v:Value}
  (h:VRel X base L d v) (hc:KT d=some T):ObRel X' base (φ L) T v:=by
 have hk:Keeps X.M X.w X'.M X'.w:=by rw[ew,eM];exact Keeps.refl _ _
 cases d with
 |p x=>simp only[KT,bQ] at hc;subst hc;exact .p _ _ _ (Flat.mono hk h)
 |ow size nl rows=>simp only[KT,bQ] at hc;subst hc;exact .p _ _ _ ((OwRel.flat h).mono hk)
 |ob T'=>
  simp only[KT,bQ] at hc;subst hc;exact ObRel.map (X':=X') (base':=base) (fun L L'=>L' = φ L) (fun L L' j e=>by rw[e,hφ]) hk (fun g L L' e h1 h2 h3 _=>⟨by rw[eo,h1,e];rfl,by rw[eex];exact h2,by rw[ew],by rw[eM];exact h3⟩) h rfl
 |_=>simp[KT] at hc
theorem BX.closes{X:Cx}{base:Nat}{k r o j sz:Nat}{bx:Box}{d:DV}{T:Ob}{v:Value}(hl:bx.live=true)(hb:BX X base j bx)(hv:∃L,VRel X base L d v)(hc:Closes j bx d sz T) :
  ∀X':Cx,X'.w=X.w->X'.M=X.M->X'.ex=X.ex->(∀g,X'.own g=(X.own g).map (nB j k r o sz))->ObRel X' base (.cell k r o) T v:=by
 intro X' ew eM eex eo;obtain⟨L0,hv⟩:=hv;have cl:=fun {L:Loc} {d:DV} {T:Ob} {v:Value}=>VRel.cl (X:=X) (X':=X') (base:=base) (φ:=nB j k r o sz) (fun _ _=>rfl) ew eM eex eo (L:=L) (d:=d) (T:=T) (v:=v)
 cases hc with
 |ptr row cells hr hcl hs=>
  unfold BX at hb;rw[if_neg hs] at hb;obtain⟨blk,cs,ty,hb⟩:=hb;obtain⟨blk',e1,rfl⟩:=hv;have:blk'=blk:=by have:=hb.ρ;rw[e1] at this;injection this
  subst this;obtain⟨c1,c2⟩:=s5 hcl;have hw:=hb.width row (by rw[hr];simp)
  have hsz:=hb.size;rw[hr] at hsz
  have key:∀(j':Nat) T u,cells[j']?=some T->cs[j']?=some u->ObRel X' base (.comp (.cell k r o) j') T u/\u.oneCell'=true:=by
   intro j' T u hT hu;have hlt:j'<row.length:=by rw[<-c1];exact(bM.1 hT).1
   have hd:row[j']?=some row[j']:=by simp[hlt]
   obtain⟨f1,f2⟩:=hb.cells 0 j' row _ u (by rw[hr];rfl) hd (by simpa using hu)
   have:=cl f1 (c2 j' _ T hd hT);simp only[nB,if_pos,Nat.zero_mul,Nat.zero_add] at this;exact⟨this,f2⟩
  have:=ObRel.ptr (X:=X') (base:=base) (.cell k r o) cells blk' cs ty (by rw[eo,hb.own];simp[nB]) (by rw[eex];exact hb.hbase.1) (by rw[ew];exact hb.heap) (by rw[eM];exact hb.live hl) (by rw[c1,hw];simpa using hsz) (fun j T u hT hu=>(key j T u hT hu).2) (fun j T u hT hu=>(key j T u hT hu).1)
  simpa using this
 |sl ag rows hcl hs=>
  unfold BX at hb;rw[if_neg hs] at hb;obtain⟨blk,cs,ty,hb⟩:=hb;obtain⟨blk',cap,e1,e2,e3,⟨cs',ty',e4,e5⟩,rfl⟩:=hv;have:blk'=blk:=by have:=hb.ρ;rw[e1] at this;injection this
  subst this;rw[hb.heap] at e4;injection e4 with e4
  injection e4 with e4 _
  subst e4;obtain⟨c1,c2⟩:=B8 hcl
  have key:∀(r' o':Nat) row T u,rows[r']?=some row->row[o']?=some T->cs[r'*bx.size+o']?=some u->ObRel X' base (.comp (.cell k r o) (r'*bx.size+o')) T u/\u.oneCell'=true:=by
   intro r' o' row T u hrow hT hu;have hlt:r'<bx.rows.length:=by rw[<-c1];exact(bM.1 hrow).1
   have hr':bx.rows[r']?=some bx.rows[r']:=by simp[hlt]
   obtain⟨d1,d2⟩:=s5 (c2 r' _ row hr' hrow);have hlo:o'<bx.rows[r'].length:=by rw[<-d1];exact(bM.1 hT).1
   have hd:bx.rows[r'][o']?=some bx.rows[r'][o']:=by simp[hlo]
   obtain⟨f1,f2⟩:=hb.cells r' o' _ _ u hr' hd hu;have:=cl f1 (d2 o' _ T hd hT);simp only[nB,if_pos] at this;exact⟨this,f2⟩
  have:=ObRel.sl (X:=X') (base:=base) (.cell k r o) bx.size rows blk' cap cs ty (by rw[eo,hb.own];simp[nB]) (by rw[eex];exact hb.hbase.1) (by rw[ew];exact hb.heap) (by rw[eM];exact hb.live hl) (by rw[c1];exact e2) e3 (by simpa using e5)
   (fun row hrow => by
    obtain⟨i,hi⟩:=List.getElem?_of_mem hrow;have hlt:i<bx.rows.length:=by rw[<-c1];exact(bM.1 hi).1
    have hr':bx.rows[i]?=some bx.rows[i]:=by simp[hlt]
    rw[(s5 (c2 i _ row hr' hi)).1];exact hb.width _ (cD hr')) (fun r o row T u h1 h2 h3=>(key r o row T u h1 h2 h3).2) (fun r o row T u h1 h2 h3=>(key r o row T u h1 h2 h3).1)
  rw[c1] at this
  simpa using this
 |mp keys vals hcl hs=>
  unfold BX at hb;rw[if_pos hs] at hb;obtain⟨blk,es,clock,m1,m2,m3,m4,m5,m6,m0,m7⟩:=hb;obtain⟨blk',e1,rfl⟩:=hv;have:blk'=blk:=by rw[e1] at m1;injection m1
  subst this;obtain⟨c1,c2,c3⟩:=F2 hcl;refine .mp _ _ _ blk' es clock (by rw[eo,m2];simp[nB]) (by rw[eex];exact m3.1) (by rw[ew];exact m4) (by rw[eM];exact m6) (by omega) (by omega) (fun i kk e hk he=>?_) m0 (fun i T e hT he=>?_)
  ·have hlt:i<bx.rows.length:=by rw[<-c1];exact(bM.1 hk).1
   have hr':bx.rows[i]?=some bx.rows[i]:=by simp[hlt]
   have hv:vals[i]?=some vals[i]:=by simp[show i<vals.length by omega]
   obtain⟨d,f1,f2⟩:=c3 i _ kk _ hr' hk hv;obtain⟨q,n,d',g1,g2,g3⟩:=m7 i _ e hr' he;rw[g1] at f1;injection f1 with f1 f3
   injection f1 with f1
   rw[<-f1];exact g2
  ·have hlt:i<bx.rows.length:=by rw[<-c2];exact(bM.1 hT).1
   have hr':bx.rows[i]?=some bx.rows[i]:=by simp[hlt]
   have hk:keys[i]?=some keys[i]:=by simp[show i<keys.length by omega]
   obtain⟨d,f1,f2⟩:=c3 i _ _ T hr' hk hT;obtain⟨q,n,d',g1,g2,g3⟩:=m7 i _ e hr' he;rw[g1] at f1;injection f1 with f1 f3
   injection f3 with f3 _
   subst f3;have:=cl g3 f2;simp only[nB,if_pos] at this;exact this
open Go.RowKit
variable {P:Program}
def CellV(X:Cx)(k:Nat)(bx:Box)(r o:Nat)(u:Value):Prop :=
 ∃blk,X.ρ k=some blk/\if bx.size=0 then ∃es clock e,X.w.heap[blk]?=some (.map es clock)/\es[r]?=some e/\e.val=u else ∃cs ty,X.w.heap[blk]?=some (.cells cs ty (0,0))/\cs[r*bx.size+o]?=some u
theorem CellV.one{X:Cx}{k:Nat}{bx:Box}{r o:Nat}{u v:Value}(h1:CellV X k bx r o u)(h2:CellV X k bx r o v):u=v:=by
 obtain⟨b,e1,h1⟩:=h1;obtain⟨b',e2,h2⟩:=h2;rw[e1] at e2;injection e2 with e2
 subst e2
 split at h1
 ·rename_i hs
  rw[if_pos hs] at h2;obtain⟨es,c,e,a1,a2,a3⟩:=h1;obtain⟨es',c',e',b1,b2,b3⟩:=h2;rw[a1] at b1;injection b1 with b1
  injection b1 with b1 _
  subst b1;rw[a2] at b2;injection b2 with b2
  rw[<-a3, <-b3,b2]
 ·rename_i hs
  rw[if_neg hs] at h2;obtain⟨es,c,a1,a2⟩:=h1;obtain⟨es',c',b1,b2⟩:=h2;rw[a1] at b1;injection b1 with b1
  injection b1 with b1 _
  subst b1;rw[a2] at b2;injection b2 with b2
theorem BX.cellV{X:Cx}{base k r o:Nat}{bx:Box}{row:List DV}{d:DV}(hb:BX X base k bx)(hr:bx.rows[r]?=some row)(hd:row[o]?=some d)(hm:bx.size=0->o=1):∃u,CellV X k bx r o u/\VRel X base (.cell k r o) d u:=by
 unfold BX at hb
 split at hb
 ·rename_i hs
  obtain⟨blk,es,clock,m1,m2,m3,m4,m5,m6,m0,m7⟩:=hb;have hlt:r<es.size:=by rw[m5];exact(bM.1 hr).1
  obtain⟨q,n,d0,f1,f2,f3⟩:=m7 r row es[r] hr (by simp[hlt])
  have:=hm hs;subst this;subst f1;simp at hd;subst hd;exact⟨_,⟨blk,m1,by rw[if_pos hs];exact⟨es,clock,es[r],m4,by simp[hlt],rfl⟩⟩,f3⟩
 ·rename_i hs
  obtain⟨blk,cs,ty,hb⟩:=hb;obtain⟨u,h1,_,h3,_⟩:=hb.cell hr (bM.1 hd).1;rw[(bM.1 hd).2] at h3;exact⟨u,⟨blk,hb.ρ,by rw[if_neg hs];exact⟨cs,ty,hb.heap,h1⟩⟩,h3⟩
theorem BX.put{X X':Cx}{base k r o:Nat}{bx:Box}{row:List DV}{d:DV}{S:Loc->Prop}(hc:∀L j,S L->S (.comp L j))(hev:Ev S X X')(hb:BX X base k bx)(hl:bx.live=true)(hr:bx.rows[r]?=some row)(ho:o<row.length)
  (hm:bx.size=0->o=1) (h1:S (.box k)) (h2:∀r' o',¬(r'=r/\o'=o)->S (.cell k r' o')) (hρ:X'.ρ k=X.ρ k) (hrf:∀row,row∈bx.rows->∀d,d∈row->∀j,d.ment j=true->X'.ρ j=X.ρ j)
  (hd:∀u,CellV X k bx r o u->VRel X' base (.cell k r o) d u):BX X' base k { bx with rows:=aF bx.rows r (aF row o d) }:=by
 unfold BX at hb ⊢
 split at hb
 ·rename_i hs
  rw[if_pos (show ({ bx with rows:=aF bx.rows r (aF row o d) }:Box).size=0 from hs)]
  obtain⟨blk,es,clock,m1,m2,m3,m4,m5,m6,m0,m7⟩:=hb;obtain⟨e1,e2,e3⟩:=hev.own blk _ m2 h1 (Array.getElem?_eq_some_iff.1 m4).1;refine⟨blk,es,clock,hρ.trans m1,e1,by rw[hev.ex];exact m3,e2.trans m4,by simpa [aI] using m5,fun o=>e3 o (m6 o),m0,fun i row' e hi he=>?_⟩
  rw[getElem?_setL] at hi
  by_cases hir:i=r
  ·subst hir
   rw[if_pos rfl,hr] at hi;simp only[Option.map_some,bQ] at hi;subst hi;obtain⟨q,n,d0,f1,f2,f3⟩:=m7 i row e hr he;have ho1:=hm hs;subst ho1;subst f1;exact⟨q,n,d,rfl,f2,hd _ ⟨blk,m1,by rw[if_pos hs];exact⟨es,clock,e,m4,he,rfl⟩⟩⟩
  ·rw[if_neg hir] at hi
   obtain⟨q,n,d0,f1,f2,f3⟩:=m7 i row' e hi he;exact⟨q,n,d0,f1,f2,f3.mono hc hev (h2 i 1 (fun h=>hir h.1)) fun j hj=>hrf row' (cD hi) d0 (by rw[f1];simp) j hj⟩
 ·rename_i hs
  rw[if_neg (show ¬({ bx with rows:=aF bx.rows r (aF row o d) }:Box).size=0 from hs)]
  obtain⟨blk,cs,ty,hb⟩:=hb;obtain⟨e1,e2,e3⟩:=hev.own blk _ hb.own h1 (Array.getElem?_eq_some_iff.1 hb.heap).1;refine⟨blk,cs,ty,hρ.trans hb.ρ,e1,by rw[hev.ex];exact hb.hbase,e2.trans hb.heap,by simpa [aI] using hb.size,fun row' hrow'=>?_,fun r' o' row' e u hrow' he hu=>?_,fun hl o=>e3 o (hb.live hl o),fun hl'=>?_⟩
  ·obtain⟨j,hj⟩:=List.getElem?_of_mem hrow'
   simp only[getElem?_setL] at hj
   by_cases hjr:j=r
   ·subst hjr
    rw[if_pos rfl,hr] at hj;simp only[Option.map_some,bQ] at hj;subst hj;rw[aI];exact hb.width row (cD hr)
   ·rw[if_neg hjr] at hj
    exact hb.width row' (cD hj)
  ·simp only[getElem?_setL] at hrow'
   by_cases hjr:r'=r
   ·subst hjr
    rw[if_pos rfl,hr] at hrow';simp only[Option.map_some,bQ] at hrow';subst hrow';rw[getElem?_setL] at he
    by_cases hoo:o'=o
    ·subst hoo
     rw[if_pos rfl] at he;have hx:row[o']?=some row[o']:=by simp[ho]
     rw[hx] at he;simp only[Option.map_some,bQ] at he;subst he;obtain⟨f1,f2⟩:=hb.cells r' o' row _ u hr hx hu;exact⟨hd u ⟨blk,hb.ρ,by rw[if_neg hs];exact⟨cs,ty,hb.heap,hu⟩⟩,f2⟩
    ·rw[if_neg hoo] at he
     obtain⟨f1,f2⟩:=hb.cells r' o' row e u hr he hu;exact⟨f1.mono hc hev (h2 r' o' (fun h=>hoo h.2)) fun j hj=>hrf row (cD hr) e (cD he) j hj,f2⟩
   ·rw[if_neg hjr] at hrow'
    obtain⟨f1,f2⟩:=hb.cells r' o' row' e u hrow' he hu;exact⟨f1.mono hc hev (h2 r' o' (fun h=>hjr h.1)) fun j hj=>hrf row' (cD hrow') e (cD he) j hj,f2⟩
  ·rw[show ({ bx with rows:=aF bx.rows r (aF row o d) }:Box).live=bx.live from rfl,hl] at hl';cases hl'
theorem xB{bs:List (Option Box)}{k j i:Nat}{x:Option Box}{bx bx':Box}(h:(aF (aF bs k (some bx)) j x)[i]?=some (some bx')):(i=j/\x=some bx')\/(i≠j/\i=k/\bx'=bx)\/(i≠j/\i≠k/\bs[i]?=some (some bx')):=by
 rw[getElem?_setL] at h
 by_cases hij:i=j
 ·subst hij
  rw[if_pos rfl] at h
  cases hb:(aF bs k (some bx))[i]? with
  |none=>rw[hb] at h;simp at h
  |some _=>rw[hb] at h;simp at h;exact .inl ⟨rfl,h⟩
 ·rw[if_neg hij] at h
  rcases dI h with ⟨e1,e2⟩|⟨e1,e2⟩
  ·exact .inr (.inl ⟨hij,e1,e2⟩)
  ·exact .inr (.inr ⟨hij,e1,e2⟩)
theorem Rel.opn{G:Gl}{X:Cx}{s:St}{a:Act}(h:Rel G X s a){k r o j sz:Nat}{ag:Bool}{bx bx':Box}{row:List DV}{T:Ob}{d:DV}(hk:s.b[k]?=some (some bx))(hl:bx.live=true)(hr:bx.rows[r]?=some row)(hd:row[o]?=some (.ob T))
  (hm:bx.size=0->o=1) (ho:Opens j ag T sz d bx') (hjk:j≠k) (hT:c8 j s.t=true) (hB:cK j 0 s.b=true) :
  ∃X',X'.w=X.w/\(∀u,CellV X k bx r o u->∀L,VRel X' G.base L d u)/\Rel G X' ⟨s.t,aF (aF s.b k (some { bx with rows:=aF bx.rows r (aF row o d) })) j (some bx')⟩ a:=by
 have hbk:=h.boxes k bx hk;obtain⟨u0,hc0,hu0⟩:=hbk.cellV hr hd hm;obtain⟨g,hg1,hg2,hop⟩:=ObRel.opens hu0 ho;generalize hX:({ X with ρ:=(fun q=>if q=j then some g else X.ρ q),own:=fun q=>(X.own q).map (oG (.cell k r o) j sz) }:Cx)=X'
 have ew:X'.w=X.w:=by subst hX;rfl
 have eM:X'.M=X.M:=by subst hX;rfl
 have eex:X'.ex=X.ex:=by subst hX;rfl
 have eρj:X'.ρ j=some g:=by subst hX;simp
 have eρ:∀q,q≠j->X'.ρ q=X.ρ q:=by subst hX;intro q hq;simp[hq]
 have eo:∀g,X'.own g=(X.own g).map (oG (.cell k r o) j sz):=by subst hX;exact fun _=>rfl
 have hev:Ev (fun L=>L.root≠.cell k r o) X X' :=
  ⟨by rw[ew,eM];exact Keeps.refl _ _,fun g L hg hS _=>⟨by rw[eo,hg];simp[NA hS],by rw[ew],fun o=>by rw[eM];exact id⟩,eex,fun g=>by rw[ew];exact .refl _ _⟩
 obtain⟨hv,hbx⟩:=hop X' ew eM eex eρj eo;refine⟨X',ew,fun u hu L=>by rw[CellV.one hu hc0];exact hv L,h.defers,h.size,fun i e he=>?_,fun q bq hq=>?_,by rw[ew];exact h.below,by rw[ew];exact h.hb,eex.trans h.mold.1,by rw[eM];exact h.mold.2⟩
 ·have hmn:=i9 hT he
  exact(h.tmps i e he).mono (fun L j hL=>hL) hev (by simp[Loc.root]) fun q hq=>eρ q (fun e'=>by subst e';rw[hmn] at hq;cases hq)
 ·rcases xB hq with ⟨rfl,e⟩|⟨hne,rfl,rfl⟩|⟨hne,hne2,hq⟩
  ·injection e with e;subst e;exact hbx
  ·have hnr:=hU hB hk (by omega)
   exact BX.put (fun L j hL=>hL) hev hbk hl hr (bM.1 hd).1 hm (by simp[Loc.root]) (fun r' o' hh=>by simp only[Loc.root,ne_eq,Loc.cell.injEq,true_and];exact hh) (eρ q hne)
    (fun row hrow e he i hi=>eρ i (fun e'=>by subst e';rw[f9 hnr hrow he] at hi;cases hi)) (fun u hu=>by rw[CellV.one hu hc0];exact hv _)
  ·have hnr:=hU hB hq (by omega)
   exact(h.boxes q bq hq).mono (fun L j hL=>hL) hev (by simp[Loc.root]) (fun r' o'=>by simp[Loc.root,hne2]) (eρ q hne) fun row hrow e he i hi=>eρ i (fun e'=>by subst e';rw[f9 hnr hrow he] at hi;cases hi)
theorem Rel.cls{G:Gl}{X:Cx}{s:St}{a:Act}(h:Rel G X s a){k r o j sz:Nat}{bx bj:Box}{row:List DV}{T:Ob}{d:DV}(hk:s.b[k]?=some (some bx))(hl:bx.live=true)(hr:bx.rows[r]?=some row)(hd:row[o]?=some d)
  (hm:bx.size=0->o=1) (hj:s.b[j]?=some (some bj)) (hlj:bj.live=true) (hc:Closes j bj d sz T) (hjk:j≠k) :
  ∃X',X'.w=X.w/\Rel G X' ⟨s.t,aF (aF s.b k (some { bx with rows:=aF bx.rows r (aF row o (.ob T)) })) j none⟩ a:=by
 have hbk:=h.boxes k bx hk;obtain⟨u0,hc0,hu0⟩:=hbk.cellV hr hd hm;have hcl:=BX.closes (k:=k) (r:=r) (o:=o) hlj (h.boxes j bj hj) ⟨_,hu0⟩ hc;generalize hX:({ X with own:=fun q=>(X.own q).map (nB j k r o sz) }:Cx)=X'
 have ew:X'.w=X.w:=by subst hX;rfl
 have eM:X'.M=X.M:=by subst hX;rfl
 have eex:X'.ex=X.ex:=by subst hX;rfl
 have eρ:X'.ρ=X.ρ:=by subst hX;rfl
 have eo:∀g,X'.own g=(X.own g).map (nB j k r o sz):=by subst hX;exact fun _=>rfl
 have hev:Ev (fun L=>L.root≠.box j/\∀r o,L.root≠.cell j r o) X X' :=
  ⟨by rw[ew,eM];exact Keeps.refl _ _,fun g L hg hS _=>⟨by rw[eo,hg];simp[MJ hS.1 hS.2],by rw[ew],fun o=>by rw[eM];exact id⟩,eex,fun g=>by rw[ew];exact .refl _ _⟩
 have hcl:=hcl X' ew eM eex eo;refine⟨X',ew,h.defers,h.size,fun i e he=>?_,fun q bq hq=>?_,by rw[ew];exact h.below,by rw[ew];exact h.hb,eex.trans h.mold.1,by rw[eM];exact h.mold.2⟩
 ·exact(h.tmps i e he).mono (fun L j hL=>hL) hev (by simp[Loc.root]) fun q hq=>by rw[eρ]
 ·rcases xB hq with ⟨rfl,e⟩|⟨hne,rfl,rfl⟩|⟨hne,hne2,hq⟩
  ·cases e
  ·exact BX.put (fun L j hL=>hL) hev hbk hl hr (bM.1 hd).1 hm (by simp[Loc.root,hne]) (fun r' o' hh=>by simp[Loc.root,hne]) (by rw[eρ]) (fun row hrow e he i hi=>by rw[eρ]) (fun u hu=>by rw[CellV.one hu hc0];exact hcl)
  ·exact(h.boxes q bq hq).mono (fun L j hL=>hL) hev (by simp[Loc.root,hne]) (fun r' o'=>by simp[Loc.root,hne]) (by rw[eρ]) fun row hrow e he i hi=>by rw[eρ]
open Go.RowKit
variable {P:Program}
theorem tD(ν:Nat->Option Nat)(l:List DV):uM ν l=l.map (cF ν):=by induction l with|nil=>rfl|cons x xs ih=>simp[uM,ih]
theorem DC(ν:Nat->Option Nat)(l:List (List DV)):lS ν l=l.map fun r=>r.map (cF ν):=by induction l with|nil=>rfl|cons x xs ih=>simp[lS,ih,tD]
theorem KJ(ν:Nat->Option Nat){l:List DV}(h:xY l=true):l.map (cF ν)=l:=by
 induction l with
 |nil=>rfl
 |cons d ds ih=>
  simp only[xY,aY] at h;rw[List.map_cons,ih h.2];cases d<;>first|rfl|(simp[DV.isP] at h)
theorem gU(ν:Nat->Option Nat)(l:List (List DV)):dH ν l=l.map fun r=>r.map (cF ν):=by
 unfold dH
 cases h:c9 l with
 |false=>exact DC ν l
 |true=>
  simp only[cond_true]
  induction l with
  |nil=>rfl
  |cons x xs ih=>
   simp only[c9,aY] at h;rw[List.map_cons,KJ ν h.1, <-ih h.2]
theorem lP{ν:Nat->Option Nat}:∀{cs l:List CapV},rA ν cs=some l->l.length=cs.length/\∀(j:Nat) c c',cs[j]?=some c->l[j]?=some c' ->
  (∃x,c=.p x/\c'=.p x)\/∃k k' sz r o, ν k=some k'/\c=.addr k sz r o/\c'=.addr k' sz r o
 |[],l,h=>by simp only[rA,bQ] at h;subst h;exact⟨rfl,fun j c c' h=>by simp at h⟩
 | .p x ::cs,l,h=>by
  simp only[rA] at h
  split at h
  ·rename_i l' h'
   injection h with h
   subst h;obtain⟨h1,h2⟩:=lP h';refine⟨by simp[h1],fun j c c' hc hc'=>?_⟩
   cases j with
   |zero=>simp at hc hc';subst hc;subst hc';exact .inl ⟨x,rfl,rfl⟩
   |succ j=>exact h2 j c c' (by simpa using hc) (by simpa using hc')
  ·cases h
 | .addr k sz r o ::cs,l,h=>by
  simp only[rA] at h
  split at h
  ·rename_i k' l' hk h'
   injection h with h
   subst h;obtain⟨h1,h2⟩:=lP h';refine⟨by simp[h1],fun j c c' hc hc'=>?_⟩
   cases j with
   |zero=>simp at hc hc';subst hc;subst hc';exact .inr ⟨k,k',sz,r,o,hk,rfl,rfl⟩
   |succ j=>exact h2 j c c' (by simpa using hc) (by simpa using hc')
  ·cases h
theorem VRel.tr{X X':Cx}{base base':Nat}(R:Loc->Loc->Prop)(ν:Nat->Option Nat)(hR:∀L L' j,R L L'->R (.comp L j) (.comp L' j))(hk:Keeps X.M X.w X'.M X'.w)(hw:X'.w=X.w)
  (hown:∀g L L',R L L'->X.own g=some L->(base<=g\/∃j,X.ex j=some g)->(∀o,X.M g o)->g<X.w.heap.size->X'.own g=some L'/\(base'<=g\/∃j,X'.ex j=some g)/\∀o,X'.M g o)
  {L L':Loc} {d:DV} (hL:∀T,d=DV.ob T->R L L') {v:Value} (hρ:∀j j', ν j=some j'->X'.ρ j'=X.ρ j) (h:VRel X base L d v):VRel X' base' L' (cF ν d) v:=by
 cases d with
 |top=>trivial
 |p x=>exact Flat.mono hk h
 |ow size nl rows=>exact(OwRel.flat h).mono hk
 |tup ds=>trivial
 |pk o=>trivial
 |agd cs=>trivial
 |addr k sz r o=>
  simp only[cF]
  split
  ·rename_i k' hk'
   obtain⟨blk,h1,h2⟩:=h;exact⟨blk,(hρ k k' hk').trans h1,h2⟩
  ·trivial
 |bs k sz ag lo n=>
  simp only[cF]
  split
  ·rename_i k' hk'
   obtain⟨blk,cap,h1,h2⟩:=h;exact⟨blk,cap,(hρ k k' hk').trans h1,by rw[hw];exact h2⟩
  ·trivial
 |mh k=>
  simp only[cF]
  split
  ·rename_i k' hk'
   obtain⟨blk,h1,h2⟩:=h;exact⟨blk,(hρ k k' hk').trans h1,h2⟩
  ·trivial
 |ob T=>
  exact ObRel.map (X':=X') (base':=base') R hR hk (fun g L L' h1 h2 h3 h4 h5=>by
   obtain⟨e1,e2,e3⟩:=hown g L L' h1 h2 h3 h4 h5;exact⟨e1,e2,by rw[hw],e3⟩) h (hL T rfl)
 |fn f caps=>
  simp only[cF]
  split
  ·rename_i l hl
   obtain⟨c1,c2⟩:=lP hl;obtain⟨vs,h1,h2,h3⟩:=h;refine⟨vs,h1,by rw[h2,c1],fun j c u hj hu=>?_⟩
   have hjl:j<caps.length:=by rw[<-c1];exact(bM.1 hj).1
   have hc:caps[j]?=some caps[j]:=by simp[hjl]
   have:=h3 j _ u hc hu;rcases c2 j _ c hc hj with ⟨x,e1,rfl⟩|⟨k,k',sz,r,o,e0,e1,rfl⟩
   ·rw[e1] at this;exact Flat.mono hk this
   ·rw[e1] at this
    obtain⟨blk,g1,g2⟩:=this;exact⟨blk,(hρ k k' e0).trans g1,g2⟩
  ·trivial
theorem BX.tr{X X':Cx}{base base' i i':Nat}{bx:Box}(R:Loc->Loc->Prop)(ν:Nat->Option Nat)(hR:∀L L' j,R L L'->R (.comp L j) (.comp L' j))(hk:Keeps X.M X.w X'.M X'.w)(hw:X'.w=X.w)
  (hown:∀g L L',R L L'->X.own g=some L->(base<=g\/∃j,X.ex j=some g)->(∀o,X.M g o)->g<X.w.heap.size->X'.own g=some L'/\(base'<=g\/∃j,X'.ex j=some g)/\∀o,X'.M g o)
  (hbx:R (.box i) (.box i')) (hcell:∀r o,R (.cell i r o) (.cell i' r o)) (hρi:X'.ρ i'=X.ρ i) (hρ:∀j j', ν j=some j'->X'.ρ j'=X.ρ j)
  (old:Bool) (hpin:old=true->∀blk,X.ρ i=some blk->X'.ex i'=some blk) (hl:bx.live=true) (hb:BX X base i bx):BX X' base' i' ⟨true,bx.size,dH ν bx.rows,old⟩:=by
 have hv:=fun {L L':Loc} (hL:R L L') {d:DV} {v:Value}=>VRel.tr (X:=X) (X':=X') (base:=base) (base':=base') R ν hR hk hw hown (d:=d) (fun _ _=>hL) (v:=v) hρ
 unfold BX at hb ⊢
 split at hb
 ·rename_i hs
  rw[if_pos (show (⟨true,bx.size,dH ν bx.rows,old⟩:Box).size=0 from hs)]
  obtain⟨blk,es,clock,m1,m2,m3,m4,m5,m6,m0,m7⟩:=hb;obtain⟨e1,e2,e3⟩:=hown blk _ _ hbx m2 m3.1 m6 (Array.getElem?_eq_some_iff.1 m4).1;refine⟨blk,es,clock,hρi.trans m1,e1,⟨e2,fun ho=>hpin ho blk m1⟩,by rw[hw];exact m4,by simpa [gU] using m5,e3,m0,fun i' row e hi he=>?_⟩
  simp only[gU,List.getElem?_map] at hi
  cases hr:bx.rows[i']? with
  |none=>rw[hr] at hi;simp at hi
  |some row0=>
   rw[hr] at hi;simp only[Option.map_some,bQ] at hi;subst hi;obtain⟨q,n,d,f1,f2,f3⟩:=m7 i' row0 e hr he;refine⟨q,n,cF ν d,by rw[f1];cases n<;>rfl,f2,hv (hcell i' 1) f3⟩
 ·rename_i hs
  rw[if_neg (show ¬(⟨true,bx.size,dH ν bx.rows,old⟩:Box).size=0 from hs)]
  obtain⟨blk,cs,ty,hb⟩:=hb;obtain⟨e1,e2,e3⟩:=hown blk _ _ hbx hb.own hb.hbase.1 (hb.live hl) (Array.getElem?_eq_some_iff.1 hb.heap).1;refine⟨blk,cs,ty,hρi.trans hb.ρ,e1,⟨e2,fun ho=>hpin ho blk hb.ρ⟩,by rw[hw];exact hb.heap,by simpa [gU] using hb.size,fun row hrow=>?_,fun r o row d u hr hd hu=>?_,fun _=>e3,fun h=>by cases h⟩
  ·simp only[gU] at hrow
   obtain⟨row0,hr0,rfl⟩:=List.mem_map.1 hrow
   simpa using hb.width row0 hr0
  ·simp only[gU,List.getElem?_map] at hr
   cases hr0:bx.rows[r]? with
   |none=>rw[hr0] at hr;simp at hr
   |some row0=>
    rw[hr0] at hr;simp only[Option.map_some,bQ] at hr;subst hr;rw[List.getElem?_map] at hd
    cases hd0:row0[o]? with
    |none=>rw[hd0] at hd;simp at hd
    |some d0=>
     rw[hd0] at hd;simp only[Option.map_some,bQ] at hd;subst hd;obtain⟨f1,f2⟩:=hb.cells r o row0 d0 u hr0 hd0 hu;exact⟨hv (hcell r o) f1,f2⟩
theorem jC{k:Nat}:∀{l:List Nat},oP k l=true↔k∈l
 |[]=>by simp[oP]
 |q ::l=>by
  simp only[oP]
  by_cases h:q=k
  ·subst h;simp
  ·rw[if_neg (fun hh=>h (Nat.eq_of_beq_eq_true hh).symm),jC];simp[show ¬k=q from fun e=>h e.symm]
theorem p7(k:Nat):∀(l:List Nat) (i:Nat),kQ k l i=i+kQ k l 0
 |[],i=>by simp[kQ]
 |q ::l,i=>by
  simp only[kQ]
  split
  ·rfl
  ·rw[p7 k l (i+1),p7 k l (0+1)];omega
theorem uQ{k:Nat}:∀{l:List Nat} {i:Nat},l.Nodup->l[i]?=some k->kQ k l 0=i
 |[],i,_,h=>by simp at h
 |q ::l,0,_,h=>by simp at h;simp[kQ,h]
 |q ::l,i+1,hn,h=>by
  rw[List.nodup_cons] at hn;simp only[List.getElem?_cons_succ] at h;simp only[kQ];rw[if_neg (fun e=>hn.1 (by rw[Nat.eq_of_beq_eq_true e];exact cD h)),p7,uQ hn.2 h];omega
theorem tO{k:Nat}:∀{l:List Nat},k∈l->l[kQ k l 0]?=some k
 |[],h=>by simp at h
 |q ::l,h=>by
  simp only[kQ]
  by_cases e:q=k
  ·subst e;simp
  ·rw[if_neg (fun hh=>e (Nat.eq_of_beq_eq_true hh)),p7,show 0+1+kQ k l 0=kQ k l 0+1 by omega,List.getElem?_cons_succ]
   exact tO (by rcases List.mem_cons.1 h with h|h;exact absurd h.symm e;exact h)
theorem K5{ks:List Nat}{k i:Nat}(h:F9 ks k=some i):ks[i]?=some k:=by
 unfold F9 at h
 split at h
 ·rename_i hm
  injection h with h
  subst h;exact tO (jC.1 hm)
 ·cases h
theorem o7{L:Nat}:∀{ks:List Nat} {i k:Nat},ks[i]?=some k->mL ks L i=k
 |[],i,k,h=>by simp at h
 |q ::l,0,k,h=>by simp at h;simp[mL,h]
 |q ::l,i+1,k,h=>by simp only[mL];exact o7 (by simpa using h)
theorem uL{L:Nat}:∀{ks:List Nat} {i:Nat},ks.length<=i->mL ks L i=L+(i-ks.length)
 |[],i,_=>by simp[mL]
 |q ::l,0,h=>by simp at h
 |q ::l,i+1,h=>by simp only[mL];rw[uL (by simpa using h)];simp
theorem CB{ks:List Nat}{L m i j:Nat}(h:DK ks L m i=some j):i<m/\j=mL ks L i:=by
 unfold DK at h
 split at h
 ·rename_i hm
  injection h with h
  exact⟨by simpa using hm,h.symm⟩
 ·cases h
theorem cA{b:List (Option Box)}{k:Nat}{bx:Box}:eH b k=some bx↔b[k]?=some (some bx):=by
 induction b generalizing k with
 |nil=>simp[eH]
 |cons x xs ih=>cases k with
  |zero=>simp[eH]
  |succ k=>simpa [eH] using ih
def AY(b:List (Option Box))(ks:List Nat):Prop:=∀k,k∈ks->∃b0,b[k]?=some (some b0)/\b0.live=true
theorem gW{b:List (Option Box)}:∀{n:Nat} {ws ks:List Nat},∃es,dU b n ws ks=ks++es/\AY b es/\(∀k,k∈es->k∉ks)/\es.Nodup
 |0,ws,ks=>⟨[],by simp[dU],fun k h=>by simp at h,by simp,List.nodup_nil⟩
 |n+1,[],ks=>⟨[],by simp[dU],fun k h=>by simp at h,by simp,List.nodup_nil⟩
 |n+1,k ::ws,ks=>by
  simp only[dU]
  split
  ·exact gW
  ·rename_i hk
   cases hb:eH b k with
   |none=>exact gW
   |some bx=>
    simp only
    split
    ·rename_i hl
     obtain⟨es,e1,e2,e3,e4⟩:=gW (b:=b) (n:=n) (ws:=bif c9 bx.rows then ws else pM bx.rows ws) (ks:=ks++[k]);refine⟨k ::es,by rw[e1];simp,fun q hq=>?_,fun q hq=>?_,List.nodup_cons.2 ⟨fun hm=>e3 k hm (by simp),e4⟩⟩
     ·rcases List.mem_cons.1 hq with rfl|hq
      ·exact⟨bx,cA.1 hb,hl⟩
      ·exact e2 q hq
     ·rcases List.mem_cons.1 hq with rfl|hq
      ·exact fun hm=>hk (jC.2 hm)
      ·exact fun hm=>e3 q hq (by simp[hm])
    ·exact gW
theorem PH{b:List (Option Box)}{xs:List DV}:AY b (sJ b xs)/\(sJ b xs).Nodup:=by
 obtain⟨es,e1,e2,e3,e4⟩:=gW (b:=b) (n:=4000) (ws:=iM b xs) (ks:=[]);unfold sJ;rw[e1];exact⟨by simpa using e2,by simpa using e4⟩
theorem wM{b:List (Option Box)}{ν:Nat->Option Nat}:∀{ds xs:List DV},lD b ν ds=some xs->xs.length=ds.length /\
  ∀(i:Nat) d x,ds[i]?=some d->xs[i]?=some x->(∃y,d.frz b=some y/\x=.p y)\/(d.isRefF=true/\x=cF ν d)
 |[],xs,h=>by simp only[lD,bQ] at h;subst h;exact⟨rfl,fun i d x h=>by simp at h⟩
 |d ::ds,xs,h=>by
  simp only[lD] at h
  split at h
  ·rename_i l hl
   obtain⟨e1,e2⟩:=wM hl
   have key:∃x,xs=x ::l/\((∃y,d.frz b=some y/\x=.p y)\/(d.isRefF=true/\x=cF ν d)):=by
    split at h
    ·rename_i x hx
     injection h with h
     exact⟨.p x,h.symm,.inl ⟨x,hx,rfl⟩⟩
    ·split at h
     ·rename_i hr
      injection h with h
      exact⟨_,h.symm,.inr ⟨hr,rfl⟩⟩
     ·cases h
   obtain⟨x,rfl,hx⟩:=key;refine⟨by simp[e1],fun i d' x' hd hx'=>?_⟩
   cases i with
   |zero=>simp at hd hx';subst hd;subst hx';exact hx
   |succ i=>exact e2 i d' x' (by simpa using hd) (by simpa using hx')
  ·cases h
theorem pL{b:List (Option Box)}{ν:Nat->Option Nat}:∀{ks:List Nat},(kO b ν ks).length=ks.length/\∀(i:Nat) k,ks[i]?=some k->(kO b ν ks)[i]?=some (CM b ν k)
 |[]=>⟨rfl,fun i k h=>by simp at h⟩
 |q ::ks=>by
  obtain⟨e1,e2⟩:=pL (b:=b) (ν := ν) (ks:=ks);refine⟨by simp[kO,e1],fun i k hk=>?_⟩
  cases i with
  |zero=>simp at hk;subst hk;rfl
  |succ i=>simp only[kO,List.getElem?_cons_succ];exact e2 i k (by simpa using hk)
theorem eR{n k:Nat}{d:DV}(h:M6 n d=true)(hm:d.ment k=true):k<n:=by
 cases d with
 |fn f caps=>
  simp only[DV.ment,List.any_eq_true] at hm;obtain⟨c,hc,hk⟩:=hm
  have key:∀(l:List CapV),nN n l=true->c∈l->k<n:=by
   intro l
   induction l with
   |nil=>intro _ hc;simp at hc
   |cons x xs ih=>
    intro h hc0;rcases List.mem_cons.1 hc0 with rfl|hc1
    ·cases c with
     |p x=>simp at hk
     |addr q sz r o=>simp only[nN,aY] at h;simp at hk h;omega
    ·cases x with
     |p y=>exact ih (by simpa [nN] using h) hc1
     |addr q sz r o=>simp only[nN,aY] at h;exact ih h.2 hc1
  exact key caps h hc
 |agd cs=>
  simp only[DV.ment,List.any_eq_true] at hm;obtain⟨c,hc,hk⟩:=hm
  have key:∀(l:List RfV),GL n (BB l)=true->c∈l->k<n:=by
   intro l
   induction l with
   |nil=>intro _ hc;simp at hc
   |cons x xs ih=>
    intro h hc0;rcases List.mem_cons.1 hc0 with rfl|hc1
    ·cases c<;>simp[RfV.ment] at hk<;>(simp only[BB,RfV.dv,GL,aY] at h;have:=h.1;simp at this;omega)
    ·cases x<;>simp only[BB,RfV.dv,GL,aY] at h<;>first|exact ih h.2 hc1|exact ih h hc1
  exact key cs h hc
 |_=>simp[DV.ment] at hm<;>(simp[M6] at h;omega)
theorem s9{n:Nat}{l:List DV}(h:wK n l=true){d:DV}(hd:d∈l):M6 n d=true:=by
 induction l with
 |nil=>simp at hd
 |cons x xs ih=>
  simp only[wK,aY] at h;rcases List.mem_cons.1 hd with rfl|hd
  ·exact h.1
  ·exact ih h.2 hd
theorem j3{n:Nat}{l:List (List DV)}(h:MT n l=true){r:List DV}(hr:r∈l){d:DV}(hd:d∈r):M6 n d=true:=by
 unfold MT at h
 cases ha:c9 l with
 |true=>
  have:=jG (gO ha hr) hd;cases d<;>first|rfl|(simp[DV.isP] at this)
 |false=>
  rw[ha] at h;simp only[cond_false] at h;clear ha
  induction l with
  |nil=>simp at hr
  |cons x xs ih=>
   simp only[HS,aY] at h;rcases List.mem_cons.1 hr with rfl|hr
   ·exact s9 h.1 hd
   ·exact ih h.2 hr
theorem mI{n:Nat}{b:List (Option Box)}(h:C4 n b=true){k:Nat}{bx:Box}(hk:b[k]?=some (some bx)):MT n bx.rows=true:=by
 induction b generalizing k with
 |nil=>simp at hk
 |cons x xs ih=>
  cases k with
  |zero=>simp at hk;subst hk;simp only[C4,aY] at h;exact h.1
  |succ k=>cases x<;>simp only[C4,aY] at h<;>exact ih (by first|exact h|exact h.2) (by simpa using hk)
open Go.RowKit
variable {P:Program}
theorem sX{ν:Nat->Option Nat}{old:Bool}{x:Option Box}{bq:Box}(h:oC ν old x=some bq):∃bx,x=some bx/\bq=⟨true,bx.size,dH ν bx.rows,old⟩:=by
 cases x with
 |none=>cases h
 |some bx=>simp only[oC,bQ] at h;exact⟨bx,rfl,h.symm⟩
theorem K2{ν:Nat->Option Nat}{l:List (Option Box)}{q:Nat}{bq:Box}(h:(vT ν l)[q]?=some (some bq)):∃bx,l[q]?=some (some bx)/\bq=⟨true,bx.size,dH ν bx.rows,false⟩:=by
 induction l generalizing q with
 |nil=>simp[vT] at h
 |cons x l ih=>
  cases q with
  |zero=>
   simp only[vT,List.getElem?_cons_zero,bQ] at h;obtain⟨bx,rfl,e⟩:=sX h;exact⟨bx,rfl,e⟩
  |succ q=>
   simp only[vT,List.getElem?_cons_succ] at h
   simpa using ih h
theorem gI{b:List (Option Box)}{k q:Nat}{x:Option Box}(h:q≠k):eH (aF b k x) q=eH b q:=by
 have:=getElem?_setL b k q x;rw[if_neg h] at this
 cases hb:eH b q with
 |some y=>rw[cA,this];exact cA.1 hb
 |none=>
  cases hb2:eH (aF b k x) q with
  |none=>rfl
  |some y=>rw[cA,this] at hb2;rw[cA.2 hb2] at hb;cases hb
theorem xL{ν:Nat->Option Nat}:∀{ks:List Nat} {bs:List (Option Box)} {b:List (Option Box)} {q:Nat} {bq:Box},ks.Nodup->ks.length<=bs.length->(fR ν ks bs b)[q]?=some (some bq) ->
  (∃ (i k : Nat) (bx : Box), ks[i]? = some k /\ bs[i]? = some (some bx) /\ q = k /\ bq = ⟨true, bx.size, dH ν bx.rows, qB b k⟩) \/
   (∃(i:Nat) (bx:Box),ks.length<=i/\bs[i]?=some (some bx)/\q=b.length+(i-ks.length)/\bq=⟨true,bx.size,dH ν bx.rows,false⟩)\/(q∉ks/\q<b.length/\b[q]?=some (some bq))
 |[],l,b,q,bq,_,_,h=>by
  simp only[fR] at h;rw[List.getElem?_append] at h
  split at h
  ·exact .inr (.inr ⟨by simp,by assumption,h⟩)
  ·obtain⟨bx,h1,h2⟩:=K2 h
   exact .inr (.inl ⟨q-b.length,bx,Nat.zero_le _,h1,by simp;omega,h2⟩)
 |k ::ks,[],b,q,bq,_,hl,h=>by simp at hl
 |k ::ks,x ::l,b,q,bq,hn,hl,h=>by
  simp only[fR] at h;rw[List.nodup_cons] at hn;rcases xL hn.2 (by simpa using hl) h with ⟨i,k',bx',h1,h2,h3,h4⟩|⟨i,bx',h1,h2,h3,h4⟩|⟨h1,h2,h3⟩
  ·refine .inl ⟨i+1,k',bx',by simpa using h1,by simpa using h2,h3,?_⟩
   have hne:k'≠k:=fun e=>hn.1 (by rw[<-e];exact cD h1)
   have:qB (aF b k (oC ν (qB b k) x)) k'=qB b k':=by unfold qB;rw[gI hne]
   rw[<-this];exact h4
  ·rw[aI] at h3
   exact .inr (.inl ⟨i+1,bx',by simpa using h1,by simpa using h2,by simp;omega,h4⟩)
  ·rw[aI] at h2
   rw[getElem?_setL] at h3
   by_cases hq:q=k
   ·subst hq
    rw[if_pos rfl] at h3
    cases hb:b[q]? with
    |none=>rw[hb] at h3;simp at h3
    |some y=>
     rw[hb] at h3;simp only[Option.map_some,bQ] at h3;obtain⟨bx,rfl,e⟩:=sX h3;exact .inl ⟨0,q,bx,rfl,rfl,rfl,e⟩
   ·rw[if_neg hq] at h3
    exact .inr (.inr ⟨by simp[hq,h1],h2,h3⟩)
theorem BX.info{X:Cx}{base k:Nat}{bx:Box}(hb:BX X base k bx)(hl:bx.live=true) :
  ∃blk,X.ρ k=some blk/\X.own blk=some (.box k)/\(base<=blk\/∃j,X.ex j=some blk)/\(bx.old=true->X.ex k=some blk)/\(∀o,X.M blk o)/\blk<X.w.heap.size:=by
 unfold BX at hb
 split at hb
 ·obtain⟨blk,es,clock,m1,m2,m3,m4,m5,m6,m0,m7⟩:=hb
  exact⟨blk,m1,m2,m3.1,m3.2,m6,(Array.getElem?_eq_some_iff.1 m4).1⟩
 ·obtain⟨blk,cs,ty,hb⟩:=hb
  exact⟨blk,hb.ρ,hb.own,hb.hbase.1,hb.hbase.2,hb.live hl,(Array.getElem?_eq_some_iff.1 hb.heap).1⟩
def i6(ks:List Nat):Loc->Option Loc
 | .box k=>if k∈ks then some (.box (kQ k ks 0)) else none
 | .cell k r o=>if k∈ks then some (.cell (kQ k ks 0) r o) else none
 | .comp L j=>(i6 ks L).map fun L'=>.comp L' j
 | .tmp _=>none
theorem GJ{ks:List Nat}{L L':Loc}(h:i6 ks L=some L'):∃k,k∈ks/\(L.root=.box k\/∃r o,L.root=.cell k r o):=by
 induction L generalizing L' with
 |tmp i=>simp[i6] at h
 |box k=>simp only[i6] at h;split at h;exact⟨k, ‹_›,.inl rfl⟩;cases h
 |cell k r o=>simp only[i6] at h;split at h;exact⟨k, ‹_›,.inr ⟨r,o,rfl⟩⟩;cases h
 |comp L j ih=>
  simp only[i6] at h
  cases h1:i6 ks L with
  |none=>rw[h1] at h;simp at h
  |some L2=>exact ih h1
def TA(σ:Nat->Nat)(d:Nat):Loc->Loc
 | .tmp _=>.tmp d
 | .box i=>.box (σ i)
 | .cell i r o=>.cell (σ i) r o
 | .comp L j=>.comp (TA σ d L) j
section
variable {G:Gl} {X:Cx} {s:St} {a:Act} {Q:Exit->Act->World->Prop} {o:Oper} {K:St->Prop}
theorem s_ldo(h:Rel G X s a){j:Nat}{ag:Bool}{t:TypeId}(ht:TyIs P t 1 false){x:Operand}{ox:O}(hx:OT x ox)(ho:o.op=.load t x)(hf:j<s.b.length/\c8 j (aH s.t o.dst .top)=true/\cK j 0 s.b=true)
  (hK:bB P (.ldo j ag) [ox.val s.t] s.b fun v b=>K ⟨aH s.t o.dst v,b⟩):o.wp P a X.w (aZ G K) Q:=by
 obtain⟨_,rx⟩:=h.opnd hx;generalize e:ox.val s.t=vx at *
 cases vx with
 |addr k sz r off=>
  obtain⟨blk,hρ,ev⟩:=rx;simp only[bB] at hK
  cases hbk:bF s.b k with
  |none=>simp[hbk] at hK
  |some bx=>
   simp only[hbk] at hK;obtain⟨rfl,row,hr,d,hd,hK⟩:=hK;have hbk':=b8 hbk;have hne0:=bG hbk;obtain⟨blk',cs,ty,hb⟩:=h.cbox hbk' hne0;have:blk'=blk:=by have:=hb.ρ;rw[hρ] at this;injection this with h;exact h.symm
   subst this;have hlt:=(bM.1 hd).1;obtain⟨u,hcu,hu,hv,h1⟩:=hb.cell hr hlt;rw[(bM.1 hd).2] at hv;have run:=kE ht ho ev hu;have hcell:CellV X k bx r off u:=⟨blk',hρ,by rw[if_neg hne0];exact⟨cs,ty,hb.heap,hcu⟩⟩
   have other:K ⟨aH s.t o.dst d.copy,s.b⟩->o.wp P a X.w (aZ G K) Q:=fun hKK=>bI h run (fun j _=>hv.copy _) hKK
   cases d with
   |ob T=>
    simp only at hK;obtain⟨hlive,hjk,hK⟩:=hK
    have go:∀{sz:Nat} {d':DV} {bx':Box},Opens j ag T sz d' bx'->K ⟨aH s.t o.dst d',aF (aF s.b k (some { bx with rows:=aF bx.rows r (aF row off d') })) j (some bx')⟩->o.wp P a X.w (aZ G K) Q:=by
     intro sz d' bx' hop hKK
     have h0:Rel G X ⟨aH s.t o.dst .top,s.b⟩ a:=by
      cases o.dst with
      |none=>exact h
      |some i=>exact h.weak i .top trivial
     obtain⟨X',ew,hval,hrel⟩:=h0.opn hbk' hlive hr hd (fun e=>absurd e hne0) hop hjk hf.2.1 hf.2.2
     unfold Oper.wp;rw[run,Oper.upon_value];have h2:=hrel.put (d:=o.dst) (v:=d') (u:=u) (fun i _=>hval u hcell _)
     have e2:aH (aH s.t o.dst .top) o.dst d'=aH s.t o.dst d':=by
      cases o.dst with
      |none=>rfl
      |some i=>
       apply List.ext_getElem?
       intro j;simp only[aH,getElem?_setL]
       split
       ·cases s.t[j]?<;>rfl
       ·rfl
     refine⟨_,X',by simpa [e2] using h2,ew,hKK⟩
    cases T with
    |p x=>simp[BK] at hK
    |ch c l=>simp[BK] at hK
    |ptr cells=>
     cases cells with
     |nil=>exact hK.elim
     |cons c cs=>exact go (.ptr (c ::cs) (by simp)) hK
    |sl size nl rows=>
     cases size with
     |zero=>exact hK.elim
     |succ n=>
      cases nl with
      |true=>
       have hv':ObRel X G.base (.cell k r off) (.sl (n+1) true rows) u:=hv;refine bI (v:=.p (.sl (n+1) true [])) h run (fun i _=>?_) hK
       cases hv' with
       |nils=>exact .nilsl _
      |false=>exact go (.sl (n+1) rows (by omega)) hK
    |mp keys vals=>simp only[BK] at hK;exact go (.mp keys vals) hK
   |_=>exact other hK
 |p z=>
  cases z with
  |ptr cells off=>
   simp only[bB] at hK;obtain⟨c,hc,hK⟩:=hK;refine s_loadP (n:=1) (take:=false) h ht hx ho e ?_;rw[e];simp only[aD,gB,Bool.false_eq_true,if_false];exact⟨c,hc,hK⟩
  |_=>simp[bB] at hK
 |_=>simp[bB] at hK
theorem ZC{X1 X':Cx}{base base' d:Nat}{σ:Nat->Nat}{ν:Nat->Option Nat}(hk:Keeps X1.M X1.w X'.M X'.w)(hw:X'.w=X1.w)(hown:∀g,base<=g->X'.own g=(X1.own g).map (TA σ d)/\∀o,X1.M g o->X'.M g o)(hb:base'<=base)
  (hρ:∀j j', ν j=some j'->X'.ρ j'=X1.ρ j) {r:DV} (hr:r.plain=true\/r.isRef=true) {v:Value} (h:VRel X1 base (.tmp 0) r v):VRel X' base' (.tmp d) (t6 ν r) v:=by
 have own:∀{L:Loc} {size:Nat} {nl:Bool} {rows:List PV} {u:Value},OwRel X1 base L size nl rows u->OwRel X' base' (TA σ d L) size nl rows u:=by
  intro L size nl rows u ho;rcases ho with ho|⟨h0,g,cap,cur,ty,g0,g1,g2,g3,g4,g5,g6⟩
  ·exact .inl ho
  ·obtain⟨e1,e2⟩:=hown g g2
   exact .inr ⟨h0,g,cap,cur,ty,g0,by rw[e1,g1];rfl,Nat.le_trans hb g2,by rw[hw];exact g3,g4,g5.mono hk,fun o ho=>e2 o (g6 o ho)⟩
 cases r with
 |p x=>exact Flat.mono hk h
 |ow size nl rows=>exact own h
 |tup ds=>
  obtain⟨vs,e1,e2,e3⟩:=h;refine⟨vs,e1,e2,fun j d' u hd hu=>?_⟩
  have:=e3 j d' u hd hu
  cases d' with
  |p x=>exact Flat.mono hk this
  |ow size nl rows=>exact own this
 |addr k sz r o=>
  show VRel X' base' (.tmp d) (cF ν (.addr k sz r o)) v
  simp only[cF]
  split
  ·rename_i k' hk'
   obtain⟨blk,h1,h2⟩:=h;exact⟨blk,(hρ k k' hk').trans h1,h2⟩
  ·trivial
 |bs k sz ag lo n=>
  show VRel X' base' (.tmp d) (cF ν (.bs k sz ag lo n)) v
  simp only[cF]
  split
  ·rename_i k' hk'
   obtain⟨blk,cap,h1,h2⟩:=h;exact⟨blk,cap,(hρ k k' hk').trans h1,by rw[hw];exact h2⟩
  ·trivial
 |mh k=>
  show VRel X' base' (.tmp d) (cF ν (.mh k)) v
  simp only[cF]
  split
  ·rename_i k' hk'
   obtain⟨blk,h1,h2⟩:=h;exact⟨blk,(hρ k k' hk').trans h1,h2⟩
  ·trivial
 |_=>simp[DV.plain,DV.isRef] at hr
end
open Go.RowKit
variable {P:Program}
def HP(X:Cx)(base:Nat)(ks:List Nat)(g:Nat):Prop :=
 g<X.w.heap.size/\(∃L L',X.own g=some L/\i6 ks L=some L')/\(∀o,X.M g o)/\(base<=g\/∃j,X.ex j=some g)
open Classical in
noncomputable def i8 (X:Cx) (base:Nat) (ks:List Nat):Cx :=
 {ρ := fun i => (ks[i]?).bind X.ρ
  own:=fun g=>if HP X base ks g then (X.own g).bind (i6 ks) else none
  M:=X.M
  w:=X.w
  ex:=fun q=>if q<ks.length then (ks[q]?).bind X.ρ else if HP X base ks (q-ks.length) then some (q-ks.length) else none }
section
variable {G:Gl} {X:Cx} {s:St} {a:Act} {Q:Exit->Act->World->Prop} {o:Oper} {K:St->Prop}
theorem C6(h:Rel G X s a){ks:List Nat}(hl:AY s.b ks){j g:Nat}(he:(i8 X G.base ks).ex j=some g):HP X G.base ks g:=by
 simp only[i8] at he
 split at he
 ·cases hk:ks[j]? with
  |none=>rw[hk] at he;simp at he
  |some k=>
   rw[hk] at he;obtain⟨b0,h1,h2⟩:=hl k (cD hk);obtain⟨blk,e1,e2,e3,e4,e5,e6⟩:=BX.info (h.boxes k b0 h1) h2;simp only[Option.bind_some] at he;rw[e1] at he;injection he with he
   subst he;exact⟨e6,⟨_,_,e2,by simp only[i6];rw[if_pos (cD hk)]⟩,e5,e3⟩
 ·split at he
  ·injection he with he;subst he;assumption
  ·cases he
theorem uS{base:Nat}{ks:List Nat}{g:Nat}(h:HP X base ks g):(i8 X base ks).ex (ks.length+g)=some g:=by
 simp only[i8];rw[if_neg (by omega),show ks.length+g-ks.length=g by omega,if_pos h]
theorem B9{base:Nat}{ks:List Nat}{j j':Nat}(h:F9 ks j=some j'):(i8 X base ks).ρ j'=X.ρ j:=by
 show (ks[j']?).bind X.ρ=X.ρ j
 rw[K5 h];rfl
theorem LF(h:Rel G X s a){ks:List Nat}(hn:ks.Nodup)(hl:AY s.b ks):Hand (i8 X G.base ks) (kO s.b (F9 ks) ks):=by
 obtain⟨e1,e2⟩:=pL (b:=s.b) (ν:=F9 ks) (ks:=ks);refine⟨fun j g hg o=>(C6 h hl hg).2.2.1 o,fun i bx hi=>?_⟩
 have hil:i<ks.length:=by rw[<-e1];exact(bM.1 hi).1
 have hk:ks[i]?=some ks[i]:=by simp[hil]
 have hkm:=cD hk;rw[e2 i _ hk] at hi;injection hi with hi
 obtain⟨b0,g2,g3⟩:=hl _ hkm;have hbb:bx=⟨true,b0.size,dH (F9 ks) b0.rows,true⟩:=by rw[<-hi];simp only[CM,cA.2 g2]
 subst hbb;have hki:kQ ks[i] ks 0=i:=uQ hn hk
 exact BX.tr (X:=X) (X':=i8 X G.base ks) (base:=G.base) (base':=X.w.heap.size) (i:=ks[i]) (i':=i) (bx:=b0) (fun L L'=>i6 ks L=some L') (F9 ks) (fun L L' j e=>by simp only[i6];rw[e];rfl)
  (Keeps.refl _ _) rfl (fun g L L' hL h1 h2 h3 h4 => ⟨by
   simp only[i8];rw[if_pos ⟨h4,⟨L,L',h1,hL⟩,h3,h2⟩,h1];exact hL,.inr ⟨ks.length+g,uS ⟨h4,⟨L,L',h1,hL⟩,h3,h2⟩⟩,h3⟩)
  (by simp only[i6];rw[if_pos hkm,hki]) (fun r o=>by simp only[i6];rw[if_pos hkm,hki])
  (by show (ks[i]?).bind X.ρ=X.ρ ks[i];rw[hk];rfl) (fun j j' hj=>B9 hj)
  true (fun _ blk hblk=>by
   show (if i<ks.length then _ else _)=_
   rw[if_pos hil,hk];exact hblk) g3 (h.boxes _ b0 g2)
open Classical in
noncomputable def mV (X X1:Cx) (base:Nat) (ks:List Nat) (L m:Nat) (d:Nat):Cx :=
 {ρ := fun q => if L <= q /\ ks.length + (q - L) < m then X1.ρ (ks.length + (q - L)) else X.ρ q
  own:=fun g=>if g<X.w.heap.size/\¬HP X base ks g then X.own g else (X1.own g).map (TA (mL ks L) d)
  M:=fun b o=>if b<X.w.heap.size/\¬HP X base ks b then X.M b o else X1.M b o
  w:=X1.w
  ex:=X.ex }
theorem LH(h:Rel G X s a){ks:List Nat}(hn:ks.Nodup)(hl:AY s.b ks){bs':List (Option Box)}(hlen:ks.length<=bs'.length)
  (hf:ks.length<bs'.length->wK s.b.length s.t=true/\C4 s.b.length s.b=true) {r:DV} (hr:r.plain=true\/r.isRef=true) {X1:Cx} {v:Value}
  (hb:Back (i8 X G.base ks) X1 ks.length bs' r v) (d:Nat) :
  Rel G (mV X X1 G.base ks s.b.length bs'.length d) ⟨s.t,fR (DK ks s.b.length bs'.length) ks bs' s.b⟩ a/\VRel (mV X X1 G.base ks s.b.length bs'.length d) G.base (.tmp d) (t6 (DK ks s.b.length bs'.length) r) v:=by
 have hex:∀g,(∃j,(i8 X G.base ks).ex j=some g)↔HP X G.base ks g:=fun g=>⟨fun ⟨j,hj⟩=>C6 h hl hj,fun hp=>⟨_,uS hp⟩⟩
 have hnex:∀g,¬HP X G.base ks g->∀j,(i8 X G.base ks).ex j≠some g:=fun g hg j hj=>hg ((hex g).1 ⟨j,hj⟩)
 have hbel:=hb.below;have hmem:=hb.mem;have hrho:=hb.rho;have hval:=hb.val;have hbx:=hb.boxes;have hexe:=hb.ex;have hkl:∀k,k∈ks->k<s.b.length:=fun k hk=>by obtain⟨b0,g1,_⟩:=hl k hk;exact(bM.1 g1).1
 generalize hX':mV X X1 G.base ks s.b.length bs'.length d=X';generalize hL:s.b.length=L at *;have ew:X'.w=X1.w:=by subst hX';rfl
 have eex:X'.ex=X.ex:=by subst hX';rfl
 have eo1:∀g,g<X.w.heap.size->¬HP X G.base ks g->X'.own g=X.own g:=by subst hX';intro g h1 h2;simp only[mV];rw[if_pos ⟨h1,h2⟩]
 have eo2:∀g,¬(g<X.w.heap.size/\¬HP X G.base ks g)->X'.own g=(X1.own g).map (TA (mL ks L) d):=by subst hX';intro g h1;simp only[mV];rw[if_neg h1]
 have eM1:∀b,b<X.w.heap.size->¬HP X G.base ks b->∀o,X'.M b o↔X.M b o:=by subst hX';intro g h1 h2 o;simp only[mV];rw[if_pos ⟨h1,h2⟩]
 have eM2:∀b,∀o,X'.M b o↔X1.M b o:=by
  intro b o
  by_cases hc:b<X.w.heap.size/\¬HP X G.base ks b
  ·rw[eM1 b hc.1 hc.2];exact(hmem b hc.1 (hnex b hc.2) o).symm
  ·subst hX';simp only[mV];rw[if_neg hc]
 have eρ:∀q,(q<L\/bs'.length<=ks.length)->X'.ρ q=X.ρ q:=by subst hX';intro q hq;simp only[mV];rw[if_neg (by omega)]
 have hσ:∀i,i<bs'.length->X'.ρ (mL ks L i)=X1.ρ i:=by
  intro i hi
  by_cases him:i<ks.length
  ·have hk:ks[i]?=some ks[i]:=by simp[him]
   rw[o7 hk,eρ _ (.inl (hkl _ (cD hk))),hrho i him]
   show _=(ks[i]?).bind X.ρ
   rw[hk];rfl
  ·rw[uL (by omega)]
   subst hX';simp only[mV];rw[if_pos (by omega),show ks.length+(L+(i-ks.length)-L)=i by omega]
 have hν:∀j j',DK ks L bs'.length j=some j'->X'.ρ j'=X1.ρ j:=fun j j' hj=>by
  obtain⟨h1,h2⟩:=CB hj;rw[h2,hσ j h1]
 have hkeep:Keeps X1.M X1.w X'.M X'.w:=fun b o u hM hc=>⟨by rw[ew];exact hc,fun h'=>hM ((eM2 b o).1 h')⟩
 have hS:∀g L,X.own g=some L->(∀k,k∈ks->L.root≠.box k/\∀r o,L.root≠.cell k r o)->¬HP X G.base ks g:=by
  rintro g L hg hS ⟨_,⟨L2,L',h1,h2⟩,_⟩;rw[hg] at h1;injection h1 with h1
  subst h1;obtain⟨k,hk,h3|⟨r,o,h3⟩⟩:=GJ h2
  ·exact(hS k hk).1 h3
  ·exact(hS k hk).2 r o h3
 have hev:Ev (fun L=>∀k,k∈ks->L.root≠.box k/\∀r o,L.root≠.cell k r o) X X':=by
  refine⟨fun b o u hM hc=>?_,fun g L hg hSg hlt=>?_,eex,fun g cs ty hg=>?_⟩
  ·have hlt:b<X.w.heap.size:=World.block_lt_of_cell? _ _ hc
   have hnp:¬HP X G.base ks b:=fun hp=>hM (hp.2.2.1 o)
   exact⟨by rw[ew];exact(World.cell?_of_block (w:=X.w) (hbel.block b hlt (hnex b hnp))).trans hc,fun h'=>hM ((eM1 b hlt hnp o).1 h')⟩
  ·have hnp:=hS g L hg hSg
   exact⟨(eo1 g hlt hnp).trans hg,by rw[ew];exact hbel.block g hlt (hnex g hnp),fun o hm=>(eM1 g hlt hnp o).2 hm⟩
  ·rw[ew];exact hbel.sz g (Array.getElem?_eq_some_iff.1 hg).1 cs ty hg
 have hbase:G.base<=X.w.heap.size:=h.hb
 have hment:∀(e:DV),(ks.length<bs'.length->M6 L e=true)->∀q,e.ment q=true->X'.ρ q=X.ρ q:=fun e he q hq=>by
  by_cases hx:ks.length<bs'.length
  ·exact eρ q (.inl (eR (he hx) hq))
  ·exact eρ q (.inr (by omega))
 refine⟨⟨h.defers,h.size,fun i e he=>?_,fun q bq hq=>?_,?_,by rw[ew];exact Nat.le_trans h.hb hbel.size,eex.trans h.mold.1,fun b hb' hx o=>?_⟩,?_⟩
 ·exact(h.tmps i e he).mono (fun L j hL=>hL) hev (by simp[Loc.root]) (hment e fun hx=>s9 (hf hx).1 (cD he))
 ·have back:∀(i:Nat) (bx:Box) (old:Bool),bs'[i]?=some (some bx)->(old=true->∀blk,X1.ρ i=some blk->X'.ex (mL ks L i)=some blk)->BX X' G.base (mL ks L i) ⟨true,bx.size,dH (DK ks L bs'.length) bx.rows,old⟩:=by
   intro i bx old hi hp;obtain⟨o1,o2⟩:=hbx i bx hi;have hil:i<bs'.length:=(bM.1 hi).1;refine BX.tr (X:=X1) (X':=X') (base:=X.w.heap.size) (base':=G.base) (fun L1 L'=>L'=TA (mL ks L) d L1) (DK ks L bs'.length) (fun L1 L' j e=>by rw[e];rfl) hkeep ew (fun g L1 L' e g1 g2 g3 _=>?_) rfl (fun _ _=>rfl) (hσ i hil) hν old hp o1 o2
   have hg:¬(g<X.w.heap.size/\¬HP X G.base ks g):=fun hc=>by
    rcases g2 with g2|⟨j,g2⟩
    ·have:=hc.1;omega
    ·rw[hexe] at g2;exact hc.2 ((hex g).1 ⟨j,g2⟩)
   refine⟨by rw[eo2 g hg,g1,e];rfl,?_,fun o=>(eM2 g o).2 (g3 o)⟩
   rcases g2 with g2|⟨j,g2⟩
   ·exact .inl (Nat.le_trans h.hb g2)
   ·rw[hexe] at g2
    have:=((hex g).1 ⟨j,g2⟩).2.2.2;rw[eex];exact this
  rcases xL hn hlen hq with ⟨i,k,bx,h1,h2,rfl,rfl⟩|⟨i,bx,h1,h2,rfl,rfl⟩|⟨h1,h2,h3⟩
  ·have hsi:mL ks L i=q:=o7 h1
   have:=back i bx (qB s.b q) h2 (fun ho blk hblk=>by
    rw[hsi,eex];obtain⟨b0,g1,g2⟩:=hl q (cD h1);obtain⟨blk',e1,e2,e3,e4,e5,e6⟩:=BX.info (h.boxes q b0 g1) g2;have hold:b0.old=true:=by simpa [qB,cA.2 g1] using ho
    rw[hrho i (bM.1 h1).1] at hblk;simp only[i8,h1,Option.bind_some] at hblk;rw[<-hblk,e1];exact e4 hold)
   rw[hsi] at this;exact this
  ·have:=back i bx false h2 (fun ho=>by cases ho)
   rw[uL h1] at this;rw[hL];exact this
  ·have hm:∀row,row∈bq.rows->∀e,e∈row->∀i,e.ment i=true->X'.ρ i=X.ρ i:=fun row hrow e he=>hment e fun hx=>j3 (mI (hf hx).2 h3) hrow he
   refine(h.boxes q bq h3).mono (fun L j hL=>hL) hev (fun k hk=>?_) (fun r' o' k hk=>?_) (eρ q (.inl (by omega))) hm
   ·exact⟨(fun e=>by injection e with e;subst e;exact h1 hk),(fun r o e=>by cases e)⟩
   ·exact⟨(fun e=>by cases e),(fun r o e=>by injection e with e;subst e;exact h1 hk)⟩
 ·refine h.below.trans ⟨by rw[ew];exact hbel.os,by rw[ew];exact hbel.tape,by rw[ew];exact hbel.output,by rw[ew];exact hbel.size,fun b hb' hx=>?_,fun b hb'=>by rw[ew];exact hbel.sz b (Nat.lt_of_lt_of_le hb' h.hb)⟩
  rw[ew];refine hbel.block b (Nat.lt_of_lt_of_le hb' h.hb) (hnex b fun hp=>?_)
  rcases hp.2.2.2 with hp|⟨j,hj⟩
  ·omega
  ·rw[h.mold.1] at hj;exact hx j hj
 ·have hnp:¬HP X G.base ks b:=fun hp=>by
   rcases hp.2.2.2 with hp|⟨j,hj⟩
   ·omega
   ·rw[h.mold.1] at hj;exact hx j hj
  exact(eM1 b (Nat.lt_of_lt_of_le hb' h.hb) hnp o).trans (h.mold.2 b hb' hx o)
 ·exact ZC (base:=X.w.heap.size) hkeep ew (fun g hg=>⟨eo2 g (fun hc=>by have:=hc.1;omega),fun o hm=>(eM2 g o).2 hm⟩) h.hb hν hr hval
theorem z6{t:List DV}{d:Option Nat}{v:DV}:aH (aH t d .top) d v=aH t d v:=by
 cases d with
 |none=>rfl
 |some i=>
  apply List.ext_getElem?
  intro j;simp only[aH,getElem?_setL]
  split
  ·cases t[j]?<;>rfl
  ·rfl
theorem FI(h:Rel G X s a){f:FuncId}{gr:Bool}{vs:List DV}{cargs:Array Value}(hrun:(execOp a.eval o).run P X.w=.ok (.enter f cargs) X.w)(hl:cargs.size=vs.length)
  (hv:∀(i:Nat) d v,vs[i]?=some d->cargs[i]?=some v->∃L,VRel X G.base L d v) (hfr:gr=true->(wK s.b.length (aH s.t o.dst .top)&&C4 s.b.length s.b)=true)
  (hK:callO P f gr vs s.b fun v b=>K ⟨aH s.t o.dst v,b⟩):o.wp P a X.w (aZ G K) Q:=by
 unfold callO at hK;obtain⟨hlive,hn⟩:=PH (b:=s.b) (xs:=vs);generalize sJ s.b vs=ks at *
 cases hargs:lD s.b (F9 ks) vs with
 |none=>simp[hargs] at hK
 |some args=>
  simp only[hargs] at hK;obtain⟨bs',r,⟨hfn,hr,hlen0,hcall⟩,hgr,hK⟩:=hK;obtain⟨e1,e2⟩:=wM hargs;have hbl:=(pL (b:=s.b) (ν:=F9 ks) (ks:=ks)).1;rw[hbl] at hlen0 hcall
  have h0:Rel G X ⟨aH s.t o.dst .top,s.b⟩ a:=by
   cases o.dst with
   |none=>exact h
   |some i=>exact h.weak i .top trivial
  unfold Oper.wp;rw[hrun,Oper.upon_enter];refine(hcall (i8 X G.base ks) cargs (by omega) (LF h hn hlive) fun i d v hd hvv=>?_).mono ?_
  ·have hi:i<vs.length:=by rw[<-e1];exact(bM.1 hd).1
   obtain⟨L,hvr⟩:=hv i vs[i] v (by simp[hi]) hvv
   rcases e2 i vs[i] d (by simp[hi]) hd with ⟨z,g1,rfl⟩|⟨g1,rfl⟩
   ·exact frz h hvr g1
   ·refine VRel.tr (X:=X) (X':=i8 X G.base ks) (base:=G.base) (base':=X.w.heap.size) (fun L L'=>i6 ks L=some L') (F9 ks) (fun L L' j e=>by simp only[i6];rw[e];rfl) (Keeps.refl _ _) rfl
     (fun g L L' hL h1 h2 h3 h4 => ⟨by
      simp only[i8];rw[if_pos ⟨h4,⟨L,L',h1,hL⟩,h3,h2⟩,h1];exact hL,.inr ⟨ks.length+g,uS ⟨h4,⟨L,L',h1,hL⟩,h3,h2⟩⟩,h3⟩) (fun T e=>?_) (fun j j' hj=>B9 hj) hvr
    rw[e] at g1;simp[DV.isRefF] at g1
  ·rintro e w' ⟨v,X1,rfl,rfl,hback⟩
   obtain⟨q1,q2⟩:=LH h0 hn hlive hlen0 (fun hx=>by
    rcases hgr with hgr|hgr
    ·have:=hfr hgr
     simpa [aY] using this
    ·omega) hr hback (o.dst.getD 0)
   have h2:=q1.put (d:=o.dst) (v:=t6 (DK ks s.b.length bs'.length) r) (u:=v) (fun j hj=>by
    have e:o.dst.getD 0=j:=by rw[hj];rfl
    rw[e] at q2 ⊢;exact q2)
   exact⟨_,mV X X1 G.base ks s.b.length bs'.length (o.dst.getD 0),by simpa [z6] using h2,rfl,hK⟩
theorem s_callo(h:Rel G X s a){f:FuncId}{gr:Bool}{xs:Array Operand}{ts:Array TypeId}{os:List O}(ho:o.op=.call { callee:=.value (.func f),args:=xs,argTypes:=ts })
  (hl:os.length=xs.size) (hos:∀(k:Nat) x oo,xs.toList[k]?=some x->os[k]?=some oo->OT x oo) (hfr:gr=true->(wK s.b.length (aH s.t o.dst .top)&&C4 s.b.length s.b)=true)
  (hK:bB P (.callo f gr) (os.map (O.val s.t)) s.b fun v b=>K ⟨aH s.t o.dst v,b⟩):o.wp P a X.w (aZ G K) Q:=by
 simp only[bB] at hK
 have hfn:B6 P f:=by
  unfold callO at hK
  split at hK
  ·obtain⟨_,_,⟨hfn,_⟩,_⟩:=hK;exact hfn
  ·exact hK.elim
 refine FI h (cargs:=xs.map a.eval) (by simp[execOp,ho,resolve,Deferred.ofValue,invoke,Act.eval,oI hfn]) (by simp[hl]) (fun i d v hd hv=>?_) hfr hK
 rw[Array.getElem?_map] at hv
 cases hx:xs[i]? with
 |none=>rw[hx] at hv;simp at hv
 |some y=>
  rw[hx] at hv;simp only[Option.map_some,bQ] at hv;subst hv;have hio:i<os.length:=by rw[hl];exact(Array.getElem?_eq_some_iff.1 hx).1
  have:=h.opnd (hos i y os[i] (by simpa using hx) (by simp[hio]))
  rw[List.getElem?_map] at hd;simp[hio] at hd;subst hd;exact this
theorem s_callvo(h:Rel G X s a){gr:Bool}{x:Operand}{ox:O}(hx:OT x ox){xs:Array Operand}{ts:Array TypeId}{os:List O}(ho:o.op=.call { callee:=.value x,args:=xs,argTypes:=ts })
  (hl:os.length=xs.size) (hos:∀(k:Nat) x oo,xs.toList[k]?=some x->os[k]?=some oo->OT x oo) (hfr:gr=true->(wK s.b.length (aH s.t o.dst .top)&&C4 s.b.length s.b)=true)
  (hK:bB P (.callvo gr) ((ox ::os).map (O.val s.t)) s.b fun v b=>K ⟨aH s.t o.dst v,b⟩):o.wp P a X.w (aZ G K) Q:=by
 obtain⟨_,rx⟩:=h.opnd hx;simp only[List.map_cons] at hK;generalize ox.val s.t=vx at *
 cases vx with
 |fn f caps=>
  simp only[bB] at hK
  have hfn:B6 P f:=by
   unfold callO at hK
   split at hK
   ·obtain⟨_,_,⟨hfn,_⟩,_⟩:=hK;exact hfn
   ·exact hK.elim
  obtain⟨vs,ev,hvs,hcap⟩:=rx;have hcd:∀(l:List CapV),(mU l).length=l.length:=by intro l;induction l with|nil=>rfl|cons c l ih=>cases c<;>simp[mU,ih]
  have hcg:∀(l:List CapV) (i:Nat) d,(mU l)[i]?=some d->∃c,l[i]?=some c/\((∃x,c=.p x/\d=.p x)\/∃k sz r o,c=.addr k sz r o/\d=.addr k sz r o):=by
   intro l
   induction l with
   |nil=>intro i d hd;simp[mU] at hd
   |cons c l ih=>
    intro i d hd
    cases i with
    |zero=>cases c<;>simp[mU] at hd<;>subst hd<;>simp
    |succ i=>cases c<;>simp[mU] at hd<;>simpa using ih i d hd
  refine FI h (cargs:=xs.map a.eval++vs) (by
   have ex:a.eval x=.func (.func f) #[] vs:=ev;simp[execOp,ho,resolve,ex,Deferred.ofValue,invoke,oI hfn]) (by simp[hl,hcd,hvs]) (fun i d v hd hv=>?_) hfr hK
  rw[List.getElem?_append] at hd;rw[Array.getElem?_append] at hv;simp only[List.length_map,hl] at hd;simp only[Array.size_map] at hv
  split at hd
  ·rename_i hi
   rw[if_pos hi,Array.getElem?_map] at hv
   cases hx':xs[i]? with
   |none=>rw[hx'] at hv;simp at hv
   |some y=>
    rw[hx'] at hv;simp only[Option.map_some,bQ] at hv;subst hv;have hio:i<os.length:=by rw[hl];exact hi
    have:=h.opnd (hos i y os[i] (by simpa using hx') (by simp[hio]))
    rw[List.getElem?_map] at hd;simp[hio] at hd;subst hd;exact this
  ·rename_i hi
   rw[if_neg hi] at hv;obtain⟨c,hc,hcc⟩:=hcg caps _ d hd;have:=hcap _ c v hc hv;rcases hcc with ⟨x,rfl,rfl⟩|⟨k,sz,r,o,rfl,rfl⟩
   ·exact⟨.tmp 0,this⟩
   ·exact⟨.tmp 0,this⟩
 |_=>simp[bB] at hK
theorem s_eqp(h:Rel G X s a){neq:Bool}{t t':TypeId}{x y:Operand}{ox oy:O}(hx:OT x ox)(hy:OT y oy)(ho:o.op=.binOp (if neq then .neq else .eql) t x y t')(hu:P.underlying t=some (.pointer (P.pointee t)))
  (hK:bB P (.eqp neq) [ox.val s.t,oy.val s.t] s.b fun v b=>K ⟨aH s.t o.dst v,b⟩):o.wp P a X.w (aZ G K) Q:=by
 obtain⟨_,rx⟩:=h.opnd hx;obtain⟨_,ry⟩:=h.opnd hy;generalize ox.val s.t=vx at *;generalize oy.val s.t=vy at *
 have go:∀p:Option Addr,a.eval x=.pointer p->a.eval y=.pointer none->K ⟨aH s.t o.dst (.p (.bool (if neq then !p.isNone else p.isNone))),s.b⟩->o.wp P a X.w (aZ G K) Q:=by
  intro p ex ey hKK;refine bC (z:=.bool _) h ?_ (.bool _) hKK
  cases neq with
  |true=>simp[execOp,ho,ex,ey,eqGuard,run_neq_pointer_nil X.w t p hu]
  |false=>simp[execOp,ho,ex,ey,eqGuard,run_eql_pointer_nil X.w t p hu]
 unfold bB at hK
 split at hK
 all_goals first
  |exact hK.elim
  |(rename_i e1 e2;cases e1;done)
  |(rename_i e2;cases e2;done)
  |skip
 ·rename_i neq' x' e1 e2
  injection e1 with e1
  injection e2 with e2 e3
  injection e3 with e3 _
  subst e1;subst e2;subst e3
  have ey:a.eval y=.pointer none:=by
   generalize a.eval y=u at ry;have ry':Flat X.M X.w (.atom (.pointer none)) u:=ry
   cases ry' with
   |atom v h=>rfl
  split at hK
  ·obtain⟨blk,_,ex⟩:=rx
   exact go _ ex ey (by simpa using hK)
  ·have ex:a.eval x=.pointer none:=by
    generalize a.eval x=u at rx;have rx':Flat X.M X.w (.atom (.pointer none)) u:=rx
    cases rx' with
    |atom v h=>rfl
   exact go _ ex ey (by simpa using hK)
  ·have rx':Flat X.M X.w (.ptr _ _) (a.eval x):=rx
   generalize hv:a.eval x=v at *
   cases rx' with
   |ptr _ _ b n0 cv hc h1 hr=>exact go _ rfl ey (by simpa using hK)
  ·obtain⟨b0,ex⟩:=rx
   exact go _ ex ey (by simpa using hK)
  ·exact hK.elim
end
open Go.RowKit
variable {P:Program}
theorem lI(l:List PV):o5 l=l.map fun x=>(aE x).map DV.p:=by induction l with|nil=>rfl|cons x xs ih=>simp[o5,ih]
theorem bJ(rs:List (List DV)):aW rs=rs.map fun r=>r.map DV.copy:=by induction rs with|nil=>rfl|cons r rs ih=>simp[aW,ih,j7]
def Cx.push(X:Cx)(k:Nat)(w':World):Cx :=
 {ρ := fun j => if j = k then some X.w.heap.size else X.ρ j
  own:=fun g=>if g=X.w.heap.size then some (.box k) else X.own g
  M:=fun b o=>if b=X.w.heap.size then True else X.M b o
  w:=w'
  ex:=X.ex }
theorem EW{X:Cx}{k:Nat}{w':World}{cs:Array Value}{ty:TypeId}(h:NewBlock X.w w' cs ty):Ev (fun _=>True) X (X.push k w'):=by
 refine⟨fun b o v hM hc=>?_,fun g L hg _ hlt=>⟨?_,?_,fun o hM=>?_⟩,rfl,.below fun b hb=>(h.below (Nat.le_refl _)).block b hb⟩
 ·have hlt:b<X.w.heap.size:=World.block_lt_of_cell? _ _ hc
  refine⟨(World.cell?_of_block (w:=X.w) ((h.below (Nat.le_refl _)).block b hlt)).trans hc,?_⟩
  show ¬(if b=X.w.heap.size then _ else X.M b o)
  rw[if_neg (by omega)];exact hM
 ·show (if g=X.w.heap.size then _ else X.own g)=_
  rw[if_neg (by omega)];exact hg
 ·exact(h.below (Nat.le_refl _)).block g hlt
 ·show (if g=X.w.heap.size then _ else X.M g o)
  rw[if_neg (by omega)];exact hM
theorem y5{b:List (Option Box)}{x:Option Box}{j:Nat}{y:Option Box}(h:(b++[x])[j]?=some y):(j=b.length/\y=x)\/(j<b.length/\b[j]?=some y):=by
 rw[List.getElem?_append] at h
 split at h
 ·exact .inr ⟨by assumption,h⟩
 ·rename_i hj
  have:=(bM.1 h).1;simp at this;have e:j-b.length=0:=by omega
  rw[e] at h;simp at h;exact .inl ⟨by omega,h.symm⟩
section
variable {G:Gl} {X:Cx} {s:St} {a:Act} {Q:Exit->Act->World->Prop} {o:Oper} {K:St->Prop}
theorem Rel.pushBox(h:Rel G X s a){w':World}{cs:Array Value}{ty:TypeId}(hn:NewBlock X.w w' cs ty)(bx:Box)(hT:wK s.b.length s.t=true)(hB:C4 s.b.length s.b=true)
  (hsize:bx.rows.length*bx.size<=cs.size) (hwidth:∀row,row∈bx.rows->row.length=bx.size)
  (hcells:∀(r o:Nat) row e u,bx.rows[r]?=some row->row[o]?=some e->cs[r*bx.size+o]?=some u->VRel (X.push s.b.length w') G.base (.cell s.b.length r o) e u/\u.oneCell'=true)
  (hlive:bx.live=true) (hold:bx.old=false) (hne:bx.size≠0):Rel G (X.push s.b.length w') ⟨s.t,s.b++[some bx]⟩ a:=by
 have hev:=EW (k:=s.b.length) hn;generalize hX:X.push s.b.length w'=X' at *;have ew:X'.w=w':=by subst hX;rfl
 have eex:X'.ex=X.ex:=by subst hX;rfl
 have hρ:∀j,j<s.b.length->X'.ρ j=X.ρ j:=by subst hX;intro j hj;show (if j=s.b.length then _ else X.ρ j)=_;rw[if_neg (by omega)]
 have hwh:w'.heap.size=X.w.heap.size+1:=by rw[hn.heap];simp
 refine⟨h.defers,h.size,fun i e he=>?_,fun j bx' hj=>?_,h.below.trans (.of (by rw[ew];exact hn.below h.hb)),by rw[ew,hwh];exact Nat.le_succ_of_le h.hb,eex.trans h.mold.1,fun b hb hx o=>?_⟩
 ·exact(h.tmps i e he).mono (fun _ _ h=>h) hev trivial fun j hj=>hρ j (eR (s9 hT (cD he)) hj)
 ·rcases y5 hj with ⟨rfl,e⟩|⟨hlt,hj⟩
  ·injection e with e
   subst e;refine BX.cell (blk:=X.w.heap.size) (cs:=cs) (ty:=ty) hne ⟨by subst hX;simp[Cx.push],by subst hX;simp[Cx.push],⟨.inl h.hb,fun h=>by rw[hold] at h;cases h⟩,by rw[ew];exact hn.new,hsize,hwidth,hcells,fun _ o=>by subst hX;simp[Cx.push],fun hl=>by rw[hlive] at hl;cases hl⟩
  ·exact(h.boxes j bx' hj).mono (fun _ _ h=>h) hev trivial (fun _ _=>trivial) (hρ j hlt) fun row hrow e he i hi=>hρ i (eR (j3 (mI hB hj) hrow he) hi)
 ·have:b<X.w.heap.size:=Nat.lt_of_lt_of_le hb h.hb
  have e:X'.M b o↔X.M b o:=by subst hX;show (if b=X.w.heap.size then True else X.M b o)↔_;rw[if_neg (by omega)]
  exact e.trans (h.mold.2 b hb hx o)
structure Shows (X:Cx) (base size:Nat) (new:List (List DV)) (news:List Value) (v:Value):Prop where
 width:∀row,row∈new->row.length=size
 len:news.length=new.length*size
 form:(new=[]/\∃b2 c2,v=.slice b2 0 c2)\/∃b o cap,v=.slice (some ⟨b,o,none⟩) new.length cap/\∀j u,news[j]?=some u->X.w.cell? ⟨b,o+j,none⟩=some u
 cells:∀(i j:Nat) row d,new[i]?=some row->row[j]?=some d->∃u,news[i*size+j]?=some u/\(∀L,VRel X base L d u)/\u.oneCell'=true
 one:∀u,u∈news->u.oneCell'=true
theorem BoxRel.shows{k:Nat}{bx:Box}{base blk:Nat}{cs:Array Value}{ty:TypeId}(hb:BoxRel X base k bx blk cs ty)(hpos:bx.size≠0)(cap:Nat) :
  Shows X base bx.size (aW bx.rows) (cs.toList.take (bx.rows.length*bx.size)) (.slice (some ⟨blk,0,none⟩) bx.rows.length cap):=by
 have hsz:=hb.size
 have hget:∀(i j:Nat) row d,bx.rows[i]?=some row->row[j]?=some d->∃u,(cs.toList.take (bx.rows.length*bx.size))[i*bx.size+j]?=some u/\VRel X base (.cell k i j) d u/\u.oneCell'=true:=by
  intro i j row d hr hd;have hil:=(bM.1 hr).1;have hjl:=(bM.1 hd).1;rw[hb.width row (cD hr)] at hjl
  have hlt:i*bx.size+j<bx.rows.length*bx.size:=by
   have:(i+1)*bx.size<=bx.rows.length*bx.size:=Nat.mul_le_mul_right _ hil;rw[Nat.add_mul] at this;omega
  have hu:cs[i*bx.size+j]?=some cs[i*bx.size+j]:=by simp[show i*bx.size+j<cs.size by omega]
  obtain⟨f1,f2⟩:=hb.cells i j row d _ hr hd hu;exact⟨_,by rw[List.getElem?_take,if_pos hlt];simpa using hu,f1,f2⟩
 refine⟨fun row hrow=>?_,by simp[bJ];omega,.inr ⟨blk,0,cap,by simp[bJ],fun j u hj=>?_⟩,fun i j row d hr hd=>?_,fun u hu=>?_⟩
 ·rw[bJ] at hrow
  obtain⟨row0,hr0,rfl⟩:=List.mem_map.1 hrow
  simpa using hb.width row0 hr0
 ·rw[List.getElem?_take] at hj
  split at hj
  ·rw[Nat.zero_add,dE hb.heap];simpa using hj
  ·cases hj
 ·rw[bJ,List.getElem?_map] at hr
  cases hr0:bx.rows[i]? with
  |none=>rw[hr0] at hr;simp at hr
  |some row0=>
   rw[hr0] at hr;simp only[Option.map_some,bQ] at hr;subst hr;rw[List.getElem?_map] at hd
   cases hd0:row0[j]? with
   |none=>rw[hd0] at hd;simp at hd
   |some d0=>
    rw[hd0] at hd;simp only[Option.map_some,bQ] at hd;subst hd;obtain⟨u,g1,g2,g3⟩:=hget i j row0 d0 hr0 hd0;exact⟨u,g1,fun L=>g2.copy L,g3⟩
 ·obtain⟨q,hq⟩:=List.getElem?_of_mem hu
  have hq':=hq;rw[List.getElem?_take] at hq'
  split at hq'
  ·rename_i hlt
   have hpos:0<bx.size:=Nat.pos_of_ne_zero hpos;have hkr:q/bx.size<bx.rows.length:=(Nat.div_lt_iff_lt_mul hpos).2 hlt;have hrow:bx.rows[q/bx.size]?=some bx.rows[q/bx.size]:=by simp[hkr]
   have hm:q%bx.size<bx.rows[q/bx.size].length:=by rw[hb.width _ (cD hrow)];exact Nat.mod_lt _ hpos
   obtain⟨u',g1,g2,g3⟩:=hget (q/bx.size) (q%bx.size) _ bx.rows[q/bx.size][q%bx.size] hrow (by simp[hm])
   have e:q/bx.size*bx.size+q%bx.size=q:=by rw[Nat.mul_comm];exact Nat.div_add_mod q bx.size
   rw[e,hq] at g1;injection g1 with g1
   rw[g1];exact g3
  ·cases hq'
theorem CE(h:Rel G X s a){size:Nat}{y:DV}{v:Value}{L:Loc}(hv:VRel X G.base L y v){new:List (List DV)}(hn:iG s.b size y=some new):∃news,Shows X G.base size new news v:=by
 have fz:∀{y:DV},VRel X G.base L y v->(match y.frz s.b with|some (.sl sz _ rows)=>if sz=size\/rows=[] then some (o5 rows) else none|_=>none)=some new->∃news,Shows X G.base size new news v:=by
  intro y hv hn
  split at hn
  ·rename_i sz nl rows hf
   split at hn
   ·rename_i hsz
    injection hn with hn
    subst hn;obtain⟨hs,vs,hl,hform,hr,hone⟩:=(frz h hv hf).list
    by_cases hr0:rows=[]
    ·subst hr0
     refine⟨[],fun row hrow=>by simp[o5] at hrow,by simp[o5],?_,fun i j row d hr=>by simp[o5] at hr,fun u hu=>by simp at hu⟩
     rcases hform with ⟨_,hf⟩|⟨b,o,cap,e,_⟩
     ·exact .inl ⟨rfl,hf⟩
     ·exact .inl ⟨rfl,_,_,e⟩
    ·have:sz=size:=hsz.resolve_right hr0
     subst this;refine⟨vs,fun row hrow=>?_,by simp[lI,hl],?_,fun i j row d hri hdj=>?_,hone⟩
     ·rw[lI] at hrow
      obtain⟨x,hx,rfl⟩:=List.mem_map.1 hrow
      simpa using(hs x hx).1
     ·rcases hform with ⟨e,_⟩|⟨b,o,cap,e,hc⟩
      ·exact absurd e hr0
      ·exact .inr ⟨b,o,cap,by simp[lI,e],hc⟩
     ·rw[lI,List.getElem?_map] at hri
      cases hx:rows[i]? with
      |none=>rw[hx] at hri;simp at hri
      |some x=>
       rw[hx] at hri;simp only[Option.map_some,bQ] at hri;subst hri;rw[List.getElem?_map] at hdj
       cases hc:(aE x)[j]? with
       |none=>rw[hc] at hdj;simp at hdj
       |some c=>
        rw[hc] at hdj;simp only[Option.map_some,bQ] at hdj;subst hdj;obtain⟨u,hu,hf⟩:=hr i j x c hx hc;exact⟨u,hu,fun _=>hf,hone u (cD hu)⟩
   ·cases hn
  ·cases hn
 cases y with
 |bs k sz ag lo n=>
  simp only[iG] at hn
  cases hb:bF s.b k with
  |none=>rw[hb] at hn;cases hn
  |some bx=>
   rw[hb] at hn;simp only at hn
   split at hn
   ·rename_i hc
    obtain⟨c1,rfl,c3,rfl,rfl⟩:=hc;injection hn with hn
    subst hn;obtain⟨blk,cap,e1,e2,e3,e5,e4⟩:=hv;obtain⟨blk',cs,ty,hbx⟩:=h.cbox (b8 hb) (bG hb);have:blk'=blk:=by have:=hbx.ρ;rw[e1] at this;injection this with h;exact h.symm
    subst this;have:=hbx.shows (bG hb) cap;rw[c3] at this;exact⟨_,by rw[e4,Nat.zero_mul];exact this⟩
   ·cases hn
 |top=>exact fz (y:=.top) hv hn
 |p x=>exact fz (y:=.p x) hv hn
 |ow a b c=>exact fz (y:=.ow a b c) hv hn
 |tup ds=>exact fz (y:=.tup ds) hv hn
 |addr a1 a2 a3 a4=>exact fz (y:=.addr a1 a2 a3 a4) hv hn
 |fn f c=>exact fz (y:=.fn f c) hv hn
 |mh k=>exact fz (y:=.mh k) hv hn
 |ob T=>exact fz (y:=.ob T) hv hn
 |pk o=>exact fz (y:=.pk o) hv hn
 |agd cs=>exact fz (y:=.agd cs) hv hn
theorem D1(hB:C4 s.b.length s.b=true){size:Nat}{y:DV}{new:List (List DV)}(hn:iG s.b size y=some new){row:List DV}(hr:row∈new){d:DV}(hd:d∈row){k:Nat}(hk:d.ment k=true):k<s.b.length:=by
 have fz:∀{y:DV},(match y.frz s.b with|some (.sl sz _ rows)=>if sz=size\/rows=[] then some (o5 rows) else none|_=>none)=some new->k<s.b.length:=by
  intro y hn
  split at hn
  ·split at hn
   ·injection hn with hn
    subst hn;rw[lI] at hr;obtain⟨x,_,rfl⟩:=List.mem_map.1 hr;obtain⟨c,_,rfl⟩:=List.mem_map.1 hd;simp[DV.ment] at hk
   ·cases hn
  ·cases hn
 cases y with
 |bs q sz ag lo n=>
  simp only[iG] at hn
  cases hb:bF s.b q with
  |none=>rw[hb] at hn;cases hn
  |some bx=>
   rw[hb] at hn;simp only at hn
   split at hn
   ·injection hn with hn
    subst hn;rw[bJ] at hr;obtain⟨row0,hr0,rfl⟩:=List.mem_map.1 hr;obtain⟨d0,hd0,rfl⟩:=List.mem_map.1 hd;rw[jA] at hk;exact eR (j3 (mI hB (b8 hb)) hr0 hd0) hk
   ·cases hn
 |top=>exact fz (y:=.top) hn
 |p x=>exact fz (y:=.p x) hn
 |ow a b c=>exact fz (y:=.ow a b c) hn
 |tup ds=>exact fz (y:=.tup ds) hn
 |addr a1 a2 a3 a4=>exact fz (y:=.addr a1 a2 a3 a4) hn
 |fn f c=>exact fz (y:=.fn f c) hn
 |mh k=>exact fz (y:=.mh k) hn
 |ob T=>exact fz (y:=.ob T) hn
 |pk o=>exact fz (y:=.pk o) hn
 |agd cs=>exact fz (y:=.agd cs) hn
theorem xE{size:Nat}{r1 r2:List (List DV)}{v1 v2:List Value}{X:Cx}{base:Nat}(h1:v1.length=r1.length*size)(hw:∀row,row∈r1->row.length=size)
  (f1:∀(i j:Nat) row d,r1[i]?=some row->row[j]?=some d->∃u,v1[i*size+j]?=some u/\(∀L,VRel X base L d u)/\u.oneCell'=true)
  (f2:∀(i j:Nat) row d,r2[i]?=some row->row[j]?=some d->∃u,v2[i*size+j]?=some u/\(∀L,VRel X base L d u)/\u.oneCell'=true) :
  ∀(i j:Nat) row d,(r1++r2)[i]?=some row->row[j]?=some d->∃u,(v1++v2)[i*size+j]?=some u/\(∀L,VRel X base L d u)/\u.oneCell'=true:=by
 intro i j row c hr hc;rw[List.getElem?_append] at hr
 by_cases hi:i<r1.length
 ·rw[if_pos hi] at hr
  obtain⟨u,hu,hf⟩:=f1 i j row c hr hc;exact⟨u,by rw[List.getElem?_append,if_pos (bM.1 hu).1];exact hu,hf⟩
 ·rw[if_neg hi] at hr
  obtain⟨u,hu,hf⟩:=f2 _ j row c hr hc;refine⟨u,?_,hf⟩;have:r1.length*size<=i*size:=Nat.mul_le_mul_right _ (by omega)
  rw[List.getElem?_append,if_neg (by rw[h1];omega),h1]
  have e:i*size+j-r1.length*size=(i-r1.length)*size+j:=by rw[Nat.sub_mul];omega
  rw[e];exact hu
theorem yD(h:Rel G X s a)(hT:wK s.b.length (aH s.t o.dst .top)=true)(hB:C4 s.b.length s.b=true){size:Nat}(hne:size≠0){rows:List (List DV)}{vs:List Value}{rest:Array Value}{w':World}{ty:TypeId}{cap:Nat}{ag:Bool}
  (hn:NewBlock X.w w' (vs.toArray++rest) ty) (hw:∀row,row∈rows->row.length=size) (hl:vs.length=rows.length*size) (hcs:cap*size<=vs.length+rest.size) (hcap:rows.length<=cap) (hmax:cap<=maxLen)
  (hc:∀(i j:Nat) row d,rows[i]?=some row->row[j]?=some d->∃u,vs[i*size+j]?=some u/\(∀L,VRel X G.base L d u)/\u.oneCell'=true) (hm:∀row,row∈rows->∀d,d∈row->∀k,d.ment k=true->k<s.b.length)
  (hrun:(execOp a.eval o).run P X.w=.ok (.value (.slice (some ⟨X.w.heap.size,0,none⟩) rows.length cap)) w') {b':List (Option Box)} (hb':∀(j:Nat) bx,b'[j]?=some (some bx)->(s.b++[some ⟨true,size,rows,false⟩])[j]?=some (some bx))
  (hK:K ⟨aH s.t o.dst (.bs s.b.length size ag 0 rows.length),b'⟩):o.wp P a X.w (aZ G K) Q:=by
 have h0:Rel G X ⟨aH s.t o.dst .top,s.b⟩ a:=by
  cases o.dst with
  |none=>exact h
  |some i=>exact h.weak i .top trivial
 have hev:=EW (k:=s.b.length) hn
 have h1:=h0.pushBox (s:=⟨aH s.t o.dst .top,s.b⟩) hn ⟨true,size,rows,false⟩ hT hB (by simp[hl]) hw (fun r i row e u hr he hu=>by
  obtain⟨u',g1,g2,g3⟩:=hc r i row e hr he
  have:u=u':=by
   have hlt:=(bM.1 g1).1;rw[Array.getElem?_append,if_pos (by simpa using hlt)] at hu
   rw[show vs.toArray[r*size+i]?=some u' by simpa using g1] at hu
   injection hu with hu;exact hu.symm
  subst this;refine⟨(g2 _).mono (fun _ _ h=>h) hev trivial fun j hj=>?_,g3⟩
  have:=hm row (cD hr) e (cD he) j hj
  show (if j=s.b.length then _ else X.ρ j)=_
  rw[if_neg (by omega)]) rfl rfl hne
 simp only at h1;have h2:Rel G (X.push s.b.length w') ⟨aH s.t o.dst .top,b'⟩ a:=⟨h1.defers,h1.size,h1.tmps,fun j bx hj=>h1.boxes j bx (hb' j bx hj),h1.below,h1.hb,h1.mold⟩
 unfold Oper.wp;rw[hrun,Oper.upon_value];have h3:=h2.put (d:=o.dst) (v:=.bs s.b.length size ag 0 rows.length) (u:=.slice (some ⟨X.w.heap.size,0,none⟩) rows.length cap) (fun j _=>⟨X.w.heap.size,cap,by simp[Cx.push],hcap,hmax,⟨_,_,hn.new,by simpa using hcs⟩,by simp⟩)
 exact⟨_,_,by simpa [z6] using h3,rfl,hK⟩
theorem AR(h:Rel G X s a)(hT:wK s.b.length (aH s.t o.dst .top)=true)(hB:C4 s.b.length s.b=true){k:Nat}{bx:Box}(hk:s.b[k]?=some (some bx))(hlive:bx.live=true)(hne:bx.size≠0)
  {blk cap:Nat} {cs cs':Array Value} {ty ty':TypeId} (hb:BoxRel X G.base k bx blk cs ty) {w':World} (hw':w'.heap[blk]?=some (.cells cs' ty' (0,0))) (hoth:∀b,b≠blk->w'.heap[b]?=X.w.heap[b]?)
  (hos:w'.os=X.w.os) (htape:w'.tape=X.w.tape) (hout:w'.output=X.w.output) (hhs:w'.heap.size=X.w.heap.size) (hcs:cs'.size=cs.size) {new:List (List DV)} {news:List Value}
  (hold:∀i,i<bx.rows.length*bx.size->cs'[i]?=cs[i]?) (hnew:∀j u,news[j]?=some u->cs'[bx.rows.length*bx.size+j]?=some u) (hw:∀row,row∈new->row.length=bx.size) (hl:news.length=new.length*bx.size)
  (hc:∀(i j:Nat) row d,new[i]?=some row->row[j]?=some d->∃u,news[i*bx.size+j]?=some u/\(∀L,VRel X G.base L d u)/\u.oneCell'=true) (hm:∀row,row∈new->∀d,d∈row->∀k,d.ment k=true->k<s.b.length)
  (hcap:bx.rows.length+new.length<=cap) (hmax:cap<=maxLen) (hcc:cap*bx.size<=cs.size) {ag:Bool}
  (hrun:(execOp a.eval o).run P X.w=.ok (.value (.slice (some ⟨blk,0,none⟩) (bx.rows.length+new.length) cap)) w')
  (hK:K ⟨aH s.t o.dst (.bs s.b.length bx.size ag 0 (bx.rows.length+new.length)),aF s.b k none++[some ⟨true,bx.size,aW bx.rows++new,false⟩]⟩):o.wp P a X.w (aZ G K) Q:=by
 have hkl:k<s.b.length:=(bM.1 hk).1;generalize hX:({ ρ:=fun j=>if j=s.b.length then some blk else X.ρ j,own:=fun g=>if g=blk then some (.box s.b.length) else X.own g,M:=X.M,w:=w',ex:=X.ex }:Cx)=X'
 have ew:X'.w=w':=by subst hX;rfl
 have eM:X'.M=X.M:=by subst hX;rfl
 have eex:X'.ex=X.ex:=by subst hX;rfl
 have eρL:X'.ρ s.b.length=some blk:=by subst hX;simp
 have hρ:∀j,j<s.b.length->X'.ρ j=X.ρ j:=by subst hX;intro j hj;show (if j=s.b.length then _ else X.ρ j)=_;rw[if_neg (by omega)]
 have eob:X'.own blk=some (.box s.b.length):=by subst hX;simp
 have eo:∀g,g≠blk->X'.own g=X.own g:=by subst hX;intro g hg;simp[hg]
 have hszA:∀g,SzAt X.w X'.w g:=by rw[ew];exact SzAt.heap hb.heap hw' hcs fun b hb _=>hoth b hb
 have hev:Ev (fun L=>L≠.box k) X X':=by
  refine⟨fun b i u hM hcv=>?_,fun g L hg hS _=>?_,eex,hszA⟩
  ·have hbne:b≠blk:=fun e=>by subst e;exact hM (hb.live hlive i)
   exact⟨by rw[ew];exact(World.cell?_of_block (w:=X.w) (hoth b hbne)).trans hcv,by rw[eM];exact hM⟩
  ·have hgne:g≠blk:=fun e=>by subst e;rw[hb.own] at hg;injection hg with hg;exact hS hg.symm
   exact⟨(eo g hgne).trans hg,by rw[ew];exact hoth g hgne,fun _ h=>by rw[eM];exact h⟩
 have h0:Rel G X ⟨aH s.t o.dst .top,s.b⟩ a:=by
  cases o.dst with
  |none=>exact h
  |some i=>exact h.weak i .top trivial
 have hold0:=hb.shows hne cap;have hall:=xE hold0.len hold0.width hold0.cells hc;have hnsz:(aW bx.rows).length=bx.rows.length:=by simp[bJ]
 have h1:Rel G X' ⟨aH s.t o.dst .top,aF s.b k none++[some ⟨true,bx.size,aW bx.rows++new,false⟩]⟩ a:=by
  refine⟨h0.defers,h0.size,fun i e he=>?_,fun j bx' hj=>?_,h0.below.trans ⟨by rw[ew];exact hos,by rw[ew];exact htape,by rw[ew];exact hout,by rw[ew,hhs];exact Nat.le_refl _,fun r hr hx=>by
   rw[ew];exact hoth r (fun e=>by subst e;exact hb.hbase.1.elim (fun h=>by omega) (fun ⟨j',h'⟩=>hx _ (by rw[<-h.mold.1];exact h'))),fun _ _=>hszA _⟩,by rw[ew,hhs];exact h.hb,eex.trans h0.mold.1,fun b hb' hx o=>by rw[eM];exact h0.mold.2 b hb' hx o⟩
  ·exact(h0.tmps i e he).mono (fun _ _ _ h=>by cases h) hev (by simp) fun j hj=>hρ j (eR (s9 hT (cD he)) hj)
  ·rcases y5 hj with ⟨e,e'⟩|⟨hlt,hj⟩
   ·rw[aI] at e
    subst e;injection e' with e'
    subst e';refine BX.cell (blk:=blk) (cs:=cs') (ty:=ty') hne ⟨eρL,eob,⟨by rw[eex];exact hb.hbase.1,fun h=>by cases h⟩,by rw[ew];exact hw',?_,fun row hrow=>?_,fun r i row d u hr hd hu=>?_,fun _ o=>by rw[eM];exact hb.live hlive o,fun h=>by cases h⟩
    ·rw[hcs,List.length_append,hnsz];exact Nat.le_trans (Nat.mul_le_mul_right _ hcap) hcc
    ·rcases List.mem_append.1 hrow with hrow|hrow
     ·exact hold0.width row hrow
     ·exact hw row hrow
    ·obtain⟨u',g1,g2,g3⟩:=hall r i row d hr hd
     have e:u=u':=by
      rw[List.getElem?_append] at g1
      split at g1
      ·rename_i hlt
       have hlt':r*bx.size+i<bx.rows.length*bx.size:=by rw[hold0.len,hnsz] at hlt;exact hlt
       rw[hold _ hlt'] at hu;rw[List.getElem?_take,if_pos hlt'] at g1;rw[show cs[r*bx.size+i]?=some u' by simpa using g1] at hu
       injection hu with hu;exact hu.symm
      ·rename_i hge
       rw[hold0.len,hnsz] at g1 hge;have:=hnew _ u' g1;rw[show bx.rows.length*bx.size+(r*bx.size+i-bx.rows.length*bx.size)=r*bx.size+i by omega,hu] at this
       injection this
     subst e;refine⟨(g2 _).mono (fun _ _ _ h=>by cases h) hev (by simp) fun j hj=>hρ j ?_,g3⟩
     rcases List.mem_append.1 (cD hr) with hrow|hrow
     ·rw[bJ] at hrow
      obtain⟨row0,hr0,rfl⟩:=List.mem_map.1 hrow;obtain⟨d0,hd0,rfl⟩:=List.mem_map.1 (cD hd);rw[jA] at hj;exact eR (j3 (mI hB hk) hr0 hd0) hj
     ·exact hm row hrow d (cD hd) j hj
   ·rw[aI] at hlt
    rw[getElem?_setL] at hj
    split at hj
    ·cases hb0:s.b[j]?<;>rw[hb0] at hj<;>simp at hj
    ·rename_i hjk
     exact(h0.boxes j bx' hj).mono (fun _ _ _ h=>by cases h) hev (by simp[hjk]) (fun _ _=>by simp) (hρ j hlt) fun row hrow e he i hi=>hρ i (eR (j3 (mI hB hj) hrow he) hi)
 unfold Oper.wp;rw[hrun,Oper.upon_value]
 have h3:=h1.put (d:=o.dst) (v:=.bs s.b.length bx.size ag 0 (bx.rows.length+new.length)) (u:=.slice (some ⟨blk,0,none⟩) (bx.rows.length+new.length) cap)
  (fun j _=>⟨blk,cap,eρL,hcap,hmax,⟨cs',ty',by rw[ew];exact hw',by rw[hcs];simpa using hcc⟩,by simp⟩)
 exact⟨_,_,by simpa [z6] using h3,ew,hK⟩
theorem s_appd(h:Rel G X s a){size bytes:Nat}{ag:Bool}{x y:Operand}{ox oy:O}{t e:TypeId}(hx:OT x ox)(hy:OT y oy)(ho:o.op=.call { callee:=.builtin .append,args := #[x,y],argTypes := #[t,t] })
  (hu:P.underlying t=some (.slice e)) {i:TypeInfo} {z:Value} (hi:P.info? e=some i) (hz:i.zero=some z) (hsz:i.size=size) (hby:i.bytes=bytes) (hzs:z.cells.size=size) (hne:size≠0)
  (hf:(wK s.b.length (aH s.t o.dst .top)&&C4 s.b.length s.b)=true)
  (hK:bB P (.appd size bytes ag) [ox.val s.t,oy.val s.t] s.b fun v b=>K ⟨aH s.t o.dst v,b⟩):o.wp P a X.w (aZ G K) Q:=by
 obtain⟨_,rx⟩:=h.opnd hx;obtain⟨_,ry⟩:=h.opnd hy;generalize ox.val s.t=vx at *;generalize oy.val s.t=vy at *;simp only[aY] at hf;obtain⟨hT,hB⟩:=hf;subst hsz;subst hby;simp only[bB] at hK
 cases hap:iG s.b i.size vy with
 |none=>simp[hap] at hK
 |some new=>
  simp only[hap] at hK;obtain⟨news,sh⟩:=CE h ry hap;have hm:∀row,row∈new->∀d,d∈row->∀k,d.ment k=true->k<s.b.length:=fun row hr d hd k hk=>D1 hB hap hr hd hk
  have hexe:∀{v w'},(Builtin.append_ #[t,t] o.type #[a.eval x,a.eval y]).run P X.w=.ok v w'->(execOp a.eval o).run P X.w=.ok (.value v) w':=fun hr=>by simp[execOp,ho,resolve,invoke,builtin,hr]
  have hposi:0<i.size:=Nat.pos_of_ne_zero hne
  cases vx with
  |p z0=>
   cases z0 with
   |sl sz nl rows0=>
    cases nl with
    |true=>
     cases rows0 with
     |nil=>
      simp only at hK;obtain⟨_,k1,k2,k3,k4⟩:=hK
      have ex:a.eval x=.slice none 0 0:=by
       generalize a.eval x=u at rx;have rx':Flat X.M X.w (.sl sz true []) u:=rx;cases rx';rfl
      by_cases hnew:new=[]
      ·obtain⟨b2,c2,ey⟩:∃b2 c2,a.eval y=.slice b2 0 c2:=by
        rcases sh.form with ⟨_,hf⟩|⟨b,o',cap,ey,_⟩
        ·exact hf
        ·subst hnew;exact⟨_,_,ey⟩
       have:=fT (P:=P) (ty:=o.type) hu hi none 0 0 (Nat.le_refl _) b2 c2 X.w;exact bC (z:=.sl i.size true []) h (hexe (by rw[ex,ey];exact this)) (.nilsl _) (k3 hnew)
      ·rcases sh.form with ⟨e0,_⟩|⟨b2,o2,cap2,ey,hcell⟩
       ·exact absurd e0 hnew
       ·have hpos2:0<new.length:=List.length_pos_iff.2 hnew
        have hm63:new.length<=9223372036854775807:=by simpa [maxLen] using k2
        have hr:=run_append_nil (P:=P) X.w t o.type e i z hu hi hz ⟨b2,o2,none⟩ new.length cap2 news sh.len (fun j u hj=>by rw[Addr.add_lit];exact hcell j u hj) hpos2 (by omega) (by omega)
        have hge:=grownCap_ge X.w new.length 0 e;have hcm:=grownCap_le_maxLen X.w new.length 0 e k2;refine yD (K:=K) h hT hB hne (NewBlock.drew X.w _ e) sh.width sh.len ?_ hge hcm sh.cells hm (hexe (by rw[ex,ey];exact hr)) (fun j bx hj=>hj) (k4 hnew)
        rw[size_zeroCells,hzs,sh.len, <-Nat.add_mul];exact Nat.mul_le_mul_right _ (by omega)
     |cons _ _=>simp at hK
    |false=>cases rows0<;>simp at hK
   |_=>simp at hK
  |bs k sz ag' lo n=>
   simp only at hK
   cases hbk:bF s.b k with
   |none=>simp[hbk] at hK
   |some bx=>
    simp only[hbk] at hK;obtain⟨hlive,rfl,c3,rfl,rfl,k1,k2,hK⟩:=hK;have hbk':=b8 hbk;obtain⟨blk,cap,e1,e2,e3,⟨cs0,ty0,g1,g2⟩,e4⟩:=rx;obtain⟨blk',cs,ty,hb⟩:=h.cbox hbk' (bG hbk);have:blk'=blk:=by have:=hb.ρ;rw[e1] at this;injection this with h;exact h.symm
    subst this;rw[hb.heap] at g1;injection g1 with g1
    injection g1 with g1 g1'
    subst g1;rw[Nat.zero_add] at g2;rw[Nat.zero_mul] at e4;have hbne:=bG hbk;have hnr:(aW bx.rows).length=bx.rows.length:=by simp[bJ]
    have hold0:=hb.shows hbne cap
    by_cases hnew:new=[]
    ·subst hnew
     obtain⟨b2,c2,ey⟩:∃b2 c2,a.eval y=.slice b2 0 c2:=by
      rcases sh.form with ⟨_,hf⟩|⟨b,o',cap,ey,_⟩
      ·exact hf
      ·exact⟨_,_,ey⟩
     have hr:=fT (P:=P) (ty:=o.type) hu hi (some ⟨blk',0,none⟩) bx.rows.length cap e2 b2 c2 X.w;rw[<-c3] at hK g2
     refine AR (K:=K) h hT hB hbk' hlive hbne hb hb.heap (fun _ _=>rfl) rfl rfl rfl rfl rfl (new:=[]) (news:=[]) (fun _ _=>rfl) (fun j u hj=>by simp at hj) (fun row hr=>by simp at hr) (by simp) (fun i j row d hr=>by simp at hr)
      (fun row hr=>by simp at hr) (by simpa using e2) e3 g2 (hexe (by rw[e4,ey];exact hr)) hK
    ·rcases sh.form with ⟨e0,_⟩|⟨b2,o2,cap2,ey,hcell⟩
     ·exact absurd e0 hnew
     ·have hpos2:0<new.length:=List.length_pos_iff.2 hnew
      have hm63:bx.rows.length+new.length<=9223372036854775807:=by simpa [maxLen] using k2
      by_cases hroom:bx.rows.length+new.length<=cap
      ·have hfit:bx.rows.length*i.size+news.length<=cs.size:=by rw[sh.len, <-Nat.add_mul];exact Nat.le_trans (Nat.mul_le_mul_right _ hroom) g2
       have hr:=iV (P:=P) (ty:=o.type) hu hi X.w blk' bx.rows.length cap cs hb.heap ⟨b2,o2,none⟩ new.length cap2 news sh.len (fun j u hj=>by rw[Addr.add_lit];exact hcell j u hj) sh.one hroom hfit
       generalize hnewc:(cs.toList.take (bx.rows.length*i.size)++news++cs.toList.drop (bx.rows.length*i.size+news.length)).toArray=cs' at *
       have hget:∀j,cs'[j]?=if bx.rows.length*i.size<=j/\j<bx.rows.length*i.size+news.length then news[j-bx.rows.length*i.size]? else cs[j]?:=by
        intro j;rw[<-hnewc];exact nD cs _ news j hfit
       have hcs':cs'.size=cs.size:=by rw[<-hnewc];simp;omega
       have hheap:(X.w.setRow blk' cs').heap[blk']?=some (.cells cs' ty (0,0)):=setRow_heap _ _ cs cs' ty (0,0) hb.heap;rw[<-c3] at hK g2 sh hget
       refine AR (K:=K) h hT hB hbk' hlive hbne hb hheap (fun b hb=>setRow_other _ _ _ _ hb) rfl rfl rfl (by simp[World.setRow]) hcs' (new:=new) (news:=news) (fun j hj=>?_) (fun j u hj=>?_) sh.width sh.len sh.cells
        hm hroom e3 g2 (hexe (by rw[e4,ey];exact hr)) hK
       ·rw[hget,if_neg (by omega)]
       ·have:=(bM.1 hj).1
        rw[hget,if_pos (by omega),show bx.rows.length*bx.size+j-bx.rows.length*bx.size=j by omega];exact hj
      ·have hlo:(cs.toList.take (bx.rows.length*bx.size)).length=bx.rows.length*i.size:=by rw[hold0.len,hnr,c3]
       have hr:=run_append_grow (P:=P) X.w t o.type e i z hu hi hz ⟨blk',0,none⟩ bx.rows.length cap (cs.toList.take (bx.rows.length*bx.size)) hlo (fun j u hj=>by
        rcases hold0.form with ⟨e0,_⟩|⟨b3,o3,cap3,e5,hc3⟩
        ·rw[e0] at hnr
         have:=(bM.1 hj).1;rw[hlo] at this;simp at hnr;rw[<-hnr] at this;simp at this
        ·injection e5 with e5 e6 e7
         injection e5 with e5
         injection e5 with e5 e8
         subst e5;subst e8;rw[Addr.add_lit];exact hc3 j u hj) ⟨b2,o2,none⟩ new.length cap2 news sh.len (fun j u hj=>by rw[Addr.add_lit];exact hcell j u hj) (by omega) (by omega) (growslice_fits (by omega) k1)
       have hge:=grownCap_ge X.w (bx.rows.length+new.length) cap e;have hcm:=grownCap_le_maxLen X.w (bx.rows.length+new.length) cap e k2;have hkl:k<s.b.length:=(bM.1 hbk').1;rw[c3] at hold0
       refine yD (K:=K) h hT hB hne (rows:=aW bx.rows++new) (vs:=cs.toList.take (bx.rows.length*bx.size)++news) (rest:=Builtin.zeroCells z.cells (grownCap X.w (bx.rows.length+new.length) cap e-(bx.rows.length+new.length)))
        (cap:=grownCap X.w (bx.rows.length+new.length) cap e) (ag:=ag) (ty:=e) (w':=X.w.drew.alloc (.cells ((cs.toList.take (bx.rows.length*bx.size)).toArray++news.toArray++Builtin.zeroCells z.cells (grownCap X.w (bx.rows.length+new.length) cap e-(bx.rows.length+new.length))) e))
        ?_ ?_ ?_ ?_ ?_ hcm ?_ ?_ (hexe ?_) (b':=aF s.b k none++[some ⟨true,i.size,aW bx.rows++new,false⟩]) (fun j bx' hj=>?_) ?_
       ·have:=NewBlock.drew X.w ((cs.toList.take (bx.rows.length*bx.size)++news).toArray++Builtin.zeroCells z.cells (grownCap X.w (bx.rows.length+new.length) cap e-(bx.rows.length+new.length))) e
        rw[show (cs.toList.take (bx.rows.length*bx.size)++news).toArray=(cs.toList.take (bx.rows.length*bx.size)).toArray++news.toArray by simp] at this
        rw[show (cs.toList.take (bx.rows.length*bx.size)++news).toArray=(cs.toList.take (bx.rows.length*bx.size)).toArray++news.toArray by simp]
        exact this
       ·intro row hrow
        rcases List.mem_append.1 hrow with hrow|hrow
        ·exact hold0.width row hrow
        ·exact sh.width row hrow
       ·rw[List.length_append,List.length_append,hlo,sh.len,hnr,Nat.add_mul]
       ·rw[List.length_append,hlo,sh.len,size_zeroCells,hzs, <-Nat.add_mul, <-Nat.add_mul]
        exact Nat.mul_le_mul_right _ (by omega)
       ·rw[List.length_append,hnr];exact hge
       ·have:=xE hold0.len hold0.width hold0.cells sh.cells
        rw[c3];exact this
       ·intro row hrow d hd q hq
        rcases List.mem_append.1 hrow with hrow|hrow
        ·rw[bJ] at hrow
         obtain⟨row0,hr0,rfl⟩:=List.mem_map.1 hrow;obtain⟨d0,hd0,rfl⟩:=List.mem_map.1 hd;rw[jA] at hq;exact eR (j3 (mI hB hbk') hr0 hd0) hq
        ·exact hm row hrow d hd q hq
       ·rw[e4,ey,List.length_append,hnr];exact hr
       ·rcases y5 hj with ⟨e9,e10⟩|⟨hlt,hj⟩
        ·rw[aI] at e9
         subst e9;rw[e10];simp
        ·rw[aI] at hlt
         rw[getElem?_setL] at hj
         split at hj
         ·cases hb0:s.b[j]?<;>rw[hb0] at hj<;>simp at hj
         ·rw[List.getElem?_append,if_pos hlt];exact hj
       ·rw[List.length_append,hnr];exact hK
  |_=>simp at hK
theorem s_slx(h:Rel G X s a){size:Nat}{isA:Bool}{t e:TypeId}{x m:Operand}{ox om:O}(hx:OT x ox)(hm:OT m om)(ho:o.op=.slice t x none (some m) none)
  (hu:P.underlying t=some (.slice e)) (hi':TyIs P e size isA)
  (hK:bB P (.slx size) [ox.val s.t,om.val s.t] s.b fun v b=>K ⟨aH s.t o.dst v,b⟩):o.wp P a X.w (aZ G K) Q:=by
 obtain⟨Lx,rx⟩:=h.opnd hx;obtain⟨Lm,rm⟩:=h.opnd hm;generalize ex:ox.val s.t=vx at *;generalize em':om.val s.t=vm at *;have hu':=D3 hu;have he:P.elem t=e:=by rw[hu] at hu';injection hu' with h1;injection h1 with h2;exact h2.symm
 have hsize:∀w,(sizeOf (P.elem t)).run P w=.ok size w:=fun w=>by rw[he];exact hi'.run_sizeOf w
 unfold bB at hK
 split at hK
 all_goals first
  |exact hK.elim
  |(rename_i e1 e2;cases e1;done)
  |(rename_i e2;cases e2;done)
  |skip
 ·rename_i sz0 k' sz ag l n k1 m' e1 e2
  injection e1 with e1
  injection e2 with e2 e3
  injection e3 with e3 _
  subst e1;subst e2;subst e3;obtain⟨rfl,rfl,h0,h1,hK⟩:=hK;have em:=Flat.intv rm
  cases hbk:bF s.b k' with
  |none=>simp[hbk] at hK
  |some bx=>
   simp only[hbk] at hK;obtain⟨_,_,h2,hK⟩:=hK;obtain⟨blk,cap,e1,e2,e3,e5,e4⟩:=rx;obtain⟨blk',cs,ty,hb⟩:=h.cbox (b8 hbk) (bG hbk);have hne0:bx.size≠0:=bG hbk;have h':=h.setBox (.cell (bx:={ bx with rows:=bx.rows.take m'.toNat }) hne0 (hb.cut (n:=m'.toNat) (by omega)))
   have run:(execOp a.eval o).run P X.w=.ok (.value (.slice (some ⟨blk,0,none⟩) m'.toNat cap)) X.w:=by
    simp[execOp,ho,e4,em,run_sliceAt_slice,hu',run_slice_h X.w t _ n cap hu' _ m' h0 (by omega),hsize,sliced,Addr.add_lit]
   exact bI (v:=.bs k' _ ag 0 m'.toNat) h' run (fun _ _=>⟨blk,cap,e1,by omega,e3,by simpa using e5,by simp⟩) hK
 ·rename_i sz0 sz nl rows k1 m' e1 e2
  injection e1 with e1
  injection e2 with e2 e3
  injection e3 with e3 _
  subst e1;subst e2;subst e3;refine s_slc (K:=K) h hx (lo:=none) (hi:=some m) (ys:=[om]) ho hu hi' hm ?_;simp only[List.map_cons,List.map_nil,ex,em',Option.isSome_none,Option.isSome_some,aD];exact⟨hK.1,hK.2.1,hK.2.2.1,hK.2.2.2⟩
end
end Go.Proofs.YtnjphclbpgajpaaGreatDoor.Vc
