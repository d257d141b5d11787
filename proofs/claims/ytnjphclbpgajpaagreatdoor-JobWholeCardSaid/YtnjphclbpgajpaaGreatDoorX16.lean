/- Part of a proof over a Go program: Cbx, Bxo, Csw, Beg3, Beg4, VcNo. No condition. -/
import Derived.Test.YtnjphclbpgajpaaGreatDoorX15
import Derived.Test.YtnjphclbpgajpaaGreatDoorX04
import Derived.Test.YtnjphclbpgajpaaGreatDoorX11
import Derived.Test.YtnjphclbpgajpaaGreatDoorX08
import Derived.Test.YtnjphclbpgajpaaGreatDoorX14
import Derived.Test.YtnjphclbpgajpaaGreatDoorX09
set_option linter.unnecessarySimpa false
set_option linter.unusedSectionVars false
set_option linter.unusedSimpArgs false
set_option linter.unusedVariables false
set_option maxHeartbeats 4000000
set_option maxRecDepth 1000000
namespace Go.Proofs.YtnjphclbpgajpaaGreatDoor.Vc
open Go.Conc Go.RowKit
def iC(cap:Nat)(items:List PV)(old:Bool):Box:=⟨true,1,[[.ob (.ch cap items)]],old⟩
theorem jL{X:Cx}{base k cap:Nat}{items:List PV}{old:Bool}(h:BX X base k (iC cap items old)):∃(blk:Nat) (cs:Array Value) (ty:TypeId) (g sent got:Nat) (buf:Array Value),BoxRel X base k (iC cap items old) blk cs ty /\
  cs[0]?=some (.chan (some g))/\X.own g=some (.cell k 0 0)/\(base<=g\/∃j,X.ex j=some g)/\X.w.heap[g]?=some (.chan cap buf false sent got false)/\(∀o,X.M g o)/\buf.size=items.length /\
  ∀(i:Nat) x u,items[i]?=some x->buf[i]?=some u->Flat X.M X.w x u:=by
 unfold BX at h;rw[if_neg (by simp[iC])] at h
 obtain⟨blk,cs,ty,hb⟩:=h;have hs:1<=cs.size:=by have:=hb.size;simp[iC] at this;exact this
 have h0:cs[0]?=some cs[0]:=by simp
 have hc:=(hb.cells 0 0 [.ob (.ch cap items)] (.ob (.ch cap items)) cs[0] rfl rfl (by simpa [iC] using h0)).1
 have hc:ObRel X base (.cell k 0 0) (.ch cap items) cs[0]:=hc;generalize cs[0]=u at *
 cases hc with
 |ch _ _ g _ sent got buf h1 h2 h3 h4 h5 h6=>exact⟨blk,cs,ty,g,sent,got,buf,hb,h0,h1,h2,h3,h4,h5,h6⟩
theorem jQ{X:Cx}{base k cap:Nat}{items:List PV}{old:Bool}{blk:Nat}{cs:Array Value}{ty:TypeId}{g:Nat}(hb:BoxRel X base k (iC cap items old) blk cs ty)(h0:cs[0]?=some (.chan (some g))):X.w.cell? ⟨blk,0,none⟩=some (.chan (some g)):=by
 simp only[World.cell?];rw[hb.heap];exact h0
theorem gC{X:Cx}{cap:Nat}{items items':List PV}(hh:Hand X [iC cap items true]){blk:Nat}{cs:Array Value}{ty:TypeId}{g sent got sent' got':Nat}{buf buf':Array Value}(hb:BoxRel X X.w.heap.size 0 (iC cap items true) blk cs ty)
  (h0:cs[0]?=some (.chan (some g))) (h1:X.own g=some (.cell 0 0 0)) (h2:X.w.heap.size<=g\/∃j,X.ex j=some g) (h3:X.w.heap[g]?=some (.chan cap buf false sent got false)) (h4:∀o,X.M g o)
  (h5:buf'.size=items'.length) (h6:∀(i:Nat) x u,items'[i]?=some x->buf'[i]?=some u->Flat X.M X.w x u) {w':World} (ht:ChTurn X.w w' g (.chan cap buf' false sent' got' false)) {r:DV} {v:Value}
  (hr:Keeps X.M X.w X.M w'->VRel { X with w:=w' } X.w.heap.size (.tmp 0) r v):Back X { X with w:=w' } 1 [some (iC cap items' true)] r v:=by
 have hgl:g<X.w.heap.size:=(Array.getElem?_eq_some_iff.1 h3).1;have hex:∃j,X.ex j=some g:=h2.resolve_left (by omega)
 have hne:blk≠g:=fun e=>by have:=hb.heap;rw[e,h3] at this;injection this with this;cases this
 have hbl:blk<X.w.heap.size:=(Array.getElem?_eq_some_iff.1 hb.heap).1
 have hk:Keeps X.M X.w X.M w':=fun b o u hM hc=>by
  have hlt:=World.block_lt_of_cell? _ _ hc;have hbg:b≠g:=fun e=>by subst e;exact hM (h4 o)
  exact⟨(World.cell?_of_block (w:=X.w) (ht.other b hlt hbg)).trans hc,hM⟩
 refine⟨rfl,hr hk,fun i bx hi=>?_,fun _ _=>rfl,fun _ _ _ _=>Iff.rfl,⟨ht.os,ht.tape,ht.output,ht.size,fun q hq hx=>ht.other q hq (fun e=>?_),fun q hq=>?_⟩⟩
 ·match i,hi with
  |0,hi=>
   simp only[List.getElem?_cons_zero,bQ] at hi;subst hi;refine⟨rfl,?_⟩;unfold BX;rw[if_neg (by simp[iC])]
   refine⟨blk,cs,ty,hb.ρ,hb.own,hb.hbase,(ht.other blk hbl hne).trans hb.heap,by have:=hb.size;simpa [iC] using this,fun row hrow=>?_,fun r0 o0 row d u hrow hd hu=>?_,fun _=>hb.live rfl,fun h=>by cases h⟩
   ·simp[iC] at hrow;subst hrow;rfl
   ·match r0,hrow with
    |0,hrow=>
     simp only[iC,List.getElem?_cons_zero,bQ] at hrow;subst hrow
     match o0,hd with
     |0,hd=>
      simp only[List.getElem?_cons_zero,bQ] at hd;subst hd;have hu':cs[0]?=some u:=by simpa [iC] using hu
      rw[h0] at hu';injection hu' with hu'
      subst hu';exact⟨.ch _ _ g cap sent' got' buf' h1 h2 ht.at_ h4 h5 fun i x u hx hu=>(h6 i x u hx hu).mono hk,rfl⟩
     |o0+1,hd=>simp at hd
    |r0+1,hrow=>simp[iC] at hrow
  |i+1,hi=>simp at hi
 ·obtain⟨j,hj⟩:=hex
  exact hx j (by rw[e];exact hj)
 ·intro cs' ty' hq'
  have hqg:q≠g:=fun e=>by subst e;rw[h3] at hq';injection hq' with hq';cases hq'
  exact⟨cs',ty',(ht.other q hq hqg).trans hq',rfl⟩
theorem ChTurn.same{w:World}{g:Nat}{o:Obj}(h:w.heap[g]?=some o):ChTurn w w g o:=⟨rfl,rfl,rfl,Nat.le_refl _,h,fun _ _ _=>rfl⟩
theorem O2{cargs:Array Value}(h:cargs.size=2):∃a b,cargs = #[a,b]:=by
 obtain⟨l⟩:=cargs
 match l,h with
 |[a,b],_=>exact⟨a,b,rfl⟩
theorem vB{cargs:Array Value}(h:cargs.size=1):∃a,cargs = #[a]:=by
 obtain⟨l⟩:=cargs
 match l,h with
 |[a],_=>exact⟨a,rfl⟩
theorem ON(cap:Nat)(items:List PV)(n:Int):aM Tryz.prog 119 [.addr 0 1 0 0,.p (.int .i64 n)] [iC cap items true]
  [some (iC cap (bif Nat.blt items.length cap then items++[.int .i64 n] else items) true)] (.p (.bool (Nat.blt items.length cap))):=by
 refine⟨⟨_,Tryz.func119,rfl,by decide⟩,.inl rfl,Nat.le_refl _,fun X cargs hl hh ha=>?_⟩
 obtain⟨v0,v1,rfl⟩:=O2 hl;obtain⟨blk,cs,ty,g,sent,got,buf,hb,h0,h1,h2,h3,h4,h5,h6⟩:=jL (hh.boxes 0 _ rfl);obtain⟨blk',e1,e2⟩:∃blk',X.ρ 0=some blk'/\v0=.pointer (some ⟨blk',0*1+0,none⟩):=ha 0 _ _ rfl rfl;have:blk'=blk:=by have:=hb.ρ;rw[e1] at this;injection this
 subst this;have e3:v1=.int .i64 n:=Flat.intv (ha 1 _ _ rfl rfl);subst e2;subst e3;have hc:=jQ hb h0
 by_cases hlt:items.length<cap
 ·have hbl:Nat.blt items.length cap=true:=by simpa [Nat.blt_eq] using hlt
  refine(GW n hc h3 (by omega)).mono fun e w' hr=>?_
  obtain⟨rfl,rfl⟩:=hr;refine⟨.bool true,{ X with w:=_ },rfl,rfl,?_⟩
  rw[hbl];refine gC (r:=.p (.bool true)) (v:=.bool true) (items':=items++[.int .i64 n]) (buf':=buf.push (.int .i64 n)) hh hb h0 h1 h2 h3 h4 (by simp[h5]) (fun i x u hx hu=>?_) ((ChTurn.same h3).first (Array.getElem?_eq_some_iff.1 h3).1) fun _=>Flat.bool true
  rw[List.getElem?_append] at hx;rw[Array.getElem?_push] at hu
  by_cases hi:i<items.length
  ·rw[if_pos hi] at hx
   rw[if_neg (by omega)] at hu
   exact h6 i x u hx hu
  ·rw[if_neg hi] at hx
   have h00:i-items.length=0:=by have:=(bM.1 hx).1;simp at this;omega
   rw[h00] at hx;rw[if_pos (by omega)] at hu
   simp only[List.getElem?_cons_zero,bQ] at hx hu;subst hx;subst hu;exact .int _ _
 ·have hbl:Nat.blt items.length cap=false:=by
   cases h:Nat.blt items.length cap with
   |false=>rfl
   |true=>exact absurd (by simpa [Nat.blt_eq] using h) hlt
  refine(GD n hc h3 (by omega)).mono fun e w' hr=>?_
  obtain⟨rfl,rfl⟩:=hr;refine⟨.bool false,{ X with w:=_ },rfl,rfl,?_⟩
  rw[hbl];exact gC (r:=.p (.bool false)) (v:=.bool false) (items':=items) (buf':=buf) hh hb h0 h1 h2 h3 h4 h5 h6 (ChTurn.same h3) fun _=>Flat.bool false
theorem NQ{M:Nat->Nat->Prop}{w:World}{a0 a1 a2 a3 a4:Int}{v:Value}(h:Flat M w (.agg [.int .i64 a0,.int .i64 a1,.int .i64 a2,.int .i64 a3,.int .i64 a4]) v):v=.agg #[.int .i64 a0,.int .i64 a1,.int .i64 a2,.int .i64 a3,.int .i64 a4]:=by
 cases h with
 |agg _ vs hl h1 hc=>
  obtain⟨l⟩:=vs
  match l,hl with
  |[b0,b1,b2,b3,b4],_=>
   have e0:=Flat.intv (hc 0 _ b0 rfl rfl);have e1:=Flat.intv (hc 1 _ b1 rfl rfl);have e2:=Flat.intv (hc 2 _ b2 rfl rfl);have e3:=Flat.intv (hc 3 _ b3 rfl rfl);have e4:=Flat.intv (hc 4 _ b4 rfl rfl);rw[e0,e1,e2,e3,e4]
theorem tB{M:Nat->Nat->Prop}{w:World}(a0 a1 a2 a3 a4:Int):Flat M w (.agg [.int .i64 a0,.int .i64 a1,.int .i64 a2,.int .i64 a3,.int .i64 a4]) (.agg #[.int .i64 a0,.int .i64 a1,.int .i64 a2,.int .i64 a3,.int .i64 a4]):=by
 refine .agg _ _ rfl (fun c hc=>?_) fun i c u hc hu=>?_
 ·simp at hc;rcases hc with rfl|rfl|rfl|rfl|rfl<;>rfl
 ·match i,hc,hu with
  |0,hc,hu=>simp at hc hu;subst hc;subst hu;exact .int _ _
  |1,hc,hu=>simp at hc hu;subst hc;subst hu;exact .int _ _
  |2,hc,hu=>simp at hc hu;subst hc;subst hu;exact .int _ _
  |3,hc,hu=>simp at hc hu;subst hc;subst hu;exact .int _ _
  |4,hc,hu=>simp at hc hu;subst hc;subst hu;exact .int _ _
  |i+5,hc,hu=>simp at hc
theorem P3(cap:Nat)(items:List PV)(a0 a1 a2 a3 a4:Int):aM Tryz.prog 62 [.addr 0 1 0 0,.p (.agg [.int .i64 a0,.int .i64 a1,.int .i64 a2,.int .i64 a3,.int .i64 a4])] [iC cap items true]
  [some (iC cap (bif Nat.blt items.length cap then items++[.agg [.int .i64 a0,.int .i64 a1,.int .i64 a2,.int .i64 a3,.int .i64 a4]] else items) true)] (.p (.bool (Nat.blt items.length cap))):=by
 refine⟨⟨_,Tryz.func62,rfl,by decide⟩,.inl rfl,Nat.le_refl _,fun X cargs hl hh ha=>?_⟩
 obtain⟨v0,v1,rfl⟩:=O2 hl;obtain⟨blk,cs,ty,g,sent,got,buf,hb,h0,h1,h2,h3,h4,h5,h6⟩:=jL (hh.boxes 0 _ rfl);obtain⟨blk',e1,e2⟩:∃blk',X.ρ 0=some blk'/\v0=.pointer (some ⟨blk',0*1+0,none⟩):=ha 0 _ _ rfl rfl;have:blk'=blk:=by have:=hb.ρ;rw[e1] at this;injection this
 subst this;have e3:=NQ (ha 1 _ _ rfl rfl);subst e2;subst e3;have hc:=jQ hb h0;have hal:∀cs ty,ChTurn X.w (X.w.alloc (.cells cs ty (0,0))) g (.chan cap buf false sent got false):=fun cs ty=>(ChTurn.same h3).alloc _
 by_cases hlt:items.length<cap
 ·have hbl:Nat.blt items.length cap=true:=by simpa [Nat.blt_eq] using hlt
  refine(G1 a0 a1 a2 a3 a4 hc h3 (by omega)).mono fun e w' hr=>?_
  obtain⟨rfl,rfl⟩:=hr;refine⟨.bool true,{ X with w:=_ },rfl,rfl,?_⟩
  rw[hbl];refine gC (r:=.p (.bool true)) (v:=.bool true) (items':=items++[.agg [.int .i64 a0,.int .i64 a1,.int .i64 a2,.int .i64 a3,.int .i64 a4]]) (buf':=buf.push (.agg #[.int .i64 a0,.int .i64 a1,.int .i64 a2,.int .i64 a3,.int .i64 a4])) hh hb h0 h1 h2 h3 h4 (by simp[h5]) (fun i x u hx hu=>?_) ((hal _ _).first (Array.getElem?_eq_some_iff.1 (hal _ _).at_).1) fun _=>Flat.bool true
  rw[List.getElem?_append] at hx;rw[Array.getElem?_push] at hu
  by_cases hi:i<items.length
  ·rw[if_pos hi] at hx
   rw[if_neg (by omega)] at hu
   exact h6 i x u hx hu
  ·rw[if_neg hi] at hx
   have h00:i-items.length=0:=by have:=(bM.1 hx).1;simp at this;omega
   rw[h00] at hx;rw[if_pos (by omega)] at hu
   simp only[List.getElem?_cons_zero,bQ] at hx hu;subst hx;subst hu;exact tB _ _ _ _ _
 ·have hbl:Nat.blt items.length cap=false:=by
   cases h:Nat.blt items.length cap with
   |false=>rfl
   |true=>exact absurd (by simpa [Nat.blt_eq] using h) hlt
  refine(GG a0 a1 a2 a3 a4 hc h3 (by omega)).mono fun e w' hr=>?_
  obtain⟨rfl,rfl⟩:=hr;refine⟨.bool false,{ X with w:=_ },rfl,rfl,?_⟩
  rw[hbl];exact gC (r:=.p (.bool false)) (v:=.bool false) (items':=items) (buf':=buf) hh hb h0 h1 h2 h3 h4 h5 h6 (hal _ _) fun _=>Flat.bool false
theorem NG{X:Cx}{base:Nat}{L:Loc}{x:PV}{b:Bool}{u:Value}(h:Flat X.M X.w x u):VRel X base L (.tup [.p x,.p (.bool b)]) (.tuple #[u,.bool b]):=by
 refine⟨#[u,.bool b],rfl,rfl,fun j d v hd hv=>?_⟩
 match j,hd,hv with
 |0,hd,hv=>simp at hd hv;subst hd;subst hv;exact h
 |1,hd,hv=>simp at hd hv;subst hd;subst hv;exact Flat.bool b
 |j+2,hd,hv=>simp at hd
theorem BQ{M:Nat->Nat->Prop}{w:World}{x:PV}{items:List PV}{buf:Array Value}(h5:buf.size=(x ::items).length)(h6:∀(i:Nat) y u,(x ::items)[i]?=some y->buf[i]?=some u->Flat M w y u) :
  (buf.extract 1 buf.size).size=items.length/\∀(i:Nat) y u,items[i]?=some y->(buf.extract 1 buf.size)[i]?=some u->Flat M w y u:=by
 refine⟨by simp at h5 ⊢;omega,fun i y u hy hu=>?_⟩
 refine h6 (i+1) y u (by simpa using hy) ?_
 rw[Array.getElem?_extract] at hu
 split at hu
 ·rw[Nat.add_comm];exact hu
 ·cases hu
theorem xQ(cap:Nat)(x:PV)(items:List PV):aM Tryz.prog 165 [.addr 0 1 0 0] [iC cap (x ::items) true] [some (iC cap items true)] (.tup [.p x,.p (.bool true)]):=by
 refine⟨⟨_,Tryz.func165,rfl,by decide⟩,.inl rfl,Nat.le_refl _,fun X cargs hl hh ha=>?_⟩
 obtain⟨v0,rfl⟩:=vB hl;obtain⟨blk,cs,ty,g,sent,got,buf,hb,h0,h1,h2,h3,h4,h5,h6⟩:=jL (hh.boxes 0 _ rfl);obtain⟨blk',e1,e2⟩:∃blk',X.ρ 0=some blk'/\v0=.pointer (some ⟨blk',0*1+0,none⟩):=ha 0 _ _ rfl rfl;have:blk'=blk:=by have:=hb.ρ;rw[e1] at this;injection this
 subst this;subst e2;have hc:=jQ hb h0;have hp:0<buf.size:=by rw[h5];simp
 have hb0:buf[0]?=some buf[0]:=by simp
 have hf:=h6 0 _ _ rfl hb0;refine(DD hc h3 hp hb0).mono fun e w' hr=>?_
 obtain⟨rfl,rfl⟩:=hr;generalize buf[0]=u at *;obtain⟨k1,k2⟩:=BQ h5 h6;refine⟨.tuple #[u,.bool true],{ X with w:=_ },rfl,rfl,?_⟩
 exact gC (r:=.tup [.p x,.p (.bool true)]) hh hb h0 h1 h2 h3 h4 k1 k2 ((ChTurn.same h3).first (Array.getElem?_eq_some_iff.1 h3).1) fun hk=>NG (hf.mono hk)
theorem yV(cap:Nat):aM Tryz.prog 165 [.addr 0 1 0 0] [iC cap [] true] [some (iC cap [] true)] (.tup [.p (.int .i64 0),.p (.bool false)]):=by
 refine⟨⟨_,Tryz.func165,rfl,by decide⟩,.inl rfl,Nat.le_refl _,fun X cargs hl hh ha=>?_⟩
 obtain⟨v0,rfl⟩:=vB hl;obtain⟨blk,cs,ty,g,sent,got,buf,hb,h0,h1,h2,h3,h4,h5,h6⟩:=jL (hh.boxes 0 _ rfl);obtain⟨blk',e1,e2⟩:∃blk',X.ρ 0=some blk'/\v0=.pointer (some ⟨blk',0*1+0,none⟩):=ha 0 _ _ rfl rfl;have:blk'=blk:=by have:=hb.ρ;rw[e1] at this;injection this
 subst this;subst e2;have hc:=jQ hb h0;have hb0:buf = #[]:=Array.eq_empty_of_size_eq_zero (by simpa using h5)
 subst hb0;refine(EC hc h3).mono fun e w' hr=>?_
 obtain⟨rfl,rfl⟩:=hr;refine⟨_,{ X with w:=_ },rfl,rfl,?_⟩
 exact gC (r:=.tup [.p (.int .i64 0),.p (.bool false)]) hh hb h0 h1 h2 h3 h4 h5 h6 (ChTurn.same h3) fun hk=>NG (.int _ _)
theorem zQ(cap:Nat)(a0 a1 a2 a3 a4:Int)(items:List PV):aM Tryz.prog 90 [.addr 0 1 0 0] [iC cap ((.agg [.int .i64 a0,.int .i64 a1,.int .i64 a2,.int .i64 a3,.int .i64 a4]) ::items) true] [some (iC cap items true)] (.tup [.p (.agg [.int .i64 a0,.int .i64 a1,.int .i64 a2,.int .i64 a3,.int .i64 a4]),.p (.bool true)]):=by
 refine⟨⟨_,Tryz.func90,rfl,by decide⟩,.inl rfl,Nat.le_refl _,fun X cargs hl hh ha=>?_⟩
 obtain⟨v0,rfl⟩:=vB hl;obtain⟨blk,cs,ty,g,sent,got,buf,hb,h0,h1,h2,h3,h4,h5,h6⟩:=jL (hh.boxes 0 _ rfl);obtain⟨blk',e1,e2⟩:∃blk',X.ρ 0=some blk'/\v0=.pointer (some ⟨blk',0*1+0,none⟩):=ha 0 _ _ rfl rfl;have:blk'=blk:=by have:=hb.ρ;rw[e1] at this;injection this
 subst this;subst e2;have hc:=jQ hb h0;have hp:0<buf.size:=by rw[h5];simp
 have hb0:buf[0]?=some buf[0]:=by simp
 have hf:=h6 0 _ _ rfl hb0;rw[NQ hf] at hb0;refine(D7 hc h3 a0 a1 a2 a3 a4 hp hb0).mono fun e w' hr=>?_
 obtain⟨rfl,ht⟩:=hr;obtain⟨k1,k2⟩:=BQ h5 h6;refine⟨_,{ X with w:=w' },rfl,rfl,?_⟩
 refine gC (r:=.tup [.p (.agg [.int .i64 a0,.int .i64 a1,.int .i64 a2,.int .i64 a3,.int .i64 a4]),.p (.bool true)]) hh hb h0 h1 h2 h3 h4 k1 k2 (by simpa using ht) fun hk=>NG (tB _ _ _ _ _)
theorem y9(cap:Nat):aM Tryz.prog 90 [.addr 0 1 0 0] [iC cap [] true] [some (iC cap [] true)] (.tup [.p (.agg [.int .i64 0,.int .i64 0,.int .i64 0,.int .i64 0,.int .i64 0]),.p (.bool false)]):=by
 refine⟨⟨_,Tryz.func90,rfl,by decide⟩,.inl rfl,Nat.le_refl _,fun X cargs hl hh ha=>?_⟩
 obtain⟨v0,rfl⟩:=vB hl;obtain⟨blk,cs,ty,g,sent,got,buf,hb,h0,h1,h2,h3,h4,h5,h6⟩:=jL (hh.boxes 0 _ rfl);obtain⟨blk',e1,e2⟩:∃blk',X.ρ 0=some blk'/\v0=.pointer (some ⟨blk',0*1+0,none⟩):=ha 0 _ _ rfl rfl;have:blk'=blk:=by have:=hb.ρ;rw[e1] at this;injection this
 subst this;subst e2;have hc:=jQ hb h0;have hb0:buf = #[]:=Array.eq_empty_of_size_eq_zero (by simpa using h5)
 subst hb0;refine(DI hc h3).mono fun e w' hr=>?_
 obtain⟨rfl,ht⟩:=hr;refine⟨_,{ X with w:=w' },rfl,rfl,?_⟩
 exact gC (r:=.tup [.p (.agg [.int .i64 0,.int .i64 0,.int .i64 0,.int .i64 0,.int .i64 0]),.p (.bool false)]) hh hb h0 h1 h2 h3 h4 h5 h6 ht fun hk=>NG (tB _ _ _ _ _)
theorem PY(cap:Nat)(items:List PV):aM Tryz.prog 124 [.addr 0 1 0 0] [iC cap items true] [some (iC cap items true)] (.p (.int .i64 items.length)):=by
 refine⟨⟨_,Tryz.func124,rfl,by decide⟩,.inl rfl,Nat.le_refl _,fun X cargs hl hh ha=>?_⟩
 obtain⟨v0,rfl⟩:=vB hl;obtain⟨blk,cs,ty,g,sent,got,buf,hb,h0,h1,h2,h3,h4,h5,h6⟩:=jL (hh.boxes 0 _ rfl);obtain⟨blk',e1,e2⟩:∃blk',X.ρ 0=some blk'/\v0=.pointer (some ⟨blk',0*1+0,none⟩):=ha 0 _ _ rfl rfl;have:blk'=blk:=by have:=hb.ρ;rw[e1] at this;injection this
 subst this;subst e2;have hc:=jQ hb h0;refine(MW hc h3).mono fun e w' hr=>?_
 obtain⟨rfl,rfl⟩:=hr;refine⟨_,{ X with w:=_ },rfl,rfl,?_⟩
 refine gC (r:=.p (.int .i64 items.length)) hh hb h0 h1 h2 h3 h4 h5 h6 (ChTurn.same h3) fun _=>?_
 rw[h5];exact Flat.int _ _
def zE(X:Cx)(k:Nat)(st:TypeId):Cx :=
 {ρ := fun i => if i = 0 then some (X.w.heap.size + 1) else X.ρ i
  own:=fun g=>if g=X.w.heap.size+1 then some (.box 0) else if g=X.w.heap.size then some (.cell 0 0 0) else X.own g
  M:=fun b o=>b=X.w.heap.size\/b=X.w.heap.size+1\/X.M b o
  w:=(X.w.alloc (.chan k #[] false 0 0 false)).alloc (.cells #[.chan (some X.w.heap.size)] st (0,0))
  ex:=X.ex }
theorem wT{X:Cx}(k:Nat)(st:TypeId):Back X (zE X k st) 0 [some (iC k [] false)] (.addr 0 1 0 0) (.pointer (some ⟨X.w.heap.size+1,0,none⟩)):=by
 have hb:(zE X k st).w.heap[X.w.heap.size+1]?=some (.cells #[.chan (some X.w.heap.size)] st (0,0)):=by
  have:=heap_alloc_new (X.w.alloc (.chan k #[] false 0 0 false)) (.cells #[.chan (some X.w.heap.size)] st (0,0));rw[World.size_alloc] at this;exact this
 have hg:(zE X k st).w.heap[X.w.heap.size]?=some (.chan k #[] false 0 0 false):=(Below.heap_alloc _ _ _ (by simp)).trans (heap_alloc_new _ _)
 have hlow:∀q,q<X.w.heap.size->(zE X k st).w.heap[q]?=X.w.heap[q]?:=fun q hq=>(Below.heap_alloc _ _ _ (by simp;omega)).trans (Below.heap_alloc _ _ _ hq)
 refine⟨rfl,⟨X.w.heap.size+1,rfl,rfl⟩,fun i bx hi=>?_,fun i hi=>by omega,fun b hb _ o=>?_,⟨rfl,rfl,rfl,by simp[zE];omega,fun q hq _=>hlow q hq,fun q hq=>.of (hlow q hq)⟩⟩
 ·match i,hi with
  |0,hi=>
   simp only[List.getElem?_cons_zero,bQ] at hi;subst hi;refine⟨rfl,?_⟩;unfold BX;rw[if_neg (by simp[iC])]
   refine⟨X.w.heap.size+1,_,_,rfl,by simp[zE],⟨.inl (by omega),fun h=>by cases h⟩,hb,by simp[iC],fun row hrow=>?_,fun r0 o0 row d u hrow hd hu=>?_,fun _ o=>.inr (.inl rfl),fun h=>by cases h⟩
   ·simp[iC] at hrow;subst hrow;rfl
   ·match r0,hrow with
    |0,hrow=>
     simp only[iC,List.getElem?_cons_zero,bQ] at hrow;subst hrow
     match o0,hd with
     |0,hd=>
      simp only[List.getElem?_cons_zero,bQ] at hd;subst hd;have hu':u=.chan (some X.w.heap.size):=by simpa [iC,eq_comm] using hu
      subst hu';exact⟨.ch _ _ X.w.heap.size k 0 0 #[] (by simp[zE]) (.inl (Nat.le_refl _)) hg (fun o=>.inl rfl) rfl fun i x u hx _=>by simp at hx,rfl⟩
     |o0+1,hd=>simp at hd
    |r0+1,hrow=>simp[iC] at hrow
  |i+1,hi=>simp at hi
 ·show (b=X.w.heap.size\/b=X.w.heap.size+1\/X.M b o)↔X.M b o
  exact⟨fun h=>h.elim (fun e=>by omega) fun h=>h.elim (fun e=>by omega) id,fun h=>.inr (.inr h)⟩
theorem SG(k:Nat)(hk:k<=100):aM Tryz.prog 112 [.p (.int .i64 k)] [] [some (iC k [] false)] (.addr 0 1 0 0):=by
 refine⟨⟨_,Tryz.func112,rfl,by decide⟩,.inr rfl,Nat.zero_le _,fun X cargs hl hh ha=>?_⟩
 obtain⟨v0,rfl⟩:=vB hl;have e0:v0=.int .i64 k:=Flat.intv (ha 0 _ _ rfl rfl);subst e0;refine(MG k hk).mono fun e w' hr=>?_
 obtain⟨rfl,rfl⟩:=hr;exact⟨_,zE X k _,rfl,rfl,wT k _⟩
theorem OL(k:Nat)(hk:k<=100):aM Tryz.prog 59 [.p (.int .i64 k)] [] [some (iC k [] false)] (.addr 0 1 0 0):=by
 refine⟨⟨_,Tryz.func59,rfl,by decide⟩,.inr rfl,Nat.zero_le _,fun X cargs hl hh ha=>?_⟩
 obtain⟨v0,rfl⟩:=vB hl;have e0:v0=.int .i64 k:=Flat.intv (ha 0 _ _ rfl rfl);subst e0;refine(MP k hk).mono fun e w' hr=>?_
 obtain⟨rfl,rfl⟩:=hr;exact⟨_,zE X k _,rfl,rfl,wT k _⟩
open Go.RowKit
def EY(args:List DV)(bs:List Box):Option (List (Option Box)×DV) :=
 match args,bs with
 |[.p (.int .i64 k)],[]=>if 0<=k/\k<=100 then some ([some (iC k.toNat [] false)],.addr 0 1 0 0) else none
 |_,_=>none
def O4(args:List DV)(bs:List Box):Option (List (Option Box)×DV) :=
 match args,bs with
 |[.addr 0 1 0 0,.p (.int .i64 n)],[⟨true,1,[[.ob (.ch cap items)]],true⟩]=>some ([some (iC cap (bif Nat.blt items.length cap then items++[.int .i64 n] else items) true)],.p (.bool (Nat.blt items.length cap)))
 |_,_=>none
def O1(args:List DV)(bs:List Box):Option (List (Option Box)×DV) :=
 match args,bs with
 |[.addr 0 1 0 0,.p (.agg [.int .i64 a0,.int .i64 a1,.int .i64 a2,.int .i64 a3,.int .i64 a4])],[⟨true,1,[[.ob (.ch cap items)]],true⟩]=>
  some ([some (iC cap (bif Nat.blt items.length cap then items++[.agg [.int .i64 a0,.int .i64 a1,.int .i64 a2,.int .i64 a3,.int .i64 a4]] else items) true)],.p (.bool (Nat.blt items.length cap)))
 |_,_=>none
def IX(args:List DV)(bs:List Box):Option (List (Option Box)×DV) :=
 match args,bs with
 |[.addr 0 1 0 0],[⟨true,1,[[.ob (.ch cap [])]],true⟩]=>some ([some (iC cap [] true)],.tup [.p (.int .i64 0),.p (.bool false)])
 |[.addr 0 1 0 0],[⟨true,1,[[.ob (.ch cap (x ::items))]],true⟩]=>some ([some (iC cap items true)],.tup [.p x,.p (.bool true)])
 |_,_=>none
def JA(args:List DV)(bs:List Box):Option (List (Option Box)×DV) :=
 match args,bs with
 |[.addr 0 1 0 0],[⟨true,1,[[.ob (.ch cap [])]],true⟩]=>some ([some (iC cap [] true)],.tup [.p (.agg [.int .i64 0,.int .i64 0,.int .i64 0,.int .i64 0,.int .i64 0]),.p (.bool false)])
 |[.addr 0 1 0 0],[⟨true,1,[[.ob (.ch cap (.agg [.int .i64 a0,.int .i64 a1,.int .i64 a2,.int .i64 a3,.int .i64 a4] ::items))]],true⟩]=>some ([some (iC cap items true)],.tup [.p (.agg [.int .i64 a0,.int .i64 a1,.int .i64 a2,.int .i64 a3,.int .i64 a4]),.p (.bool true)])
 |_,_=>none
def NX(args:List DV)(bs:List Box):Option (List (Option Box)×DV) :=
 match args,bs with
 |[.addr 0 1 0 0],[⟨true,1,[[.ob (.ch cap items)]],true⟩]=>some ([some (iC cap items true)],.p (.int .i64 items.length))
 |_,_=>none
def PE(f:FuncId)(args:List DV)(bs:List Box):Option (List (Option Box)×DV) :=
 if f=112 then EY args bs else if f=59 then EY args bs
 else if f=119 then O4 args bs else if f=62 then O1 args bs
 else if f=165 then IX args bs else if f=90 then JA args bs
 else if f=124 then NX args bs else none
theorem LE(f:FuncId)(args:List DV)(bs:List Box)(bs':List (Option Box))(d:DV)(h:PE f args bs=some (bs',d)):aM Tryz.prog f args bs bs' d:=by
 unfold PE at h
 split at h
 ·rename_i e;subst e
  unfold EY at h
  split at h
  ·split at h
   ·rename_i k hk
    simp only[bQ,Prod.mk.injEq] at h;obtain⟨rfl,rfl⟩:=h;have:=SG k.toNat (by omega)
    rw[show ((k.toNat:Nat):Int)=k by omega] at this
    exact this
   ·cases h
  ·cases h
 split at h
 ·rename_i e;subst e
  unfold EY at h
  split at h
  ·split at h
   ·rename_i k hk
    simp only[bQ,Prod.mk.injEq] at h;obtain⟨rfl,rfl⟩:=h;have:=OL k.toNat (by omega)
    rw[show ((k.toNat:Nat):Int)=k by omega] at this
    exact this
   ·cases h
  ·cases h
 split at h
 ·rename_i e;subst e
  unfold O4 at h
  split at h
  ·simp only[bQ,Prod.mk.injEq] at h
   obtain⟨rfl,rfl⟩:=h;exact ON _ _ _
  ·cases h
 split at h
 ·rename_i e;subst e
  unfold O1 at h
  split at h
  ·simp only[bQ,Prod.mk.injEq] at h
   obtain⟨rfl,rfl⟩:=h;exact P3 _ _ _ _ _ _ _
  ·cases h
 split at h
 ·rename_i e;subst e
  unfold IX at h
  split at h
  ·simp only[bQ,Prod.mk.injEq] at h
   obtain⟨rfl,rfl⟩:=h;exact yV _
  ·simp only[bQ,Prod.mk.injEq] at h
   obtain⟨rfl,rfl⟩:=h;exact xQ _ _ _
  ·cases h
 split at h
 ·rename_i e;subst e
  unfold JA at h
  split at h
  ·simp only[bQ,Prod.mk.injEq] at h
   obtain⟨rfl,rfl⟩:=h;exact y9 _
  ·simp only[bQ,Prod.mk.injEq] at h
   obtain⟨rfl,rfl⟩:=h;exact zQ _ _ _ _ _ _ _
  ·cases h
 split at h
 ·rename_i e;subst e
  unfold NX at h
  split at h
  ·simp only[bQ,Prod.mk.injEq] at h
   obtain⟨rfl,rfl⟩:=h;exact PY _ _
  ·cases h
 cases h
open Go.RowKit
theorem BX.forget3{X:Cx}{base k:Nat}{rows:List (List DV)}{live old:Bool}(h:BX X base k ⟨live,0,rows,old⟩):BX X base k ⟨live,0,rows.map fun r=>r.take 2,old⟩:=by
 unfold BX at h ⊢;rw[if_pos rfl] at h ⊢;obtain⟨blk,es,clock,m1,m2,m3,m4,m5,m6,m0,m7⟩:=h;refine⟨blk,es,clock,m1,m2,m3,m4,by simpa using m5,m6,m0,fun i row e hr he=>?_⟩
 rw[List.getElem?_map] at hr
 cases hx:rows[i]? with
 |none=>rw[hx] at hr;simp at hr
 |some r0=>
  rw[hx] at hr;simp only[Option.map_some,bQ] at hr;subst hr;obtain⟨q,n,d,f1,f2,f3⟩:=m7 i r0 e hx he;subst f1;exact⟨q,false,d,rfl,f2,f3⟩
theorem gG{P:Program}{f:FuncId}{args:List DV}{b0 b1 c0 c1:Box}{rows rows':List (List DV)}{r:DV}(hr:r.plain=true)(h2:∀x,x∈rows->two x=true)
  (h:∀ss:List Int,ss.length=rows.length->ss.Nodup->∃rows3,(rows3.map fun r=>r.take 2)=rows'/\aM P f args [b0,b1,⟨true,0,vP rows ss,true⟩] [some c0,some c1,some ⟨true,0,rows3,false⟩] r) :
  aM P f args [b0,b1,⟨true,0,rows,true⟩] [some c0,some c1,some ⟨true,0,rows',false⟩] r:=by
 have hfn:B6 P f:=by
  obtain⟨_,_,h⟩:=h ((List.range rows.length).map fun (n:Nat)=>(n:Int)) (by simp) (by
   rw[List.nodup_iff_pairwise_ne,List.pairwise_map];exact(List.nodup_iff_pairwise_ne.1 List.nodup_range).imp fun h e=>h (by omega))
  exact h.1
 refine⟨hfn,.inl hr,by simp,fun X cargs hl hh ha=>?_⟩
 obtain⟨ss,s1,s2,s3⟩:=(hh.boxes 2 _ rfl).stamps h2;obtain⟨rows3,e,h⟩:=h ss s1 s2;refine(h.2.2.2 X cargs hl ⟨hh.full,fun i bx hi=>?_⟩ ha).mono fun e' w' hq=>?_
 ·match i,hi with
  |0,hi=>exact hh.boxes 0 bx hi
  |1,hi=>exact hh.boxes 1 bx hi
  |2,hi=>simp only[List.getElem?_cons_succ,List.getElem?_cons_zero,bQ] at hi;subst hi;exact s3
  |i+3,hi=>simp at hi
 ·obtain⟨v,X',q1,q2,q3⟩:=hq
  refine⟨v,X',q1,q2,q3.ex,q3.val,fun i bx hi=>?_,q3.rho,q3.mem,q3.below⟩
  match i,hi with
  |0,hi=>exact q3.boxes 0 bx hi
  |1,hi=>exact q3.boxes 1 bx hi
  |2,hi=>
   simp only[List.getElem?_cons_succ,List.getElem?_cons_zero,bQ] at hi;subst hi;obtain⟨g1,g2⟩:=q3.boxes 2 _ rfl;exact⟨rfl,by rw[<-e];exact g2.forget3⟩
  |i+3,hi=>simp at hi
theorem eG(q:Option IntKind)(x:PV)(rows:List (List DV)):f8 q x rows=cX q x rows:=by unfold f8;rfl
theorem fL(s:Int)(d:DV)(rows:List (List DV)):iW s d rows=fW s d rows:=by unfold iW;rfl
theorem KI(room wh a0 b0 w0 x0 a1 b1 w1 x1:Int)(v0 v1:Int)(hv:v0≠v1):aM Tryz.prog 88 [.addr 0 4 0 0,.p (.int .i64 1),.p (.int .i64 0)]
  [⟨true,4,[[.p (.int .i64 room),.bs 1 4 true 0 2,.mh 2,.p (.int .i64 wh)]],true⟩,⟨true,4,[[.p (.int .i64 v0),.p (.int .i64 a0),.p (.int .i64 b0),.p (.int .i64 w0)],[.p (.int .i64 v1),.p (.int .i64 a1),.p (.int .i64 b1),.p (.int .i64 w1)]],true⟩,⟨true,0,[[.p (.int .i64 v0),.p (.int .i64 x0)],[.p (.int .i64 v1),.p (.int .i64 x1)]],true⟩]
  [some ⟨true,4,[[.p (.int .i64 room),.bs 1 4 true 0 2,.mh 2,.p (.int .i64 wh)]],false⟩,some ⟨true,4,[[.p (.int .i64 v1),.p (.int .i64 a1),.p (.int .i64 b1),.p (.int .i64 w1)],[.p (.int .i64 v0),.p (.int .i64 a0),.p (.int .i64 b0),.p (.int .i64 w0)]],false⟩,some ⟨true,0,[[.p (.int .i64 v0),.p (.int .i64 1)],[.p (.int .i64 v1),.p (.int .i64 0)]],false⟩] (.tup []):=by
 refine gG rfl (by simp[two]) fun ss hl hn=>?_
 match ss,hl,hn with
 |[s0,s1],_,hn=>
  have hs:s0≠s1:=by simpa using hn
  have hv':=hv.symm;have hs':=hs.symm;refine⟨[[.p (.int .i64 v0),.p (.int .i64 1),.p (.int .i64 s0)],[.p (.int .i64 v1),.p (.int .i64 0),.p (.int .i64 s1)]],rfl,?_⟩;refine Fn.runO k88 rfl rfl rfl ?_;generalize Tryz.prog=P at *
  (repeat'((conv=>whnf);first|exact trivial|(with_reducible first|refine zX ?_|refine zP ?_|refine zL ?_)|refine⟨rfl,?_⟩|refine⟨_,rfl,?_⟩|refine⟨fun _=>?_,fun _=>?_⟩|refine zn ?_|refine zb rfl ?_|refine zX ?_|refine zo rfl ?_|refine zs ?_|intro _));all_goals(try(conv=>whnf))
  generalize hq:f8 _ _ _=q;obtain rfl:q=some (.int .i64 x0,s0):=by rw[<-hq,eG];exact(by simp[cX,dK,fX,hv,hs,hv',hs']:cX (some .i64) (.int .i64 v0) [[.p (.int .i64 v0),.p (.int .i64 x0),.p (.int .i64 s0)],[.p (.int .i64 v1),.p (.int .i64 x1),.p (.int .i64 s1)]]=some (.int .i64 x0,s0))
  clear hq
  (repeat'((conv=>whnf);first|exact trivial|(with_reducible first|refine zX ?_|refine zP ?_|refine zL ?_)|refine⟨rfl,?_⟩|refine⟨_,rfl,?_⟩|refine⟨fun _=>?_,fun _=>?_⟩|refine zn ?_|refine zb rfl ?_|refine zX ?_|refine zo rfl ?_|refine zs ?_|intro _));all_goals(try(conv=>whnf))
  generalize hq:iW _ _ _=q;obtain rfl:q=some [[.p (.int .i64 v0),.p (.int .i64 1),.p (.int .i64 s0)],[.p (.int .i64 v1),.p (.int .i64 x1),.p (.int .i64 s1)]]:=by rw[<-hq,fL];exact(by simp[fW,hv,hs,hv',hs']:fW s0 (.p (.int .i64 1)) [[.p (.int .i64 v0),.p (.int .i64 x0),.p (.int .i64 s0)],[.p (.int .i64 v1),.p (.int .i64 x1),.p (.int .i64 s1)]]=some [[.p (.int .i64 v0),.p (.int .i64 1),.p (.int .i64 s0)],[.p (.int .i64 v1),.p (.int .i64 x1),.p (.int .i64 s1)]])
  clear hq
  (repeat'((conv=>whnf);first|exact trivial|(with_reducible first|refine zX ?_|refine zP ?_|refine zL ?_)|refine⟨rfl,?_⟩|refine⟨_,rfl,?_⟩|refine⟨fun _=>?_,fun _=>?_⟩|refine zn ?_|refine zb rfl ?_|refine zX ?_|refine zo rfl ?_|refine zs ?_|intro _));all_goals(try(conv=>whnf))
  generalize hq:f8 _ _ _=q;obtain rfl:q=some (.int .i64 x1,s1):=by rw[<-hq,eG];exact(by simp[cX,dK,fX,hv,hs,hv',hs']:cX (some .i64) (.int .i64 v1) [[.p (.int .i64 v0),.p (.int .i64 1),.p (.int .i64 s0)],[.p (.int .i64 v1),.p (.int .i64 x1),.p (.int .i64 s1)]]=some (.int .i64 x1,s1))
  clear hq
  (repeat'((conv=>whnf);first|exact trivial|(with_reducible first|refine zX ?_|refine zP ?_|refine zL ?_)|refine⟨rfl,?_⟩|refine⟨_,rfl,?_⟩|refine⟨fun _=>?_,fun _=>?_⟩|refine zn ?_|refine zb rfl ?_|refine zX ?_|refine zo rfl ?_|refine zs ?_|intro _));all_goals(try(conv=>whnf))
  generalize hq:iW _ _ _=q;obtain rfl:q=some [[.p (.int .i64 v0),.p (.int .i64 1),.p (.int .i64 s0)],[.p (.int .i64 v1),.p (.int .i64 0),.p (.int .i64 s1)]]:=by rw[<-hq,fL];exact(by simp[fW,hv,hs,hv',hs']:fW s1 (.p (.int .i64 0)) [[.p (.int .i64 v0),.p (.int .i64 1),.p (.int .i64 s0)],[.p (.int .i64 v1),.p (.int .i64 x1),.p (.int .i64 s1)]]=some [[.p (.int .i64 v0),.p (.int .i64 1),.p (.int .i64 s0)],[.p (.int .i64 v1),.p (.int .i64 0),.p (.int .i64 s1)]])
  clear hq
  (repeat'((conv=>whnf);first|exact trivial|(with_reducible first|refine zX ?_|refine zP ?_|refine zL ?_)|refine⟨rfl,?_⟩|refine⟨_,rfl,?_⟩|refine⟨fun _=>?_,fun _=>?_⟩|refine zn ?_|refine zb rfl ?_|refine zX ?_|refine zo rfl ?_|refine zs ?_|intro _));all_goals(try(conv=>whnf))
  all_goals rfl
theorem J2(room wh a0 b0 w0 x0 a1 b1 w1 x1:Int)(v0 v1:Int)(hv:v0≠v1):aM Tryz.prog 88 [.addr 0 4 0 0,.p (.int .i64 0),.p (.int .i64 1)]
  [⟨true,4,[[.p (.int .i64 room),.bs 1 4 true 0 2,.mh 2,.p (.int .i64 wh)]],true⟩,⟨true,4,[[.p (.int .i64 v0),.p (.int .i64 a0),.p (.int .i64 b0),.p (.int .i64 w0)],[.p (.int .i64 v1),.p (.int .i64 a1),.p (.int .i64 b1),.p (.int .i64 w1)]],true⟩,⟨true,0,[[.p (.int .i64 v1),.p (.int .i64 x1)],[.p (.int .i64 v0),.p (.int .i64 x0)]],true⟩]
  [some ⟨true,4,[[.p (.int .i64 room),.bs 1 4 true 0 2,.mh 2,.p (.int .i64 wh)]],false⟩,some ⟨true,4,[[.p (.int .i64 v1),.p (.int .i64 a1),.p (.int .i64 b1),.p (.int .i64 w1)],[.p (.int .i64 v0),.p (.int .i64 a0),.p (.int .i64 b0),.p (.int .i64 w0)]],false⟩,some ⟨true,0,[[.p (.int .i64 v1),.p (.int .i64 0)],[.p (.int .i64 v0),.p (.int .i64 1)]],false⟩] (.tup []):=by
 refine gG rfl (by simp[two]) fun ss hl hn=>?_
 match ss,hl,hn with
 |[s0,s1],_,hn=>
  have hs:s0≠s1:=by simpa using hn
  have hv':=hv.symm;have hs':=hs.symm;refine⟨[[.p (.int .i64 v1),.p (.int .i64 0),.p (.int .i64 s0)],[.p (.int .i64 v0),.p (.int .i64 1),.p (.int .i64 s1)]],rfl,?_⟩;refine Fn.runO k88 rfl rfl rfl ?_;generalize Tryz.prog=P at *
  (repeat'((conv=>whnf);first|exact trivial|(with_reducible first|refine zX ?_|refine zP ?_|refine zL ?_)|refine⟨rfl,?_⟩|refine⟨_,rfl,?_⟩|refine⟨fun _=>?_,fun _=>?_⟩|refine zn ?_|refine zb rfl ?_|refine zX ?_|refine zo rfl ?_|refine zs ?_|intro _));all_goals(try(conv=>whnf))
  generalize hq:f8 _ _ _=q;obtain rfl:q=some (.int .i64 x1,s0):=by rw[<-hq,eG];exact(by simp[cX,dK,fX,hv,hs,hv',hs']:cX (some .i64) (.int .i64 v1) [[.p (.int .i64 v1),.p (.int .i64 x1),.p (.int .i64 s0)],[.p (.int .i64 v0),.p (.int .i64 x0),.p (.int .i64 s1)]]=some (.int .i64 x1,s0))
  clear hq
  (repeat'((conv=>whnf);first|exact trivial|(with_reducible first|refine zX ?_|refine zP ?_|refine zL ?_)|refine⟨rfl,?_⟩|refine⟨_,rfl,?_⟩|refine⟨fun _=>?_,fun _=>?_⟩|refine zn ?_|refine zb rfl ?_|refine zX ?_|refine zo rfl ?_|refine zs ?_|intro _));all_goals(try(conv=>whnf))
  generalize hq:iW _ _ _=q;obtain rfl:q=some [[.p (.int .i64 v1),.p (.int .i64 0),.p (.int .i64 s0)],[.p (.int .i64 v0),.p (.int .i64 x0),.p (.int .i64 s1)]]:=by rw[<-hq,fL];exact(by simp[fW,hv,hs,hv',hs']:fW s0 (.p (.int .i64 0)) [[.p (.int .i64 v1),.p (.int .i64 x1),.p (.int .i64 s0)],[.p (.int .i64 v0),.p (.int .i64 x0),.p (.int .i64 s1)]]=some [[.p (.int .i64 v1),.p (.int .i64 0),.p (.int .i64 s0)],[.p (.int .i64 v0),.p (.int .i64 x0),.p (.int .i64 s1)]])
  clear hq
  (repeat'((conv=>whnf);first|exact trivial|(with_reducible first|refine zX ?_|refine zP ?_|refine zL ?_)|refine⟨rfl,?_⟩|refine⟨_,rfl,?_⟩|refine⟨fun _=>?_,fun _=>?_⟩|refine zn ?_|refine zb rfl ?_|refine zX ?_|refine zo rfl ?_|refine zs ?_|intro _));all_goals(try(conv=>whnf))
  generalize hq:f8 _ _ _=q;obtain rfl:q=some (.int .i64 x0,s1):=by rw[<-hq,eG];exact(by simp[cX,dK,fX,hv,hs,hv',hs']:cX (some .i64) (.int .i64 v0) [[.p (.int .i64 v1),.p (.int .i64 0),.p (.int .i64 s0)],[.p (.int .i64 v0),.p (.int .i64 x0),.p (.int .i64 s1)]]=some (.int .i64 x0,s1))
  clear hq
  (repeat'((conv=>whnf);first|exact trivial|(with_reducible first|refine zX ?_|refine zP ?_|refine zL ?_)|refine⟨rfl,?_⟩|refine⟨_,rfl,?_⟩|refine⟨fun _=>?_,fun _=>?_⟩|refine zn ?_|refine zb rfl ?_|refine zX ?_|refine zo rfl ?_|refine zs ?_|intro _));all_goals(try(conv=>whnf))
  generalize hq:iW _ _ _=q;obtain rfl:q=some [[.p (.int .i64 v1),.p (.int .i64 0),.p (.int .i64 s0)],[.p (.int .i64 v0),.p (.int .i64 1),.p (.int .i64 s1)]]:=by rw[<-hq,fL];exact(by simp[fW,hv,hs,hv',hs']:fW s1 (.p (.int .i64 1)) [[.p (.int .i64 v1),.p (.int .i64 0),.p (.int .i64 s0)],[.p (.int .i64 v0),.p (.int .i64 x0),.p (.int .i64 s1)]]=some [[.p (.int .i64 v1),.p (.int .i64 0),.p (.int .i64 s0)],[.p (.int .i64 v0),.p (.int .i64 1),.p (.int .i64 s1)]])
  clear hq
  (repeat'((conv=>whnf);first|exact trivial|(with_reducible first|refine zX ?_|refine zP ?_|refine zL ?_)|refine⟨rfl,?_⟩|refine⟨_,rfl,?_⟩|refine⟨fun _=>?_,fun _=>?_⟩|refine zn ?_|refine zb rfl ?_|refine zX ?_|refine zo rfl ?_|refine zs ?_|intro _));all_goals(try(conv=>whnf))
  all_goals rfl
theorem I4(room wh a0 b0 w0 x0:Int)(v0:Int):aM Tryz.prog 88 [.addr 0 4 0 0,.p (.int .i64 0),.p (.int .i64 0)]
  [⟨true,4,[[.p (.int .i64 room),.bs 1 4 true 0 1,.mh 2,.p (.int .i64 wh)]],true⟩,⟨true,4,[[.p (.int .i64 v0),.p (.int .i64 a0),.p (.int .i64 b0),.p (.int .i64 w0)]],true⟩,⟨true,0,[[.p (.int .i64 v0),.p (.int .i64 x0)]],true⟩]
  [some ⟨true,4,[[.p (.int .i64 room),.bs 1 4 true 0 1,.mh 2,.p (.int .i64 wh)]],false⟩,some ⟨true,4,[[.p (.int .i64 v0),.p (.int .i64 a0),.p (.int .i64 b0),.p (.int .i64 w0)]],false⟩,some ⟨true,0,[[.p (.int .i64 v0),.p (.int .i64 0)]],false⟩] (.tup []):=by
 refine gG rfl (by simp[two]) fun ss hl hn=>?_
 match ss,hl,hn with
 |[s0],_,hn=>
  refine⟨[[.p (.int .i64 v0),.p (.int .i64 0),.p (.int .i64 s0)]],rfl,?_⟩;refine Fn.runO k88 rfl rfl rfl ?_;generalize Tryz.prog=P at *
  (repeat'((conv=>whnf);first|exact trivial|(with_reducible first|refine zX ?_|refine zP ?_|refine zL ?_)|refine⟨rfl,?_⟩|refine⟨_,rfl,?_⟩|refine⟨fun _=>?_,fun _=>?_⟩|refine zn ?_|refine zb rfl ?_|refine zX ?_|refine zo rfl ?_|refine zs ?_|intro _));all_goals(try(conv=>whnf))
  generalize hq:f8 _ _ _=q;obtain rfl:q=some (.int .i64 x0,s0):=by rw[<-hq,eG];exact(by simp[cX,dK,fX]:cX (some .i64) (.int .i64 v0) [[.p (.int .i64 v0),.p (.int .i64 x0),.p (.int .i64 s0)]]=some (.int .i64 x0,s0))
  clear hq
  (repeat'((conv=>whnf);first|exact trivial|(with_reducible first|refine zX ?_|refine zP ?_|refine zL ?_)|refine⟨rfl,?_⟩|refine⟨_,rfl,?_⟩|refine⟨fun _=>?_,fun _=>?_⟩|refine zn ?_|refine zb rfl ?_|refine zX ?_|refine zo rfl ?_|refine zs ?_|intro _));all_goals(try(conv=>whnf))
  generalize hq:iW _ _ _=q;obtain rfl:q=some [[.p (.int .i64 v0),.p (.int .i64 0),.p (.int .i64 s0)]]:=by rw[<-hq,fL];exact(by simp[fW]:fW s0 (.p (.int .i64 0)) [[.p (.int .i64 v0),.p (.int .i64 x0),.p (.int .i64 s0)]]=some [[.p (.int .i64 v0),.p (.int .i64 0),.p (.int .i64 s0)]])
  clear hq
  (repeat'((conv=>whnf);first|exact trivial|(with_reducible first|refine zX ?_|refine zP ?_|refine zL ?_)|refine⟨rfl,?_⟩|refine⟨_,rfl,?_⟩|refine⟨fun _=>?_,fun _=>?_⟩|refine zn ?_|refine zb rfl ?_|refine zX ?_|refine zo rfl ?_|refine zs ?_|intro _));all_goals(try(conv=>whnf))
  generalize hq:f8 _ _ _=q;obtain rfl:q=some (.int .i64 0,s0):=by rw[<-hq,eG];exact(by simp[cX,dK,fX]:cX (some .i64) (.int .i64 v0) [[.p (.int .i64 v0),.p (.int .i64 0),.p (.int .i64 s0)]]=some (.int .i64 0,s0))
  clear hq
  (repeat'((conv=>whnf);first|exact trivial|(with_reducible first|refine zX ?_|refine zP ?_|refine zL ?_)|refine⟨rfl,?_⟩|refine⟨_,rfl,?_⟩|refine⟨fun _=>?_,fun _=>?_⟩|refine zn ?_|refine zb rfl ?_|refine zX ?_|refine zo rfl ?_|refine zs ?_|intro _));all_goals(try(conv=>whnf))
  generalize hq:iW _ _ _=q;obtain rfl:q=some [[.p (.int .i64 v0),.p (.int .i64 0),.p (.int .i64 s0)]]:=by rw[<-hq,fL];exact(by simp[fW]:fW s0 (.p (.int .i64 0)) [[.p (.int .i64 v0),.p (.int .i64 0),.p (.int .i64 s0)]]=some [[.p (.int .i64 v0),.p (.int .i64 0),.p (.int .i64 s0)]])
  clear hq
  (repeat'((conv=>whnf);first|exact trivial|(with_reducible first|refine zX ?_|refine zP ?_|refine zL ?_)|refine⟨rfl,?_⟩|refine⟨_,rfl,?_⟩|refine⟨fun _=>?_,fun _=>?_⟩|refine zn ?_|refine zb rfl ?_|refine zX ?_|refine zo rfl ?_|refine zs ?_|intro _));all_goals(try(conv=>whnf))
  all_goals rfl
theorem IV(room wh a0 b0 w0 x0 a1 b1 w1 x1:Int)(v0 v1:ByteArray)(hv:v0.data.toList≠v1.data.toList):aM Tryz.prog 189 [.addr 0 4 0 0,.p (.int .i64 1),.p (.int .i64 0)]
  [⟨true,4,[[.p (.int .i64 room),.bs 1 4 true 0 2,.mh 2,.p (.int .i64 wh)]],true⟩,⟨true,4,[[.p (.str v0),.p (.int .i64 a0),.p (.int .i64 b0),.p (.int .i64 w0)],[.p (.str v1),.p (.int .i64 a1),.p (.int .i64 b1),.p (.int .i64 w1)]],true⟩,⟨true,0,[[.p (.str v0),.p (.int .i64 x0)],[.p (.str v1),.p (.int .i64 x1)]],true⟩]
  [some ⟨true,4,[[.p (.int .i64 room),.bs 1 4 true 0 2,.mh 2,.p (.int .i64 wh)]],false⟩,some ⟨true,4,[[.p (.str v1),.p (.int .i64 a1),.p (.int .i64 b1),.p (.int .i64 w1)],[.p (.str v0),.p (.int .i64 a0),.p (.int .i64 b0),.p (.int .i64 w0)]],false⟩,some ⟨true,0,[[.p (.str v0),.p (.int .i64 1)],[.p (.str v1),.p (.int .i64 0)]],false⟩] (.tup []):=by
 refine gG rfl (by simp[two]) fun ss hl hn=>?_
 match ss,hl,hn with
 |[s0,s1],_,hn=>
  have hs:s0≠s1:=by simpa using hn
  have hv':=hv.symm;have hs':=hs.symm;refine⟨[[.p (.str v0),.p (.int .i64 1),.p (.int .i64 s0)],[.p (.str v1),.p (.int .i64 0),.p (.int .i64 s1)]],rfl,?_⟩;refine Fn.runO ZK rfl rfl rfl ?_;generalize Tryz.prog=P at *
  (repeat'((conv=>whnf);first|exact trivial|(with_reducible first|refine zX ?_|refine zP ?_|refine zL ?_)|refine⟨rfl,?_⟩|refine⟨_,rfl,?_⟩|refine⟨fun _=>?_,fun _=>?_⟩|refine zn ?_|refine zb rfl ?_|refine zX ?_|refine zo rfl ?_|refine zs ?_|intro _));all_goals(try(conv=>whnf))
  generalize hq:f8 _ _ _=q;obtain rfl:q=some (.int .i64 x0,s0):=by rw[<-hq,eG];exact(by simp[cX,dK,fX,hv,hs,hv',hs']:cX none (.str v0) [[.p (.str v0),.p (.int .i64 x0),.p (.int .i64 s0)],[.p (.str v1),.p (.int .i64 x1),.p (.int .i64 s1)]]=some (.int .i64 x0,s0))
  clear hq
  (repeat'((conv=>whnf);first|exact trivial|(with_reducible first|refine zX ?_|refine zP ?_|refine zL ?_)|refine⟨rfl,?_⟩|refine⟨_,rfl,?_⟩|refine⟨fun _=>?_,fun _=>?_⟩|refine zn ?_|refine zb rfl ?_|refine zX ?_|refine zo rfl ?_|refine zs ?_|intro _));all_goals(try(conv=>whnf))
  generalize hq:iW _ _ _=q;obtain rfl:q=some [[.p (.str v0),.p (.int .i64 1),.p (.int .i64 s0)],[.p (.str v1),.p (.int .i64 x1),.p (.int .i64 s1)]]:=by rw[<-hq,fL];exact(by simp[fW,hv,hs,hv',hs']:fW s0 (.p (.int .i64 1)) [[.p (.str v0),.p (.int .i64 x0),.p (.int .i64 s0)],[.p (.str v1),.p (.int .i64 x1),.p (.int .i64 s1)]]=some [[.p (.str v0),.p (.int .i64 1),.p (.int .i64 s0)],[.p (.str v1),.p (.int .i64 x1),.p (.int .i64 s1)]])
  clear hq
  (repeat'((conv=>whnf);first|exact trivial|(with_reducible first|refine zX ?_|refine zP ?_|refine zL ?_)|refine⟨rfl,?_⟩|refine⟨_,rfl,?_⟩|refine⟨fun _=>?_,fun _=>?_⟩|refine zn ?_|refine zb rfl ?_|refine zX ?_|refine zo rfl ?_|refine zs ?_|intro _));all_goals(try(conv=>whnf))
  generalize hq:f8 _ _ _=q;obtain rfl:q=some (.int .i64 x1,s1):=by rw[<-hq,eG];exact(by simp[cX,dK,fX,hv,hs,hv',hs']:cX none (.str v1) [[.p (.str v0),.p (.int .i64 1),.p (.int .i64 s0)],[.p (.str v1),.p (.int .i64 x1),.p (.int .i64 s1)]]=some (.int .i64 x1,s1))
  clear hq
  (repeat'((conv=>whnf);first|exact trivial|(with_reducible first|refine zX ?_|refine zP ?_|refine zL ?_)|refine⟨rfl,?_⟩|refine⟨_,rfl,?_⟩|refine⟨fun _=>?_,fun _=>?_⟩|refine zn ?_|refine zb rfl ?_|refine zX ?_|refine zo rfl ?_|refine zs ?_|intro _));all_goals(try(conv=>whnf))
  generalize hq:iW _ _ _=q;obtain rfl:q=some [[.p (.str v0),.p (.int .i64 1),.p (.int .i64 s0)],[.p (.str v1),.p (.int .i64 0),.p (.int .i64 s1)]]:=by rw[<-hq,fL];exact(by simp[fW,hv,hs,hv',hs']:fW s1 (.p (.int .i64 0)) [[.p (.str v0),.p (.int .i64 1),.p (.int .i64 s0)],[.p (.str v1),.p (.int .i64 x1),.p (.int .i64 s1)]]=some [[.p (.str v0),.p (.int .i64 1),.p (.int .i64 s0)],[.p (.str v1),.p (.int .i64 0),.p (.int .i64 s1)]])
  clear hq
  (repeat'((conv=>whnf);first|exact trivial|(with_reducible first|refine zX ?_|refine zP ?_|refine zL ?_)|refine⟨rfl,?_⟩|refine⟨_,rfl,?_⟩|refine⟨fun _=>?_,fun _=>?_⟩|refine zn ?_|refine zb rfl ?_|refine zX ?_|refine zo rfl ?_|refine zs ?_|intro _));all_goals(try(conv=>whnf))
  all_goals rfl
open Go.RowKit
def swA(i k:Int)(room:Int)(n:Nat)(wh:Int)(rows mrows:List (List DV)):Option (List (Option Box)×DV) :=
 match n,rows,mrows with
 |2,[[.p (.int .i64 v0),.p (.int .i64 a0),.p (.int .i64 b0),.p (.int .i64 w0)],[.p (.int .i64 v1),.p (.int .i64 a1),.p (.int .i64 b1),.p (.int .i64 w1)]],[[.p (.int .i64 u0),.p (.int .i64 x0)],[.p (.int .i64 u1),.p (.int .i64 x1)]]=>
  if i=1/\k=0/\u0=v0/\u1=v1/\v0≠v1 then some ([some ⟨true,4,[[.p (.int .i64 room),.bs 1 4 true 0 2,.mh 2,.p (.int .i64 wh)]],false⟩,some ⟨true,4,[[.p (.int .i64 v1),.p (.int .i64 a1),.p (.int .i64 b1),.p (.int .i64 w1)],[.p (.int .i64 v0),.p (.int .i64 a0),.p (.int .i64 b0),.p (.int .i64 w0)]],false⟩,
   some ⟨true,0,[[.p (.int .i64 v0),.p (.int .i64 1)],[.p (.int .i64 v1),.p (.int .i64 0)]],false⟩],.tup [])
  else if i=0/\k=1/\u0=v1/\u1=v0/\v0≠v1 then some ([some ⟨true,4,[[.p (.int .i64 room),.bs 1 4 true 0 2,.mh 2,.p (.int .i64 wh)]],false⟩,some ⟨true,4,[[.p (.int .i64 v1),.p (.int .i64 a1),.p (.int .i64 b1),.p (.int .i64 w1)],[.p (.int .i64 v0),.p (.int .i64 a0),.p (.int .i64 b0),.p (.int .i64 w0)]],false⟩,
   some ⟨true,0,[[.p (.int .i64 v1),.p (.int .i64 0)],[.p (.int .i64 v0),.p (.int .i64 1)]],false⟩],.tup [])
  else none
 |1,[[.p (.int .i64 v0),.p (.int .i64 a0),.p (.int .i64 b0),.p (.int .i64 w0)]],[[.p (.int .i64 u0),.p (.int .i64 x0)]]=>
  if i=0/\k=0/\u0=v0 then some ([some ⟨true,4,[[.p (.int .i64 room),.bs 1 4 true 0 1,.mh 2,.p (.int .i64 wh)]],false⟩,some ⟨true,4,[[.p (.int .i64 v0),.p (.int .i64 a0),.p (.int .i64 b0),.p (.int .i64 w0)]],false⟩,
   some ⟨true,0,[[.p (.int .i64 v0),.p (.int .i64 0)]],false⟩],.tup [])
  else none
 |_,_,_=>none
def swS(i k:Int)(room:Int)(n:Nat)(wh:Int)(rows mrows:List (List DV)):Option (List (Option Box)×DV) :=
 match n,rows,mrows with
 |2,[[.p (.str v0),.p (.int .i64 a0),.p (.int .i64 b0),.p (.int .i64 w0)],[.p (.str v1),.p (.int .i64 a1),.p (.int .i64 b1),.p (.int .i64 w1)]],[[.p (.str u0),.p (.int .i64 x0)],[.p (.str u1),.p (.int .i64 x1)]]=>
  if i=1/\k=0/\u0.data.toList=v0.data.toList/\u1.data.toList=v1.data.toList/\v0.data.toList≠v1.data.toList then some ([some ⟨true,4,[[.p (.int .i64 room),.bs 1 4 true 0 2,.mh 2,.p (.int .i64 wh)]],false⟩,some ⟨true,4,[[.p (.str v1),.p (.int .i64 a1),.p (.int .i64 b1),.p (.int .i64 w1)],[.p (.str v0),.p (.int .i64 a0),.p (.int .i64 b0),.p (.int .i64 w0)]],false⟩,
   some ⟨true,0,[[.p (.str v0),.p (.int .i64 1)],[.p (.str v1),.p (.int .i64 0)]],false⟩],.tup [])
  else none
 |_,_,_=>none
def K1(f:FuncId)(args:List DV)(bs:List Box):Option (List (Option Box)×DV) :=
 match args,bs with
 |[.addr 0 4 0 0,.p (.int .i64 i),.p (.int .i64 k)],[⟨true,4,[[.p (.int .i64 room),.bs 1 4 true 0 n,.mh 2,.p (.int .i64 wh)]],true⟩,⟨true,4,rows,true⟩,⟨true,0,mrows,true⟩]=>
  if f=88 then swA i k room n wh rows mrows else if f=189 then swS i k room n wh rows mrows else none
 |_,_=>none
theorem JK(f:FuncId)(args:List DV)(bs:List Box)(bs':List (Option Box))(d:DV)(h:K1 f args bs=some (bs',d)):aM Tryz.prog f args bs bs' d:=by
 unfold K1 at h
 split at h
 ·split at h
  ·rename_i e;subst e
   unfold swA at h
   split at h
   ·split at h
    ·rename_i hc
     obtain⟨rfl,rfl,rfl,rfl,hv⟩:=hc;simp only[bQ,Prod.mk.injEq] at h;obtain⟨rfl,rfl⟩:=h;exact KI _ _ _ _ _ _ _ _ _ _ _ _ hv
    ·split at h
     ·rename_i hc
      obtain⟨rfl,rfl,rfl,rfl,hv⟩:=hc;simp only[bQ,Prod.mk.injEq] at h;obtain⟨rfl,rfl⟩:=h;exact J2 _ _ _ _ _ _ _ _ _ _ _ _ hv
     ·cases h
   ·split at h
    ·rename_i hc
     obtain⟨rfl,rfl,rfl⟩:=hc;simp only[bQ,Prod.mk.injEq] at h;obtain⟨rfl,rfl⟩:=h;exact I4 _ _ _ _ _ _ _
    ·cases h
   ·cases h
  ·split at h
   ·rename_i e;subst e
    unfold swS at h
    split at h
    ·split at h
     ·rename_i hc
      obtain⟨rfl,rfl,h1,h2,hv⟩:=hc;have h1:=qQ h1;have h2:=qQ h2;subst h1;subst h2;simp only[bQ,Prod.mk.injEq] at h;obtain⟨rfl,rfl⟩:=h;exact IV _ _ _ _ _ _ _ _ _ _ _ _ hv
     ·cases h
    ·cases h
   ·cases h
 ·cases h
def T1(f:FuncId)(args:List DV)(bs:List Box):Option (List (Option Box)×DV) :=
 match PE f args bs with
 |some r=>some r
 |none=>K1 f args bs
theorem NL(f:FuncId)(args:List DV)(bs:List Box)(bs':List (Option Box))(d:DV)(h:T1 f args bs=some (bs',d)):aM Tryz.prog f args bs bs' d:=by
 unfold T1 at h
 split at h
 ·rename_i e;rw[h] at e;exact LE _ _ _ _ _ e
 ·exact JK _ _ _ _ _ h
def WT:Tbl:=(87,F87) ::(89,F89) ::(140,UQ) ::(141,VY) ::(55,F55) ::(56,F56) ::(57,F57) ::(58,F58) ::(95,F95) ::(54,F54) ::(161,X0) ::(190,TW) ::(191,VH) ::(113,VQ) ::(160,TG) ::(114,WK) ::(122,XI) ::(109,WB) ::(72,F72) ::(71,F71) ::(73,F73) ::(99,F99) ::(100,U1) ::(69,F69) ::(115,V2) ::(116,VK) ::(162,TI) ::(123,VA) ::(192,UA) ::(110,XE) ::(91,F91) ::(93,F93) ::(94,F94) ::(63,F63) ::(60,F60) ::(117,WU) ::(118,TH) ::(163,WI) ::(111,UX) ::(28,F28) ::(29,F29) ::(30,F30) ::(31,F31) ::(27,F27) ::(38,F38) ::(37,F37) ::(39,F39) ::(40,F40) ::(70,F70) ::(36,F36) ::(41,F41) ::(33,F33) ::(34,F34) ::(35,F35) ::(61,F61) ::(32,F32) ::(65,F65) ::(120,Y1) ::(19,F19) ::(20,F20) ::(22,F22) ::(24,F24) ::(25,F25) ::(26,YH) ::(53,F53) ::(44,F44) ::(76,F76) ::(15,F15) ::(64,F64) ::(96,F96) ::(142,UW) ::(66,F66) ::(43,F43) ::SJ
theorem tblK_ok:TblOK Tryz.prog WT:=.cons k87 <| .cons k89 <| .cons a0P <| .cons a1Z <| .cons k55 <| .cons k56 <| .cons k57 <| .cons k58 <| .cons k95 <| .cons k54 <| .cons a1c <| .cons Z2 <| .cons a0X <| .cons a1A <| .cons YY <| .cons a1d <| .cons ZF <| .cons a0B <| .cons k72 <| .cons k71 <| .cons k73 <| .cons k99 <| .cons a1b <| .cons k69 <| .cons a1B <| .cons a0H <| .cons a1C <| .cons Z3 <| .cons a0D <| .cons a1F <| .cons k91 <| .cons k93 <| .cons k94 <| .cons k63 <| .cons k60 <| .cons ZZ <| .cons Z6 <| .cons YX <| .cons a1L <| .cons k28 <| .cons k29 <| .cons k30 <| .cons k31 <| .cons k27 <| .cons k38 <| .cons k37 <| .cons k39 <| .cons k40 <| .cons k70 <| .cons k36 <| .cons k41 <| .cons k33 <| .cons k34 <| .cons k35 <| .cons k61 <| .cons k32 <| .cons k65 <| .cons a1E <| .cons X6 <| .cons mJ <| .cons YJ <| .cons k24 <| .cons k25 <| .cons ZB <| .cons YN <| .cons k44 <| .cons k76 <| .cons k15 <| .cons k64 <| .cons k96 <| .cons a0s <| .cons k66 <| .cons k43<|tblO_ok
def ZQ(zs:List Nat)(n:Nat):Env:=rM (HR zs) T1 (Tbl.del zs WT) n
theorem EN{zs:List Nat}(h:∀z,z∈zs->aB Tryz.prog z [] (.p (.bool true)))(n:Nat):(ZQ zs n).OK Tryz.prog:=p9 (zH h) NL (tblK_ok.del zs)
open Go.RowKit
theorem LC:aB Tryz.prog 43 [] (.p (.bool true)):=by
 have h:=SZ;refine Fn.run k43 rfl ?_;generalize Tryz.prog=P at *
 (repeat'((conv=>whnf);first|exact trivial|(with_reducible first|refine zX ?_|refine zP ?_|refine zL ?_)|refine⟨rfl,?_⟩|refine⟨_,rfl,?_⟩|refine⟨fun _=>?_,fun _=>?_⟩|refine zn ?_|refine zb rfl ?_|refine zX ?_|refine zo rfl ?_|refine zs ?_|intro _));all_goals(try(conv=>whnf))
 all_goals rfl
theorem NE:aB Tryz.prog 76 [] (.p (.bool true)):=(EN (zs:=[121]) (fun z hz=>by simp at hz;subst hz;exact BS) 100).call 76 [] (.p (.bool true)) (by kernel_rfl)
theorem LW:aB Tryz.prog 44 [] (.p (.bool true)):=by
 have h:=NE;refine Fn.run k44 rfl ?_;generalize Tryz.prog=P at *
 (repeat'((conv=>whnf);first|exact trivial|(with_reducible first|refine zX ?_|refine zP ?_|refine zL ?_)|refine⟨rfl,?_⟩|refine⟨_,rfl,?_⟩|refine⟨fun _=>?_,fun _=>?_⟩|refine zn ?_|refine zb rfl ?_|refine zX ?_|refine zo rfl ?_|refine zs ?_|intro _));all_goals(try(conv=>whnf))
 all_goals rfl
theorem pR:aB Tryz.prog 15 [] (.p (.bool true)):=(EN (zs:=[43,44]) (fun z hz=>by simp at hz;rcases hz with rfl|rfl;exact LC;exact LW) 100).call 15 [] (.p (.bool true)) (by kernel_rfl)
class Is (b v:Bool):Prop where is:b=v
instance:Is true true:=⟨rfl⟩
instance:Is false false:=⟨rfl⟩
instance {x:Int}:Is (x ==x) true:=⟨by simp⟩
instance {x:Bool}:Is (x ==x) true:=⟨by simp⟩
instance {a b:Bool}[h:Is a true][k:Is b true]:Is (a&&b) true:=⟨by rw[h.is,k.is];rfl⟩
instance {a b:Bool}[h:Is a false]:Is (a&&b) false:=⟨by rw[h.is];rfl⟩
instance {a b:Bool}[h:Is a true][k:Is b false]:Is (a&&b) false:=⟨by rw[h.is,k.is];rfl⟩
instance {a:Bool}[h:Is a true]:Is (!a) false:=⟨by rw[h.is];rfl⟩
instance {a:Bool}[h:Is a false]:Is (!a) true:=⟨by rw[h.is];rfl⟩
instance {a b v:Bool}[h:Is a v]:Is (if true=true then a else b) v:=⟨by rw[if_pos rfl];exact h.is⟩
instance {a b v:Bool}[h:Is b v]:Is (if false=true then a else b) v:=⟨by rw[if_neg (by decide)];exact h.is⟩
instance {a b:Int}[h:Is (a ==b) true]:Is (a !=b) false:=⟨by unfold bne;rw[h.is];rfl⟩
instance {a b:Int}[h:Is (a ==b) false]:Is (a !=b) true:=⟨by unfold bne;rw[h.is];rfl⟩
instance {a:Bool}[h:Is a true]:No (a=false):=⟨by rw[h.is];decide⟩
instance {a:Bool}[h:Is a false]:No (a=true):=⟨by rw[h.is];decide⟩
instance {a:Bool}[h:Is a true]:No (a = !true):=⟨by rw[h.is];decide⟩
instance {a:Bool}[h:Is a false]:No (a = !false):=⟨by rw[h.is];decide⟩
instance:Is ((0:Int) ==1) false:=⟨by decide⟩
instance:Is ((0:Int) ==2) false:=⟨by decide⟩
instance:Is ((0:Int) ==3) false:=⟨by decide⟩
instance:Is ((0:Int) ==4) false:=⟨by decide⟩
instance:Is ((0:Int) ==5) false:=⟨by decide⟩
instance:Is ((1:Int) ==0) false:=⟨by decide⟩
instance:Is ((1:Int) ==2) false:=⟨by decide⟩
instance:Is ((1:Int) ==3) false:=⟨by decide⟩
instance:Is ((1:Int) ==4) false:=⟨by decide⟩
instance:Is ((1:Int) ==5) false:=⟨by decide⟩
instance:Is ((2:Int) ==0) false:=⟨by decide⟩
instance:Is ((2:Int) ==1) false:=⟨by decide⟩
instance:Is ((2:Int) ==3) false:=⟨by decide⟩
instance:Is ((2:Int) ==4) false:=⟨by decide⟩
instance:Is ((2:Int) ==5) false:=⟨by decide⟩
instance:Is ((3:Int) ==0) false:=⟨by decide⟩
instance:Is ((3:Int) ==1) false:=⟨by decide⟩
instance:Is ((3:Int) ==2) false:=⟨by decide⟩
instance:Is ((3:Int) ==4) false:=⟨by decide⟩
instance:Is ((3:Int) ==5) false:=⟨by decide⟩
instance:Is ((4:Int) ==0) false:=⟨by decide⟩
instance:Is ((4:Int) ==1) false:=⟨by decide⟩
instance:Is ((4:Int) ==2) false:=⟨by decide⟩
instance:Is ((4:Int) ==3) false:=⟨by decide⟩
instance:Is ((4:Int) ==5) false:=⟨by decide⟩
instance:Is ((5:Int) ==0) false:=⟨by decide⟩
instance:Is ((5:Int) ==1) false:=⟨by decide⟩
instance:Is ((5:Int) ==2) false:=⟨by decide⟩
instance:Is ((5:Int) ==3) false:=⟨by decide⟩
instance:Is ((5:Int) ==4) false:=⟨by decide⟩
end Go.Proofs.YtnjphclbpgajpaaGreatDoor.Vc
