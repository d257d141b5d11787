/- Part of a proof over a Go program: Cbx, Bxo, Csw, Beg3, Beg4, Lbe. No condition. -/
import Derived.Test.YtnjphclbpgajpaaGreatDoorW16
import Derived.Test.YtnjphclbpgajpaaGreatDoorW04
import Derived.Test.YtnjphclbpgajpaaGreatDoorW12
import Derived.Test.YtnjphclbpgajpaaGreatDoorW08
import Derived.Test.YtnjphclbpgajpaaGreatDoorW15
import Derived.Test.YtnjphclbpgajpaaGreatDoorW09
import Derived.Test.YtnjphclbpgajpaaGreatDoorW10
set_option linter.unnecessarySimpa false
set_option linter.unusedSectionVars false
set_option linter.unusedSimpArgs false
set_option linter.unusedVariables false
set_option maxHeartbeats 4000000
set_option maxRecDepth 1000000
namespace Go.Proofs.YtnjphclbpgajpaaGreatDoor.Vc
open Go.Conc Go.RowKit
def fX(cap:Nat)(items:List PV)(old:Bool):Box:=⟨true,1,[[.ob (.ch cap items)]],old⟩
theorem iJ{X:Cx}{base k cap:Nat}{items:List PV}{old:Bool}(h:BX X base k (fX cap items old)):∃(blk:Nat) (cs:Array Value) (ty:TypeId) (g sent got:Nat) (buf:Array Value),BoxRel X base k (fX cap items old) blk cs ty /\
  cs[0]?=some (.chan (some g))/\X.own g=some (.cell k 0 0)/\(base<=g\/∃j,X.ex j=some g)/\X.w.heap[g]?=some (.chan cap buf false sent got false)/\(∀o,X.M g o)/\buf.size=items.length /\
  ∀(i:Nat) x u,items[i]?=some x->buf[i]?=some u->Flat X.M X.w x u:=by
 unfold BX at h;rw[if_neg (by simp[fX])] at h
 obtain⟨blk,cs,ty,hb⟩:=h;have hs:1<=cs.size:=by have:=hb.size;simp[fX] at this;exact this
 have h0:cs[0]?=some cs[0]:=by simp
 have hc:=(hb.cells 0 0 [.ob (.ch cap items)] (.ob (.ch cap items)) cs[0] rfl rfl (by simpa [fX] using h0)).1
 have hc:ObRel X base (.cell k 0 0) (.ch cap items) cs[0]:=hc;generalize cs[0]=u at *
 cases hc with
 |ch _ _ g _ sent got buf h1 h2 h3 h4 h5 h6=>exact⟨blk,cs,ty,g,sent,got,buf,hb,h0,h1,h2,h3,h4,h5,h6⟩
theorem iD{X:Cx}{base k cap:Nat}{items:List PV}{old:Bool}{blk:Nat}{cs:Array Value}{ty:TypeId}{g:Nat}(hb:BoxRel X base k (fX cap items old) blk cs ty)(h0:cs[0]?=some (.chan (some g))):X.w.cell? ⟨blk,0,none⟩=some (.chan (some g)):=by
 simp only[World.cell?];rw[hb.heap];exact h0
theorem eV{X:Cx}{cap:Nat}{items items':List PV}(hh:Hand X [fX cap items true]){blk:Nat}{cs:Array Value}{ty:TypeId}{g sent got sent' got':Nat}{buf buf':Array Value}(hb:BoxRel X X.w.heap.size 0 (fX cap items true) blk cs ty)
  (h0:cs[0]?=some (.chan (some g))) (h1:X.own g=some (.cell 0 0 0)) (h2:X.w.heap.size<=g\/∃j,X.ex j=some g) (h3:X.w.heap[g]?=some (.chan cap buf false sent got false)) (h4:∀o,X.M g o)
  (h5:buf'.size=items'.length) (h6:∀(i:Nat) x u,items'[i]?=some x->buf'[i]?=some u->Flat X.M X.w x u) {w':World} (ht:ChTurn X.w w' g (.chan cap buf' false sent' got' false)) {r:DV} {v:Value}
  (hr:Keeps X.M X.w X.M w'->VRel { X with w:=w' } X.w.heap.size (.tmp 0) r v):Back X { X with w:=w' } 1 [some (fX cap items' true)] r v:=by
 have hgl:g<X.w.heap.size:=(Array.getElem?_eq_some_iff.1 h3).1;have hex:∃j,X.ex j=some g:=h2.resolve_left (by omega)
 have hne:blk≠g:=fun e=>by have:=hb.heap;rw[e,h3] at this;injection this with this;cases this
 have hbl:blk<X.w.heap.size:=(Array.getElem?_eq_some_iff.1 hb.heap).1
 have hk:Keeps X.M X.w X.M w':=fun b o u hM hc=>by
  have hlt:=World.block_lt_of_cell? _ _ hc;have hbg:b≠g:=fun e=>by subst e;exact hM (h4 o)
  exact⟨(World.cell?_of_block (w:=X.w) (ht.other b hlt hbg)).trans hc,hM⟩
 refine⟨rfl,hr hk,fun i bx hi=>?_,fun _ _=>rfl,fun _ _ _ _=>Iff.rfl,⟨ht.os,ht.tape,ht.output,ht.size,fun q hq hx=>ht.other q hq (fun e=>?_),fun q hq=>?_⟩⟩
 ·match i,hi with
  |0,hi=>
   simp only[List.getElem?_cons_zero,bG] at hi;subst hi;refine⟨rfl,?_⟩;unfold BX;rw[if_neg (by simp[fX])]
   refine⟨blk,cs,ty,hb.ρ,hb.own,hb.hbase,(ht.other blk hbl hne).trans hb.heap,by have:=hb.size;simpa [fX] using this,fun row hrow=>?_,fun r0 o0 row d u hrow hd hu=>?_,fun _=>hb.live rfl,fun h=>by cases h⟩
   ·simp[fX] at hrow;subst hrow;rfl
   ·match r0,hrow with
    |0,hrow=>
     simp only[fX,List.getElem?_cons_zero,bG] at hrow;subst hrow
     match o0,hd with
     |0,hd=>
      simp only[List.getElem?_cons_zero,bG] at hd;subst hd;have hu':cs[0]?=some u:=by simpa [fX] using hu
      rw[h0] at hu';injection hu' with hu'
      subst hu';exact⟨.ch _ _ g cap sent' got' buf' h1 h2 ht.at_ h4 h5 fun i x u hx hu=>(h6 i x u hx hu).mono hk,rfl⟩
     |o0+1,hd=>simp at hd
    |r0+1,hrow=>simp[fX] at hrow
  |i+1,hi=>simp at hi
 ·obtain⟨j,hj⟩:=hex
  exact hx j (by rw[e];exact hj)
 ·intro cs' ty' hq'
  have hqg:q≠g:=fun e=>by subst e;rw[h3] at hq';injection hq' with hq';cases hq'
  exact⟨cs',ty',(ht.other q hq hqg).trans hq',rfl⟩
theorem ChTurn.same{w:World}{g:Nat}{o:Obj}(h:w.heap[g]?=some o):ChTurn w w g o:=⟨rfl,rfl,rfl,Nat.le_refl _,h,fun _ _ _=>rfl⟩
theorem JV{cargs:Array Value}(h:cargs.size=2):∃a b,cargs = #[a,b]:=by
 obtain⟨l⟩:=cargs
 match l,h with
 |[a,b],_=>exact⟨a,b,rfl⟩
theorem rE{cargs:Array Value}(h:cargs.size=1):∃a,cargs = #[a]:=by
 obtain⟨l⟩:=cargs
 match l,h with
 |[a],_=>exact⟨a,rfl⟩
theorem M5(cap:Nat)(items:List PV)(n:Int):aX Tryz.prog 119 [.addr 0 1 0 0,.p (.int .i64 n)] [fX cap items true]
  [some (fX cap (bif Nat.blt items.length cap then items++[.int .i64 n] else items) true)] (.p (.bool (Nat.blt items.length cap))):=by
 refine⟨⟨_,Tryz.func119,rfl,by decide⟩,.inl rfl,Nat.le_refl _,fun X cargs hl hh ha=>?_⟩
 obtain⟨v0,v1,rfl⟩:=JV hl;obtain⟨blk,cs,ty,g,sent,got,buf,hb,h0,h1,h2,h3,h4,h5,h6⟩:=iJ (hh.boxes 0 _ rfl);obtain⟨blk',e1,e2⟩:∃blk',X.ρ 0=some blk'/\v0=.pointer (some ⟨blk',0*1+0,none⟩):=ha 0 _ _ rfl rfl;have:blk'=blk:=by have:=hb.ρ;rw[e1] at this;injection this
 subst this;have e3:v1=.int .i64 n:=Flat.intv (ha 1 _ _ rfl rfl);subst e2;subst e3;have hc:=iD hb h0
 by_cases hlt:items.length<cap
 ·have hbl:Nat.blt items.length cap=true:=by simpa [Nat.blt_eq] using hlt
  refine(CA n hc h3 (by omega)).mono fun e w' hr=>?_
  obtain⟨rfl,rfl⟩:=hr;refine⟨.bool true,{ X with w:=_ },rfl,rfl,?_⟩
  rw[hbl];refine eV (r:=.p (.bool true)) (v:=.bool true) (items':=items++[.int .i64 n]) (buf':=buf.push (.int .i64 n)) hh hb h0 h1 h2 h3 h4 (by simp[h5]) (fun i x u hx hu=>?_) ((ChTurn.same h3).first (Array.getElem?_eq_some_iff.1 h3).1) fun _=>Flat.bool true
  rw[List.getElem?_append] at hx;rw[Array.getElem?_push] at hu
  by_cases hi:i<items.length
  ·rw[if_pos hi] at hx
   rw[if_neg (by omega)] at hu
   exact h6 i x u hx hu
  ·rw[if_neg hi] at hx
   have h00:i-items.length=0:=by have:=(bH.1 hx).1;simp at this;omega
   rw[h00] at hx;rw[if_pos (by omega)] at hu
   simp only[List.getElem?_cons_zero,bG] at hx hu;subst hx;subst hu;exact .int _ _
 ·have hbl:Nat.blt items.length cap=false:=by
   cases h:Nat.blt items.length cap with
   |false=>rfl
   |true=>exact absurd (by simpa [Nat.blt_eq] using h) hlt
  refine(BR n hc h3 (by omega)).mono fun e w' hr=>?_
  obtain⟨rfl,rfl⟩:=hr;refine⟨.bool false,{ X with w:=_ },rfl,rfl,?_⟩
  rw[hbl];exact eV (r:=.p (.bool false)) (v:=.bool false) (items':=items) (buf':=buf) hh hb h0 h1 h2 h3 h4 h5 h6 (ChTurn.same h3) fun _=>Flat.bool false
theorem JW{M:Nat->Nat->Prop}{w:World}{a0 a1 a2 a3 a4:Int}{v:Value}(h:Flat M w (.agg [.int .i64 a0,.int .i64 a1,.int .i64 a2,.int .i64 a3,.int .i64 a4]) v):v=.agg #[.int .i64 a0,.int .i64 a1,.int .i64 a2,.int .i64 a3,.int .i64 a4]:=by
 cases h with
 |agg _ vs hl h1 hc=>
  obtain⟨l⟩:=vs
  match l,hl with
  |[b0,b1,b2,b3,b4],_=>
   have e0:=Flat.intv (hc 0 _ b0 rfl rfl);have e1:=Flat.intv (hc 1 _ b1 rfl rfl);have e2:=Flat.intv (hc 2 _ b2 rfl rfl);have e3:=Flat.intv (hc 3 _ b3 rfl rfl);have e4:=Flat.intv (hc 4 _ b4 rfl rfl);rw[e0,e1,e2,e3,e4]
theorem qH{M:Nat->Nat->Prop}{w:World}(a0 a1 a2 a3 a4:Int):Flat M w (.agg [.int .i64 a0,.int .i64 a1,.int .i64 a2,.int .i64 a3,.int .i64 a4]) (.agg #[.int .i64 a0,.int .i64 a1,.int .i64 a2,.int .i64 a3,.int .i64 a4]):=by
 refine .agg _ _ rfl (fun c hc=>?_) fun i c u hc hu=>?_
 ·simp at hc;rcases hc with rfl|rfl|rfl|rfl|rfl<;>rfl
 ·match i,hc,hu with
  |0,hc,hu=>simp at hc hu;subst hc;subst hu;exact .int _ _
  |1,hc,hu=>simp at hc hu;subst hc;subst hu;exact .int _ _
  |2,hc,hu=>simp at hc hu;subst hc;subst hu;exact .int _ _
  |3,hc,hu=>simp at hc hu;subst hc;subst hu;exact .int _ _
  |4,hc,hu=>simp at hc hu;subst hc;subst hu;exact .int _ _
  |i+5,hc,hu=>simp at hc
theorem OU(cap:Nat)(items:List PV)(a0 a1 a2 a3 a4:Int):aX Tryz.prog 62 [.addr 0 1 0 0,.p (.agg [.int .i64 a0,.int .i64 a1,.int .i64 a2,.int .i64 a3,.int .i64 a4])] [fX cap items true]
  [some (fX cap (bif Nat.blt items.length cap then items++[.agg [.int .i64 a0,.int .i64 a1,.int .i64 a2,.int .i64 a3,.int .i64 a4]] else items) true)] (.p (.bool (Nat.blt items.length cap))):=by
 refine⟨⟨_,Tryz.func62,rfl,by decide⟩,.inl rfl,Nat.le_refl _,fun X cargs hl hh ha=>?_⟩
 obtain⟨v0,v1,rfl⟩:=JV hl;obtain⟨blk,cs,ty,g,sent,got,buf,hb,h0,h1,h2,h3,h4,h5,h6⟩:=iJ (hh.boxes 0 _ rfl);obtain⟨blk',e1,e2⟩:∃blk',X.ρ 0=some blk'/\v0=.pointer (some ⟨blk',0*1+0,none⟩):=ha 0 _ _ rfl rfl;have:blk'=blk:=by have:=hb.ρ;rw[e1] at this;injection this
 subst this;have e3:=JW (ha 1 _ _ rfl rfl);subst e2;subst e3;have hc:=iD hb h0;have hal:∀cs ty,ChTurn X.w (X.w.alloc (.cells cs ty (0,0))) g (.chan cap buf false sent got false):=fun cs ty=>(ChTurn.same h3).alloc _
 by_cases hlt:items.length<cap
 ·have hbl:Nat.blt items.length cap=true:=by simpa [Nat.blt_eq] using hlt
  refine(CQ a0 a1 a2 a3 a4 hc h3 (by omega)).mono fun e w' hr=>?_
  obtain⟨rfl,rfl⟩:=hr;refine⟨.bool true,{ X with w:=_ },rfl,rfl,?_⟩
  rw[hbl];refine eV (r:=.p (.bool true)) (v:=.bool true) (items':=items++[.agg [.int .i64 a0,.int .i64 a1,.int .i64 a2,.int .i64 a3,.int .i64 a4]]) (buf':=buf.push (.agg #[.int .i64 a0,.int .i64 a1,.int .i64 a2,.int .i64 a3,.int .i64 a4])) hh hb h0 h1 h2 h3 h4 (by simp[h5]) (fun i x u hx hu=>?_) ((hal _ _).first (Array.getElem?_eq_some_iff.1 (hal _ _).at_).1) fun _=>Flat.bool true
  rw[List.getElem?_append] at hx;rw[Array.getElem?_push] at hu
  by_cases hi:i<items.length
  ·rw[if_pos hi] at hx
   rw[if_neg (by omega)] at hu
   exact h6 i x u hx hu
  ·rw[if_neg hi] at hx
   have h00:i-items.length=0:=by have:=(bH.1 hx).1;simp at this;omega
   rw[h00] at hx;rw[if_pos (by omega)] at hu
   simp only[List.getElem?_cons_zero,bG] at hx hu;subst hx;subst hu;exact qH _ _ _ _ _
 ·have hbl:Nat.blt items.length cap=false:=by
   cases h:Nat.blt items.length cap with
   |false=>rfl
   |true=>exact absurd (by simpa [Nat.blt_eq] using h) hlt
  refine(C8 a0 a1 a2 a3 a4 hc h3 (by omega)).mono fun e w' hr=>?_
  obtain⟨rfl,rfl⟩:=hr;refine⟨.bool false,{ X with w:=_ },rfl,rfl,?_⟩
  rw[hbl];exact eV (r:=.p (.bool false)) (v:=.bool false) (items':=items) (buf':=buf) hh hb h0 h1 h2 h3 h4 h5 h6 (hal _ _) fun _=>Flat.bool false
theorem IJ{X:Cx}{base:Nat}{L:Loc}{x:PV}{b:Bool}{u:Value}(h:Flat X.M X.w x u):VRel X base L (.tup [.p x,.p (.bool b)]) (.tuple #[u,.bool b]):=by
 refine⟨#[u,.bool b],rfl,rfl,fun j d v hd hv=>?_⟩
 match j,hd,hv with
 |0,hd,hv=>simp at hd hv;subst hd;subst hv;exact h
 |1,hd,hv=>simp at hd hv;subst hd;subst hv;exact Flat.bool b
 |j+2,hd,hv=>simp at hd
theorem wT{M:Nat->Nat->Prop}{w:World}{x:PV}{items:List PV}{buf:Array Value}(h5:buf.size=(x ::items).length)(h6:∀(i:Nat) y u,(x ::items)[i]?=some y->buf[i]?=some u->Flat M w y u) :
  (buf.extract 1 buf.size).size=items.length/\∀(i:Nat) y u,items[i]?=some y->(buf.extract 1 buf.size)[i]?=some u->Flat M w y u:=by
 refine⟨by simp at h5 ⊢;omega,fun i y u hy hu=>?_⟩
 refine h6 (i+1) y u (by simpa using hy) ?_
 rw[Array.getElem?_extract] at hu
 split at hu
 ·rw[Nat.add_comm];exact hu
 ·cases hu
theorem uL(cap:Nat)(x:PV)(items:List PV):aX Tryz.prog 165 [.addr 0 1 0 0] [fX cap (x ::items) true] [some (fX cap items true)] (.tup [.p x,.p (.bool true)]):=by
 refine⟨⟨_,Tryz.func165,rfl,by decide⟩,.inl rfl,Nat.le_refl _,fun X cargs hl hh ha=>?_⟩
 obtain⟨v0,rfl⟩:=rE hl;obtain⟨blk,cs,ty,g,sent,got,buf,hb,h0,h1,h2,h3,h4,h5,h6⟩:=iJ (hh.boxes 0 _ rfl);obtain⟨blk',e1,e2⟩:∃blk',X.ρ 0=some blk'/\v0=.pointer (some ⟨blk',0*1+0,none⟩):=ha 0 _ _ rfl rfl;have:blk'=blk:=by have:=hb.ρ;rw[e1] at this;injection this
 subst this;subst e2;have hc:=iD hb h0;have hp:0<buf.size:=by rw[h5];simp
 have hb0:buf[0]?=some buf[0]:=by simp
 have hf:=h6 0 _ _ rfl hb0;refine(yB hc h3 hp hb0).mono fun e w' hr=>?_
 obtain⟨rfl,rfl⟩:=hr;generalize buf[0]=u at *;obtain⟨k1,k2⟩:=wT h5 h6;refine⟨.tuple #[u,.bool true],{ X with w:=_ },rfl,rfl,?_⟩
 exact eV (r:=.tup [.p x,.p (.bool true)]) hh hb h0 h1 h2 h3 h4 k1 k2 ((ChTurn.same h3).first (Array.getElem?_eq_some_iff.1 h3).1) fun hk=>IJ (hf.mono hk)
theorem vE(cap:Nat):aX Tryz.prog 165 [.addr 0 1 0 0] [fX cap [] true] [some (fX cap [] true)] (.tup [.p (.int .i64 0),.p (.bool false)]):=by
 refine⟨⟨_,Tryz.func165,rfl,by decide⟩,.inl rfl,Nat.le_refl _,fun X cargs hl hh ha=>?_⟩
 obtain⟨v0,rfl⟩:=rE hl;obtain⟨blk,cs,ty,g,sent,got,buf,hb,h0,h1,h2,h3,h4,h5,h6⟩:=iJ (hh.boxes 0 _ rfl);obtain⟨blk',e1,e2⟩:∃blk',X.ρ 0=some blk'/\v0=.pointer (some ⟨blk',0*1+0,none⟩):=ha 0 _ _ rfl rfl;have:blk'=blk:=by have:=hb.ρ;rw[e1] at this;injection this
 subst this;subst e2;have hc:=iD hb h0;have hb0:buf = #[]:=Array.eq_empty_of_size_eq_zero (by simpa using h5)
 subst hb0;refine(z7 hc h3).mono fun e w' hr=>?_
 obtain⟨rfl,rfl⟩:=hr;refine⟨_,{ X with w:=_ },rfl,rfl,?_⟩
 exact eV (r:=.tup [.p (.int .i64 0),.p (.bool false)]) hh hb h0 h1 h2 h3 h4 h5 h6 (ChTurn.same h3) fun hk=>IJ (.int _ _)
theorem vA(cap:Nat)(a0 a1 a2 a3 a4:Int)(items:List PV):aX Tryz.prog 90 [.addr 0 1 0 0] [fX cap ((.agg [.int .i64 a0,.int .i64 a1,.int .i64 a2,.int .i64 a3,.int .i64 a4]) ::items) true] [some (fX cap items true)] (.tup [.p (.agg [.int .i64 a0,.int .i64 a1,.int .i64 a2,.int .i64 a3,.int .i64 a4]),.p (.bool true)]):=by
 refine⟨⟨_,Tryz.func90,rfl,by decide⟩,.inl rfl,Nat.le_refl _,fun X cargs hl hh ha=>?_⟩
 obtain⟨v0,rfl⟩:=rE hl;obtain⟨blk,cs,ty,g,sent,got,buf,hb,h0,h1,h2,h3,h4,h5,h6⟩:=iJ (hh.boxes 0 _ rfl);obtain⟨blk',e1,e2⟩:∃blk',X.ρ 0=some blk'/\v0=.pointer (some ⟨blk',0*1+0,none⟩):=ha 0 _ _ rfl rfl;have:blk'=blk:=by have:=hb.ρ;rw[e1] at this;injection this
 subst this;subst e2;have hc:=iD hb h0;have hp:0<buf.size:=by rw[h5];simp
 have hb0:buf[0]?=some buf[0]:=by simp
 have hf:=h6 0 _ _ rfl hb0;rw[JW hf] at hb0;refine(zF hc h3 a0 a1 a2 a3 a4 hp hb0).mono fun e w' hr=>?_
 obtain⟨rfl,ht⟩:=hr;obtain⟨k1,k2⟩:=wT h5 h6;refine⟨_,{ X with w:=w' },rfl,rfl,?_⟩
 refine eV (r:=.tup [.p (.agg [.int .i64 a0,.int .i64 a1,.int .i64 a2,.int .i64 a3,.int .i64 a4]),.p (.bool true)]) hh hb h0 h1 h2 h3 h4 k1 k2 (by simpa using ht) fun hk=>IJ (qH _ _ _ _ _)
theorem vO(cap:Nat):aX Tryz.prog 90 [.addr 0 1 0 0] [fX cap [] true] [some (fX cap [] true)] (.tup [.p (.agg [.int .i64 0,.int .i64 0,.int .i64 0,.int .i64 0,.int .i64 0]),.p (.bool false)]):=by
 refine⟨⟨_,Tryz.func90,rfl,by decide⟩,.inl rfl,Nat.le_refl _,fun X cargs hl hh ha=>?_⟩
 obtain⟨v0,rfl⟩:=rE hl;obtain⟨blk,cs,ty,g,sent,got,buf,hb,h0,h1,h2,h3,h4,h5,h6⟩:=iJ (hh.boxes 0 _ rfl);obtain⟨blk',e1,e2⟩:∃blk',X.ρ 0=some blk'/\v0=.pointer (some ⟨blk',0*1+0,none⟩):=ha 0 _ _ rfl rfl;have:blk'=blk:=by have:=hb.ρ;rw[e1] at this;injection this
 subst this;subst e2;have hc:=iD hb h0;have hb0:buf = #[]:=Array.eq_empty_of_size_eq_zero (by simpa using h5)
 subst hb0;refine(zN hc h3).mono fun e w' hr=>?_
 obtain⟨rfl,ht⟩:=hr;refine⟨_,{ X with w:=w' },rfl,rfl,?_⟩
 exact eV (r:=.tup [.p (.agg [.int .i64 0,.int .i64 0,.int .i64 0,.int .i64 0,.int .i64 0]),.p (.bool false)]) hh hb h0 h1 h2 h3 h4 h5 h6 ht fun hk=>IJ (qH _ _ _ _ _)
theorem M9(cap:Nat)(items:List PV):aX Tryz.prog 124 [.addr 0 1 0 0] [fX cap items true] [some (fX cap items true)] (.p (.int .i64 items.length)):=by
 refine⟨⟨_,Tryz.func124,rfl,by decide⟩,.inl rfl,Nat.le_refl _,fun X cargs hl hh ha=>?_⟩
 obtain⟨v0,rfl⟩:=rE hl;obtain⟨blk,cs,ty,g,sent,got,buf,hb,h0,h1,h2,h3,h4,h5,h6⟩:=iJ (hh.boxes 0 _ rfl);obtain⟨blk',e1,e2⟩:∃blk',X.ρ 0=some blk'/\v0=.pointer (some ⟨blk',0*1+0,none⟩):=ha 0 _ _ rfl rfl;have:blk'=blk:=by have:=hb.ρ;rw[e1] at this;injection this
 subst this;subst e2;have hc:=iD hb h0;refine(JM hc h3).mono fun e w' hr=>?_
 obtain⟨rfl,rfl⟩:=hr;refine⟨_,{ X with w:=_ },rfl,rfl,?_⟩
 refine eV (r:=.p (.int .i64 items.length)) hh hb h0 h1 h2 h3 h4 h5 h6 (ChTurn.same h3) fun _=>?_
 rw[h5];exact Flat.int _ _
def uV(X:Cx)(k:Nat)(st:TypeId):Cx :=
 {ρ := fun i => if i = 0 then some (X.w.heap.size + 1) else X.ρ i
  own:=fun g=>if g=X.w.heap.size+1 then some (.box 0) else if g=X.w.heap.size then some (.cell 0 0 0) else X.own g
  M:=fun b o=>b=X.w.heap.size\/b=X.w.heap.size+1\/X.M b o
  w:=(X.w.alloc (.chan k #[] false 0 0 false)).alloc (.cells #[.chan (some X.w.heap.size)] st (0,0))
  ex:=X.ex }
theorem tB{X:Cx}(k:Nat)(st:TypeId):Back X (uV X k st) 0 [some (fX k [] false)] (.addr 0 1 0 0) (.pointer (some ⟨X.w.heap.size+1,0,none⟩)):=by
 have hb:(uV X k st).w.heap[X.w.heap.size+1]?=some (.cells #[.chan (some X.w.heap.size)] st (0,0)):=by
  have:=heap_alloc_new (X.w.alloc (.chan k #[] false 0 0 false)) (.cells #[.chan (some X.w.heap.size)] st (0,0));rw[World.size_alloc] at this;exact this
 have hg:(uV X k st).w.heap[X.w.heap.size]?=some (.chan k #[] false 0 0 false):=(Below.heap_alloc _ _ _ (by simp)).trans (heap_alloc_new _ _)
 have hlow:∀q,q<X.w.heap.size->(uV X k st).w.heap[q]?=X.w.heap[q]?:=fun q hq=>(Below.heap_alloc _ _ _ (by simp;omega)).trans (Below.heap_alloc _ _ _ hq)
 refine⟨rfl,⟨X.w.heap.size+1,rfl,rfl⟩,fun i bx hi=>?_,fun i hi=>by omega,fun b hb _ o=>?_,⟨rfl,rfl,rfl,by simp[uV];omega,fun q hq _=>hlow q hq,fun q hq=>.of (hlow q hq)⟩⟩
 ·match i,hi with
  |0,hi=>
   simp only[List.getElem?_cons_zero,bG] at hi;subst hi;refine⟨rfl,?_⟩;unfold BX;rw[if_neg (by simp[fX])]
   refine⟨X.w.heap.size+1,_,_,rfl,by simp[uV],⟨.inl (by omega),fun h=>by cases h⟩,hb,by simp[fX],fun row hrow=>?_,fun r0 o0 row d u hrow hd hu=>?_,fun _ o=>.inr (.inl rfl),fun h=>by cases h⟩
   ·simp[fX] at hrow;subst hrow;rfl
   ·match r0,hrow with
    |0,hrow=>
     simp only[fX,List.getElem?_cons_zero,bG] at hrow;subst hrow
     match o0,hd with
     |0,hd=>
      simp only[List.getElem?_cons_zero,bG] at hd;subst hd;have hu':u=.chan (some X.w.heap.size):=by simpa [fX,eq_comm] using hu
      subst hu';exact⟨.ch _ _ X.w.heap.size k 0 0 #[] (by simp[uV]) (.inl (Nat.le_refl _)) hg (fun o=>.inl rfl) rfl fun i x u hx _=>by simp at hx,rfl⟩
     |o0+1,hd=>simp at hd
    |r0+1,hrow=>simp[fX] at hrow
  |i+1,hi=>simp at hi
 ·show (b=X.w.heap.size\/b=X.w.heap.size+1\/X.M b o)↔X.M b o
  exact⟨fun h=>h.elim (fun e=>by omega) fun h=>h.elim (fun e=>by omega) id,fun h=>.inr (.inr h)⟩
theorem M3(k:Nat)(hk:k<=100):aX Tryz.prog 112 [.p (.int .i64 k)] [] [some (fX k [] false)] (.addr 0 1 0 0):=by
 refine⟨⟨_,Tryz.func112,rfl,by decide⟩,.inr rfl,Nat.zero_le _,fun X cargs hl hh ha=>?_⟩
 obtain⟨v0,rfl⟩:=rE hl;have e0:v0=.int .i64 k:=Flat.intv (ha 0 _ _ rfl rfl);subst e0;refine(IV k hk).mono fun e w' hr=>?_
 obtain⟨rfl,rfl⟩:=hr;exact⟨_,uV X k _,rfl,rfl,tB k _⟩
theorem KL(k:Nat)(hk:k<=100):aX Tryz.prog 59 [.p (.int .i64 k)] [] [some (fX k [] false)] (.addr 0 1 0 0):=by
 refine⟨⟨_,Tryz.func59,rfl,by decide⟩,.inr rfl,Nat.zero_le _,fun X cargs hl hh ha=>?_⟩
 obtain⟨v0,rfl⟩:=rE hl;have e0:v0=.int .i64 k:=Flat.intv (ha 0 _ _ rfl rfl);subst e0;refine(HJ k hk).mono fun e w' hr=>?_
 obtain⟨rfl,rfl⟩:=hr;exact⟨_,uV X k _,rfl,rfl,tB k _⟩
open Go.RowKit
def AP(args:List DV)(bs:List Box):Option (List (Option Box)×DV) :=
 match args,bs with
 |[.p (.int .i64 k)],[]=>if 0<=k/\k<=100 then some ([some (fX k.toNat [] false)],.addr 0 1 0 0) else none
 |_,_=>none
def JZ(args:List DV)(bs:List Box):Option (List (Option Box)×DV) :=
 match args,bs with
 |[.addr 0 1 0 0,.p (.int .i64 n)],[⟨true,1,[[.ob (.ch cap items)]],true⟩]=>some ([some (fX cap (bif Nat.blt items.length cap then items++[.int .i64 n] else items) true)],.p (.bool (Nat.blt items.length cap)))
 |_,_=>none
def K1(args:List DV)(bs:List Box):Option (List (Option Box)×DV) :=
 match args,bs with
 |[.addr 0 1 0 0,.p (.agg [.int .i64 a0,.int .i64 a1,.int .i64 a2,.int .i64 a3,.int .i64 a4])],[⟨true,1,[[.ob (.ch cap items)]],true⟩]=>
  some ([some (fX cap (bif Nat.blt items.length cap then items++[.agg [.int .i64 a0,.int .i64 a1,.int .i64 a2,.int .i64 a3,.int .i64 a4]] else items) true)],.p (.bool (Nat.blt items.length cap)))
 |_,_=>none
def FI(args:List DV)(bs:List Box):Option (List (Option Box)×DV) :=
 match args,bs with
 |[.addr 0 1 0 0],[⟨true,1,[[.ob (.ch cap [])]],true⟩]=>some ([some (fX cap [] true)],.tup [.p (.int .i64 0),.p (.bool false)])
 |[.addr 0 1 0 0],[⟨true,1,[[.ob (.ch cap (x ::items))]],true⟩]=>some ([some (fX cap items true)],.tup [.p x,.p (.bool true)])
 |_,_=>none
def G9(args:List DV)(bs:List Box):Option (List (Option Box)×DV) :=
 match args,bs with
 |[.addr 0 1 0 0],[⟨true,1,[[.ob (.ch cap [])]],true⟩]=>some ([some (fX cap [] true)],.tup [.p (.agg [.int .i64 0,.int .i64 0,.int .i64 0,.int .i64 0,.int .i64 0]),.p (.bool false)])
 |[.addr 0 1 0 0],[⟨true,1,[[.ob (.ch cap (.agg [.int .i64 a0,.int .i64 a1,.int .i64 a2,.int .i64 a3,.int .i64 a4] ::items))]],true⟩]=>some ([some (fX cap items true)],.tup [.p (.agg [.int .i64 a0,.int .i64 a1,.int .i64 a2,.int .i64 a3,.int .i64 a4]),.p (.bool true)])
 |_,_=>none
def K8(args:List DV)(bs:List Box):Option (List (Option Box)×DV) :=
 match args,bs with
 |[.addr 0 1 0 0],[⟨true,1,[[.ob (.ch cap items)]],true⟩]=>some ([some (fX cap items true)],.p (.int .i64 items.length))
 |_,_=>none
def O9(f:FuncId)(args:List DV)(bs:List Box):Option (List (Option Box)×DV) :=
 if f=112 then AP args bs else if f=59 then AP args bs
 else if f=119 then JZ args bs else if f=62 then K1 args bs
 else if f=165 then FI args bs else if f=90 then G9 args bs
 else if f=124 then K8 args bs else none
theorem HA(f:FuncId)(args:List DV)(bs:List Box)(bs':List (Option Box))(d:DV)(h:O9 f args bs=some (bs',d)):aX Tryz.prog f args bs bs' d:=by
 unfold O9 at h
 split at h
 ·rename_i e;subst e
  unfold AP at h
  split at h
  ·split at h
   ·rename_i k hk
    simp only[bG,Prod.mk.injEq] at h;obtain⟨rfl,rfl⟩:=h;have:=M3 k.toNat (by omega)
    rw[show ((k.toNat:Nat):Int)=k by omega] at this
    exact this
   ·cases h
  ·cases h
 split at h
 ·rename_i e;subst e
  unfold AP at h
  split at h
  ·split at h
   ·rename_i k hk
    simp only[bG,Prod.mk.injEq] at h;obtain⟨rfl,rfl⟩:=h;have:=KL k.toNat (by omega)
    rw[show ((k.toNat:Nat):Int)=k by omega] at this
    exact this
   ·cases h
  ·cases h
 split at h
 ·rename_i e;subst e
  unfold JZ at h
  split at h
  ·simp only[bG,Prod.mk.injEq] at h
   obtain⟨rfl,rfl⟩:=h;exact M5 _ _ _
  ·cases h
 split at h
 ·rename_i e;subst e
  unfold K1 at h
  split at h
  ·simp only[bG,Prod.mk.injEq] at h
   obtain⟨rfl,rfl⟩:=h;exact OU _ _ _ _ _ _ _
  ·cases h
 split at h
 ·rename_i e;subst e
  unfold FI at h
  split at h
  ·simp only[bG,Prod.mk.injEq] at h
   obtain⟨rfl,rfl⟩:=h;exact vE _
  ·simp only[bG,Prod.mk.injEq] at h
   obtain⟨rfl,rfl⟩:=h;exact uL _ _ _
  ·cases h
 split at h
 ·rename_i e;subst e
  unfold G9 at h
  split at h
  ·simp only[bG,Prod.mk.injEq] at h
   obtain⟨rfl,rfl⟩:=h;exact vO _
  ·simp only[bG,Prod.mk.injEq] at h
   obtain⟨rfl,rfl⟩:=h;exact vA _ _ _ _ _ _ _
  ·cases h
 split at h
 ·rename_i e;subst e
  unfold K8 at h
  split at h
  ·simp only[bG,Prod.mk.injEq] at h
   obtain⟨rfl,rfl⟩:=h;exact M9 _ _
  ·cases h
 cases h
open Go.RowKit
theorem BX.forget3{X:Cx}{base k:Nat}{rows:List (List DV)}{live old:Bool}(h:BX X base k ⟨live,0,rows,old⟩):BX X base k ⟨live,0,rows.map fun r=>r.take 2,old⟩:=by
 unfold BX at h ⊢;rw[if_pos rfl] at h ⊢;obtain⟨blk,es,clock,m1,m2,m3,m4,m5,m6,m0,m7⟩:=h;refine⟨blk,es,clock,m1,m2,m3,m4,by simpa using m5,m6,m0,fun i row e hr he=>?_⟩
 rw[List.getElem?_map] at hr
 cases hx:rows[i]? with
 |none=>rw[hx] at hr;simp at hr
 |some r0=>
  rw[hx] at hr;simp only[Option.map_some,bG] at hr;subst hr;obtain⟨q,n,d,f1,f2,f3⟩:=m7 i r0 e hx he;subst f1;exact⟨q,false,d,rfl,f2,f3⟩
theorem eU{P:Program}{f:FuncId}{args:List DV}{b0 b1 c0 c1:Box}{rows rows':List (List DV)}{r:DV}(hr:r.plain=true)(h2:∀x,x∈rows->G3 x=true)
  (h:∀ss:List Int,ss.length=rows.length->ss.Nodup->∃rows3,(rows3.map fun r=>r.take 2)=rows'/\aX P f args [b0,b1,⟨true,0,fZ rows ss,true⟩] [some c0,some c1,some ⟨true,0,rows3,false⟩] r) :
  aX P f args [b0,b1,⟨true,0,rows,true⟩] [some c0,some c1,some ⟨true,0,rows',false⟩] r:=by
 have hfn:x6 P f:=by
  obtain⟨_,_,h⟩:=h ((List.range rows.length).map fun (n:Nat)=>(n:Int)) (by simp) (by
   rw[List.nodup_iff_pairwise_ne,List.pairwise_map];exact(List.nodup_iff_pairwise_ne.1 List.nodup_range).imp fun h e=>h (by omega))
  exact h.1
 refine⟨hfn,.inl hr,by simp,fun X cargs hl hh ha=>?_⟩
 obtain⟨ss,s1,s2,s3⟩:=(hh.boxes 2 _ rfl).stamps h2;obtain⟨rows3,e,h⟩:=h ss s1 s2;refine(h.2.2.2 X cargs hl ⟨hh.full,fun i bx hi=>?_⟩ ha).mono fun e' w' hq=>?_
 ·match i,hi with
  |0,hi=>exact hh.boxes 0 bx hi
  |1,hi=>exact hh.boxes 1 bx hi
  |2,hi=>simp only[List.getElem?_cons_succ,List.getElem?_cons_zero,bG] at hi;subst hi;exact s3
  |i+3,hi=>simp at hi
 ·obtain⟨v,X',q1,q2,q3⟩:=hq
  refine⟨v,X',q1,q2,q3.ex,q3.val,fun i bx hi=>?_,q3.rho,q3.mem,q3.below⟩
  match i,hi with
  |0,hi=>exact q3.boxes 0 bx hi
  |1,hi=>exact q3.boxes 1 bx hi
  |2,hi=>
   simp only[List.getElem?_cons_succ,List.getElem?_cons_zero,bG] at hi;subst hi;obtain⟨g1,g2⟩:=q3.boxes 2 _ rfl;exact⟨rfl,by rw[<-e];exact g2.forget3⟩
  |i+3,hi=>simp at hi
theorem dH(q:Option IntKind)(x:PV)(rows:List (List DV)):cQ q x rows=bT q x rows:=by unfold cQ;rfl
theorem eG(s:Int)(d:DV)(rows:List (List DV)):dQ s d rows=dG s d rows:=by unfold dQ;rfl
theorem EP(room wh a0 b0 w0 x0 a1 b1 w1 x1:Int)(v0 v1:Int)(hv:v0≠v1):aX Tryz.prog 88 [.addr 0 4 0 0,.p (.int .i64 1),.p (.int .i64 0)]
  [⟨true,4,[[.p (.int .i64 room),.bs 1 4 true 0 2,.mh 2,.p (.int .i64 wh)]],true⟩,⟨true,4,[[.p (.int .i64 v0),.p (.int .i64 a0),.p (.int .i64 b0),.p (.int .i64 w0)],[.p (.int .i64 v1),.p (.int .i64 a1),.p (.int .i64 b1),.p (.int .i64 w1)]],true⟩,⟨true,0,[[.p (.int .i64 v0),.p (.int .i64 x0)],[.p (.int .i64 v1),.p (.int .i64 x1)]],true⟩]
  [some ⟨true,4,[[.p (.int .i64 room),.bs 1 4 true 0 2,.mh 2,.p (.int .i64 wh)]],false⟩,some ⟨true,4,[[.p (.int .i64 v1),.p (.int .i64 a1),.p (.int .i64 b1),.p (.int .i64 w1)],[.p (.int .i64 v0),.p (.int .i64 a0),.p (.int .i64 b0),.p (.int .i64 w0)]],false⟩,some ⟨true,0,[[.p (.int .i64 v0),.p (.int .i64 1)],[.p (.int .i64 v1),.p (.int .i64 0)]],false⟩] (.tup []):=by
 refine eU rfl (by simp[G3]) fun ss hl hn=>?_
 match ss,hl,hn with
 |[s0,s1],_,hn=>
  have hs:s0≠s1:=by simpa using hn
  have hv':=hv.symm;have hs':=hs.symm;refine⟨[[.p (.int .i64 v0),.p (.int .i64 1),.p (.int .i64 s0)],[.p (.int .i64 v1),.p (.int .i64 0),.p (.int .i64 s1)]],rfl,?_⟩;refine Fn.runO XW rfl rfl rfl ?_;generalize Tryz.prog=P at *
  (repeat'((conv=>whnf);first|exact trivial|(with_reducible first|refine zX ?_|refine zP ?_|refine zL ?_)|refine⟨rfl,?_⟩|refine⟨_,rfl,?_⟩|refine⟨fun _=>?_,fun _=>?_⟩|refine zn ?_|refine zb rfl ?_|refine zX ?_|refine zo rfl ?_|refine zs ?_|intro _));all_goals(try(conv=>whnf))
  generalize hq:cQ _ _ _=q;obtain rfl:q=some (.int .i64 x0,s0):=by rw[<-hq,dH];exact(by simp[bT,c7,cW,hv,hs,hv',hs']:bT (some .i64) (.int .i64 v0) [[.p (.int .i64 v0),.p (.int .i64 x0),.p (.int .i64 s0)],[.p (.int .i64 v1),.p (.int .i64 x1),.p (.int .i64 s1)]]=some (.int .i64 x0,s0))
  clear hq
  (repeat'((conv=>whnf);first|exact trivial|(with_reducible first|refine zX ?_|refine zP ?_|refine zL ?_)|refine⟨rfl,?_⟩|refine⟨_,rfl,?_⟩|refine⟨fun _=>?_,fun _=>?_⟩|refine zn ?_|refine zb rfl ?_|refine zX ?_|refine zo rfl ?_|refine zs ?_|intro _));all_goals(try(conv=>whnf))
  generalize hq:dQ _ _ _=q;obtain rfl:q=some [[.p (.int .i64 v0),.p (.int .i64 1),.p (.int .i64 s0)],[.p (.int .i64 v1),.p (.int .i64 x1),.p (.int .i64 s1)]]:=by rw[<-hq,eG];exact(by simp[dG,hv,hs,hv',hs']:dG s0 (.p (.int .i64 1)) [[.p (.int .i64 v0),.p (.int .i64 x0),.p (.int .i64 s0)],[.p (.int .i64 v1),.p (.int .i64 x1),.p (.int .i64 s1)]]=some [[.p (.int .i64 v0),.p (.int .i64 1),.p (.int .i64 s0)],[.p (.int .i64 v1),.p (.int .i64 x1),.p (.int .i64 s1)]])
  clear hq
  (repeat'((conv=>whnf);first|exact trivial|(with_reducible first|refine zX ?_|refine zP ?_|refine zL ?_)|refine⟨rfl,?_⟩|refine⟨_,rfl,?_⟩|refine⟨fun _=>?_,fun _=>?_⟩|refine zn ?_|refine zb rfl ?_|refine zX ?_|refine zo rfl ?_|refine zs ?_|intro _));all_goals(try(conv=>whnf))
  generalize hq:cQ _ _ _=q;obtain rfl:q=some (.int .i64 x1,s1):=by rw[<-hq,dH];exact(by simp[bT,c7,cW,hv,hs,hv',hs']:bT (some .i64) (.int .i64 v1) [[.p (.int .i64 v0),.p (.int .i64 1),.p (.int .i64 s0)],[.p (.int .i64 v1),.p (.int .i64 x1),.p (.int .i64 s1)]]=some (.int .i64 x1,s1))
  clear hq
  (repeat'((conv=>whnf);first|exact trivial|(with_reducible first|refine zX ?_|refine zP ?_|refine zL ?_)|refine⟨rfl,?_⟩|refine⟨_,rfl,?_⟩|refine⟨fun _=>?_,fun _=>?_⟩|refine zn ?_|refine zb rfl ?_|refine zX ?_|refine zo rfl ?_|refine zs ?_|intro _));all_goals(try(conv=>whnf))
  generalize hq:dQ _ _ _=q;obtain rfl:q=some [[.p (.int .i64 v0),.p (.int .i64 1),.p (.int .i64 s0)],[.p (.int .i64 v1),.p (.int .i64 0),.p (.int .i64 s1)]]:=by rw[<-hq,eG];exact(by simp[dG,hv,hs,hv',hs']:dG s1 (.p (.int .i64 0)) [[.p (.int .i64 v0),.p (.int .i64 1),.p (.int .i64 s0)],[.p (.int .i64 v1),.p (.int .i64 x1),.p (.int .i64 s1)]]=some [[.p (.int .i64 v0),.p (.int .i64 1),.p (.int .i64 s0)],[.p (.int .i64 v1),.p (.int .i64 0),.p (.int .i64 s1)]])
  clear hq
  (repeat'((conv=>whnf);first|exact trivial|(with_reducible first|refine zX ?_|refine zP ?_|refine zL ?_)|refine⟨rfl,?_⟩|refine⟨_,rfl,?_⟩|refine⟨fun _=>?_,fun _=>?_⟩|refine zn ?_|refine zb rfl ?_|refine zX ?_|refine zo rfl ?_|refine zs ?_|intro _));all_goals(try(conv=>whnf))
  all_goals rfl
theorem G7(room wh a0 b0 w0 x0 a1 b1 w1 x1:Int)(v0 v1:Int)(hv:v0≠v1):aX Tryz.prog 88 [.addr 0 4 0 0,.p (.int .i64 0),.p (.int .i64 1)]
  [⟨true,4,[[.p (.int .i64 room),.bs 1 4 true 0 2,.mh 2,.p (.int .i64 wh)]],true⟩,⟨true,4,[[.p (.int .i64 v0),.p (.int .i64 a0),.p (.int .i64 b0),.p (.int .i64 w0)],[.p (.int .i64 v1),.p (.int .i64 a1),.p (.int .i64 b1),.p (.int .i64 w1)]],true⟩,⟨true,0,[[.p (.int .i64 v1),.p (.int .i64 x1)],[.p (.int .i64 v0),.p (.int .i64 x0)]],true⟩]
  [some ⟨true,4,[[.p (.int .i64 room),.bs 1 4 true 0 2,.mh 2,.p (.int .i64 wh)]],false⟩,some ⟨true,4,[[.p (.int .i64 v1),.p (.int .i64 a1),.p (.int .i64 b1),.p (.int .i64 w1)],[.p (.int .i64 v0),.p (.int .i64 a0),.p (.int .i64 b0),.p (.int .i64 w0)]],false⟩,some ⟨true,0,[[.p (.int .i64 v1),.p (.int .i64 0)],[.p (.int .i64 v0),.p (.int .i64 1)]],false⟩] (.tup []):=by
 refine eU rfl (by simp[G3]) fun ss hl hn=>?_
 match ss,hl,hn with
 |[s0,s1],_,hn=>
  have hs:s0≠s1:=by simpa using hn
  have hv':=hv.symm;have hs':=hs.symm;refine⟨[[.p (.int .i64 v1),.p (.int .i64 0),.p (.int .i64 s0)],[.p (.int .i64 v0),.p (.int .i64 1),.p (.int .i64 s1)]],rfl,?_⟩;refine Fn.runO XW rfl rfl rfl ?_;generalize Tryz.prog=P at *
  (repeat'((conv=>whnf);first|exact trivial|(with_reducible first|refine zX ?_|refine zP ?_|refine zL ?_)|refine⟨rfl,?_⟩|refine⟨_,rfl,?_⟩|refine⟨fun _=>?_,fun _=>?_⟩|refine zn ?_|refine zb rfl ?_|refine zX ?_|refine zo rfl ?_|refine zs ?_|intro _));all_goals(try(conv=>whnf))
  generalize hq:cQ _ _ _=q;obtain rfl:q=some (.int .i64 x1,s0):=by rw[<-hq,dH];exact(by simp[bT,c7,cW,hv,hs,hv',hs']:bT (some .i64) (.int .i64 v1) [[.p (.int .i64 v1),.p (.int .i64 x1),.p (.int .i64 s0)],[.p (.int .i64 v0),.p (.int .i64 x0),.p (.int .i64 s1)]]=some (.int .i64 x1,s0))
  clear hq
  (repeat'((conv=>whnf);first|exact trivial|(with_reducible first|refine zX ?_|refine zP ?_|refine zL ?_)|refine⟨rfl,?_⟩|refine⟨_,rfl,?_⟩|refine⟨fun _=>?_,fun _=>?_⟩|refine zn ?_|refine zb rfl ?_|refine zX ?_|refine zo rfl ?_|refine zs ?_|intro _));all_goals(try(conv=>whnf))
  generalize hq:dQ _ _ _=q;obtain rfl:q=some [[.p (.int .i64 v1),.p (.int .i64 0),.p (.int .i64 s0)],[.p (.int .i64 v0),.p (.int .i64 x0),.p (.int .i64 s1)]]:=by rw[<-hq,eG];exact(by simp[dG,hv,hs,hv',hs']:dG s0 (.p (.int .i64 0)) [[.p (.int .i64 v1),.p (.int .i64 x1),.p (.int .i64 s0)],[.p (.int .i64 v0),.p (.int .i64 x0),.p (.int .i64 s1)]]=some [[.p (.int .i64 v1),.p (.int .i64 0),.p (.int .i64 s0)],[.p (.int .i64 v0),.p (.int .i64 x0),.p (.int .i64 s1)]])
  clear hq
  (repeat'((conv=>whnf);first|exact trivial|(with_reducible first|refine zX ?_|refine zP ?_|refine zL ?_)|refine⟨rfl,?_⟩|refine⟨_,rfl,?_⟩|refine⟨fun _=>?_,fun _=>?_⟩|refine zn ?_|refine zb rfl ?_|refine zX ?_|refine zo rfl ?_|refine zs ?_|intro _));all_goals(try(conv=>whnf))
  generalize hq:cQ _ _ _=q;obtain rfl:q=some (.int .i64 x0,s1):=by rw[<-hq,dH];exact(by simp[bT,c7,cW,hv,hs,hv',hs']:bT (some .i64) (.int .i64 v0) [[.p (.int .i64 v1),.p (.int .i64 0),.p (.int .i64 s0)],[.p (.int .i64 v0),.p (.int .i64 x0),.p (.int .i64 s1)]]=some (.int .i64 x0,s1))
  clear hq
  (repeat'((conv=>whnf);first|exact trivial|(with_reducible first|refine zX ?_|refine zP ?_|refine zL ?_)|refine⟨rfl,?_⟩|refine⟨_,rfl,?_⟩|refine⟨fun _=>?_,fun _=>?_⟩|refine zn ?_|refine zb rfl ?_|refine zX ?_|refine zo rfl ?_|refine zs ?_|intro _));all_goals(try(conv=>whnf))
  generalize hq:dQ _ _ _=q;obtain rfl:q=some [[.p (.int .i64 v1),.p (.int .i64 0),.p (.int .i64 s0)],[.p (.int .i64 v0),.p (.int .i64 1),.p (.int .i64 s1)]]:=by rw[<-hq,eG];exact(by simp[dG,hv,hs,hv',hs']:dG s1 (.p (.int .i64 1)) [[.p (.int .i64 v1),.p (.int .i64 0),.p (.int .i64 s0)],[.p (.int .i64 v0),.p (.int .i64 x0),.p (.int .i64 s1)]]=some [[.p (.int .i64 v1),.p (.int .i64 0),.p (.int .i64 s0)],[.p (.int .i64 v0),.p (.int .i64 1),.p (.int .i64 s1)]])
  clear hq
  (repeat'((conv=>whnf);first|exact trivial|(with_reducible first|refine zX ?_|refine zP ?_|refine zL ?_)|refine⟨rfl,?_⟩|refine⟨_,rfl,?_⟩|refine⟨fun _=>?_,fun _=>?_⟩|refine zn ?_|refine zb rfl ?_|refine zX ?_|refine zo rfl ?_|refine zs ?_|intro _));all_goals(try(conv=>whnf))
  all_goals rfl
theorem DB(room wh a0 b0 w0 x0:Int)(v0:Int):aX Tryz.prog 88 [.addr 0 4 0 0,.p (.int .i64 0),.p (.int .i64 0)]
  [⟨true,4,[[.p (.int .i64 room),.bs 1 4 true 0 1,.mh 2,.p (.int .i64 wh)]],true⟩,⟨true,4,[[.p (.int .i64 v0),.p (.int .i64 a0),.p (.int .i64 b0),.p (.int .i64 w0)]],true⟩,⟨true,0,[[.p (.int .i64 v0),.p (.int .i64 x0)]],true⟩]
  [some ⟨true,4,[[.p (.int .i64 room),.bs 1 4 true 0 1,.mh 2,.p (.int .i64 wh)]],false⟩,some ⟨true,4,[[.p (.int .i64 v0),.p (.int .i64 a0),.p (.int .i64 b0),.p (.int .i64 w0)]],false⟩,some ⟨true,0,[[.p (.int .i64 v0),.p (.int .i64 0)]],false⟩] (.tup []):=by
 refine eU rfl (by simp[G3]) fun ss hl hn=>?_
 match ss,hl,hn with
 |[s0],_,hn=>
  refine⟨[[.p (.int .i64 v0),.p (.int .i64 0),.p (.int .i64 s0)]],rfl,?_⟩;refine Fn.runO XW rfl rfl rfl ?_;generalize Tryz.prog=P at *
  (repeat'((conv=>whnf);first|exact trivial|(with_reducible first|refine zX ?_|refine zP ?_|refine zL ?_)|refine⟨rfl,?_⟩|refine⟨_,rfl,?_⟩|refine⟨fun _=>?_,fun _=>?_⟩|refine zn ?_|refine zb rfl ?_|refine zX ?_|refine zo rfl ?_|refine zs ?_|intro _));all_goals(try(conv=>whnf))
  generalize hq:cQ _ _ _=q;obtain rfl:q=some (.int .i64 x0,s0):=by rw[<-hq,dH];exact(by simp[bT,c7,cW]:bT (some .i64) (.int .i64 v0) [[.p (.int .i64 v0),.p (.int .i64 x0),.p (.int .i64 s0)]]=some (.int .i64 x0,s0))
  clear hq
  (repeat'((conv=>whnf);first|exact trivial|(with_reducible first|refine zX ?_|refine zP ?_|refine zL ?_)|refine⟨rfl,?_⟩|refine⟨_,rfl,?_⟩|refine⟨fun _=>?_,fun _=>?_⟩|refine zn ?_|refine zb rfl ?_|refine zX ?_|refine zo rfl ?_|refine zs ?_|intro _));all_goals(try(conv=>whnf))
  generalize hq:dQ _ _ _=q;obtain rfl:q=some [[.p (.int .i64 v0),.p (.int .i64 0),.p (.int .i64 s0)]]:=by rw[<-hq,eG];exact(by simp[dG]:dG s0 (.p (.int .i64 0)) [[.p (.int .i64 v0),.p (.int .i64 x0),.p (.int .i64 s0)]]=some [[.p (.int .i64 v0),.p (.int .i64 0),.p (.int .i64 s0)]])
  clear hq
  (repeat'((conv=>whnf);first|exact trivial|(with_reducible first|refine zX ?_|refine zP ?_|refine zL ?_)|refine⟨rfl,?_⟩|refine⟨_,rfl,?_⟩|refine⟨fun _=>?_,fun _=>?_⟩|refine zn ?_|refine zb rfl ?_|refine zX ?_|refine zo rfl ?_|refine zs ?_|intro _));all_goals(try(conv=>whnf))
  generalize hq:cQ _ _ _=q;obtain rfl:q=some (.int .i64 0,s0):=by rw[<-hq,dH];exact(by simp[bT,c7,cW]:bT (some .i64) (.int .i64 v0) [[.p (.int .i64 v0),.p (.int .i64 0),.p (.int .i64 s0)]]=some (.int .i64 0,s0))
  clear hq
  (repeat'((conv=>whnf);first|exact trivial|(with_reducible first|refine zX ?_|refine zP ?_|refine zL ?_)|refine⟨rfl,?_⟩|refine⟨_,rfl,?_⟩|refine⟨fun _=>?_,fun _=>?_⟩|refine zn ?_|refine zb rfl ?_|refine zX ?_|refine zo rfl ?_|refine zs ?_|intro _));all_goals(try(conv=>whnf))
  generalize hq:dQ _ _ _=q;obtain rfl:q=some [[.p (.int .i64 v0),.p (.int .i64 0),.p (.int .i64 s0)]]:=by rw[<-hq,eG];exact(by simp[dG]:dG s0 (.p (.int .i64 0)) [[.p (.int .i64 v0),.p (.int .i64 0),.p (.int .i64 s0)]]=some [[.p (.int .i64 v0),.p (.int .i64 0),.p (.int .i64 s0)]])
  clear hq
  (repeat'((conv=>whnf);first|exact trivial|(with_reducible first|refine zX ?_|refine zP ?_|refine zL ?_)|refine⟨rfl,?_⟩|refine⟨_,rfl,?_⟩|refine⟨fun _=>?_,fun _=>?_⟩|refine zn ?_|refine zb rfl ?_|refine zX ?_|refine zo rfl ?_|refine zs ?_|intro _));all_goals(try(conv=>whnf))
  all_goals rfl
theorem DA(room wh a0 b0 w0 x0 a1 b1 w1 x1:Int)(v0 v1:ByteArray)(hv:v0.data.toList≠v1.data.toList):aX Tryz.prog 189 [.addr 0 4 0 0,.p (.int .i64 1),.p (.int .i64 0)]
  [⟨true,4,[[.p (.int .i64 room),.bs 1 4 true 0 2,.mh 2,.p (.int .i64 wh)]],true⟩,⟨true,4,[[.p (.str v0),.p (.int .i64 a0),.p (.int .i64 b0),.p (.int .i64 w0)],[.p (.str v1),.p (.int .i64 a1),.p (.int .i64 b1),.p (.int .i64 w1)]],true⟩,⟨true,0,[[.p (.str v0),.p (.int .i64 x0)],[.p (.str v1),.p (.int .i64 x1)]],true⟩]
  [some ⟨true,4,[[.p (.int .i64 room),.bs 1 4 true 0 2,.mh 2,.p (.int .i64 wh)]],false⟩,some ⟨true,4,[[.p (.str v1),.p (.int .i64 a1),.p (.int .i64 b1),.p (.int .i64 w1)],[.p (.str v0),.p (.int .i64 a0),.p (.int .i64 b0),.p (.int .i64 w0)]],false⟩,some ⟨true,0,[[.p (.str v0),.p (.int .i64 1)],[.p (.str v1),.p (.int .i64 0)]],false⟩] (.tup []):=by
 refine eU rfl (by simp[G3]) fun ss hl hn=>?_
 match ss,hl,hn with
 |[s0,s1],_,hn=>
  have hs:s0≠s1:=by simpa using hn
  have hv':=hv.symm;have hs':=hs.symm;refine⟨[[.p (.str v0),.p (.int .i64 1),.p (.int .i64 s0)],[.p (.str v1),.p (.int .i64 0),.p (.int .i64 s1)]],rfl,?_⟩;refine Fn.runO XF rfl rfl rfl ?_;generalize Tryz.prog=P at *
  (repeat'((conv=>whnf);first|exact trivial|(with_reducible first|refine zX ?_|refine zP ?_|refine zL ?_)|refine⟨rfl,?_⟩|refine⟨_,rfl,?_⟩|refine⟨fun _=>?_,fun _=>?_⟩|refine zn ?_|refine zb rfl ?_|refine zX ?_|refine zo rfl ?_|refine zs ?_|intro _));all_goals(try(conv=>whnf))
  generalize hq:cQ _ _ _=q;obtain rfl:q=some (.int .i64 x0,s0):=by rw[<-hq,dH];exact(by simp[bT,c7,cW,hv,hs,hv',hs']:bT none (.str v0) [[.p (.str v0),.p (.int .i64 x0),.p (.int .i64 s0)],[.p (.str v1),.p (.int .i64 x1),.p (.int .i64 s1)]]=some (.int .i64 x0,s0))
  clear hq
  (repeat'((conv=>whnf);first|exact trivial|(with_reducible first|refine zX ?_|refine zP ?_|refine zL ?_)|refine⟨rfl,?_⟩|refine⟨_,rfl,?_⟩|refine⟨fun _=>?_,fun _=>?_⟩|refine zn ?_|refine zb rfl ?_|refine zX ?_|refine zo rfl ?_|refine zs ?_|intro _));all_goals(try(conv=>whnf))
  generalize hq:dQ _ _ _=q;obtain rfl:q=some [[.p (.str v0),.p (.int .i64 1),.p (.int .i64 s0)],[.p (.str v1),.p (.int .i64 x1),.p (.int .i64 s1)]]:=by rw[<-hq,eG];exact(by simp[dG,hv,hs,hv',hs']:dG s0 (.p (.int .i64 1)) [[.p (.str v0),.p (.int .i64 x0),.p (.int .i64 s0)],[.p (.str v1),.p (.int .i64 x1),.p (.int .i64 s1)]]=some [[.p (.str v0),.p (.int .i64 1),.p (.int .i64 s0)],[.p (.str v1),.p (.int .i64 x1),.p (.int .i64 s1)]])
  clear hq
  (repeat'((conv=>whnf);first|exact trivial|(with_reducible first|refine zX ?_|refine zP ?_|refine zL ?_)|refine⟨rfl,?_⟩|refine⟨_,rfl,?_⟩|refine⟨fun _=>?_,fun _=>?_⟩|refine zn ?_|refine zb rfl ?_|refine zX ?_|refine zo rfl ?_|refine zs ?_|intro _));all_goals(try(conv=>whnf))
  generalize hq:cQ _ _ _=q;obtain rfl:q=some (.int .i64 x1,s1):=by rw[<-hq,dH];exact(by simp[bT,c7,cW,hv,hs,hv',hs']:bT none (.str v1) [[.p (.str v0),.p (.int .i64 1),.p (.int .i64 s0)],[.p (.str v1),.p (.int .i64 x1),.p (.int .i64 s1)]]=some (.int .i64 x1,s1))
  clear hq
  (repeat'((conv=>whnf);first|exact trivial|(with_reducible first|refine zX ?_|refine zP ?_|refine zL ?_)|refine⟨rfl,?_⟩|refine⟨_,rfl,?_⟩|refine⟨fun _=>?_,fun _=>?_⟩|refine zn ?_|refine zb rfl ?_|refine zX ?_|refine zo rfl ?_|refine zs ?_|intro _));all_goals(try(conv=>whnf))
  generalize hq:dQ _ _ _=q;obtain rfl:q=some [[.p (.str v0),.p (.int .i64 1),.p (.int .i64 s0)],[.p (.str v1),.p (.int .i64 0),.p (.int .i64 s1)]]:=by rw[<-hq,eG];exact(by simp[dG,hv,hs,hv',hs']:dG s1 (.p (.int .i64 0)) [[.p (.str v0),.p (.int .i64 1),.p (.int .i64 s0)],[.p (.str v1),.p (.int .i64 x1),.p (.int .i64 s1)]]=some [[.p (.str v0),.p (.int .i64 1),.p (.int .i64 s0)],[.p (.str v1),.p (.int .i64 0),.p (.int .i64 s1)]])
  clear hq
  (repeat'((conv=>whnf);first|exact trivial|(with_reducible first|refine zX ?_|refine zP ?_|refine zL ?_)|refine⟨rfl,?_⟩|refine⟨_,rfl,?_⟩|refine⟨fun _=>?_,fun _=>?_⟩|refine zn ?_|refine zb rfl ?_|refine zX ?_|refine zo rfl ?_|refine zs ?_|intro _));all_goals(try(conv=>whnf))
  all_goals rfl
open Go.RowKit
def YM(i k:Int)(room:Int)(n:Nat)(wh:Int)(rows mrows:List (List DV)):Option (List (Option Box)×DV) :=
 match n,rows,mrows with
 |2,[[.p (.int .i64 v0),.p (.int .i64 a0),.p (.int .i64 b0),.p (.int .i64 w0)],[.p (.int .i64 v1),.p (.int .i64 a1),.p (.int .i64 b1),.p (.int .i64 w1)]],[[.p (.int .i64 u0),.p (.int .i64 x0)],[.p (.int .i64 u1),.p (.int .i64 x1)]]=>
  if i=1/\k=0/\u0=v0/\u1=v1/\v0≠v1 then some ([some ⟨true,4,[[.p (.int .i64 room),.bs 1 4 true 0 2,.mh 2,.p (.int .i64 wh)]],false⟩,some ⟨true,4,[[.p (.int .i64 v1),.p (.int .i64 a1),.p (.int .i64 b1),.p (.int .i64 w1)],[.p (.int .i64 v0),.p (.int .i64 a0),.p (.int .i64 b0),.p (.int .i64 w0)]],false⟩,
   some ⟨true,0,[[.p (.int .i64 v0),.p (.int .i64 1)],[.p (.int .i64 v1),.p (.int .i64 0)]],false⟩],.tup [])
  else if i=0/\k=1/\u0=v1/\u1=v0/\v0≠v1 then some ([some ⟨true,4,[[.p (.int .i64 room),.bs 1 4 true 0 2,.mh 2,.p (.int .i64 wh)]],false⟩,some ⟨true,4,[[.p (.int .i64 v1),.p (.int .i64 a1),.p (.int .i64 b1),.p (.int .i64 w1)],[.p (.int .i64 v0),.p (.int .i64 a0),.p (.int .i64 b0),.p (.int .i64 w0)]],false⟩,
   some ⟨true,0,[[.p (.int .i64 v1),.p (.int .i64 0)],[.p (.int .i64 v0),.p (.int .i64 1)]],false⟩],.tup [])
  else none
 |1,[[.p (.int .i64 v0),.p (.int .i64 a0),.p (.int .i64 b0),.p (.int .i64 w0)]],[[.p (.int .i64 u0),.p (.int .i64 x0)]]=>
  if i=0/\k=0/\u0=v0 then some ([some ⟨true,4,[[.p (.int .i64 room),.bs 1 4 true 0 1,.mh 2,.p (.int .i64 wh)]],false⟩,some ⟨true,4,[[.p (.int .i64 v0),.p (.int .i64 a0),.p (.int .i64 b0),.p (.int .i64 w0)]],false⟩,
   some ⟨true,0,[[.p (.int .i64 v0),.p (.int .i64 0)]],false⟩],.tup [])
  else none
 |_,_,_=>none
def YY(i k:Int)(room:Int)(n:Nat)(wh:Int)(rows mrows:List (List DV)):Option (List (Option Box)×DV) :=
 match n,rows,mrows with
 |2,[[.p (.str v0),.p (.int .i64 a0),.p (.int .i64 b0),.p (.int .i64 w0)],[.p (.str v1),.p (.int .i64 a1),.p (.int .i64 b1),.p (.int .i64 w1)]],[[.p (.str u0),.p (.int .i64 x0)],[.p (.str u1),.p (.int .i64 x1)]]=>
  if i=1/\k=0/\u0.data.toList=v0.data.toList/\u1.data.toList=v1.data.toList/\v0.data.toList≠v1.data.toList then some ([some ⟨true,4,[[.p (.int .i64 room),.bs 1 4 true 0 2,.mh 2,.p (.int .i64 wh)]],false⟩,some ⟨true,4,[[.p (.str v1),.p (.int .i64 a1),.p (.int .i64 b1),.p (.int .i64 w1)],[.p (.str v0),.p (.int .i64 a0),.p (.int .i64 b0),.p (.int .i64 w0)]],false⟩,
   some ⟨true,0,[[.p (.str v0),.p (.int .i64 1)],[.p (.str v1),.p (.int .i64 0)]],false⟩],.tup [])
  else none
 |_,_,_=>none
def FF(f:FuncId)(args:List DV)(bs:List Box):Option (List (Option Box)×DV) :=
 match args,bs with
 |[.addr 0 4 0 0,.p (.int .i64 i),.p (.int .i64 k)],[⟨true,4,[[.p (.int .i64 room),.bs 1 4 true 0 n,.mh 2,.p (.int .i64 wh)]],true⟩,⟨true,4,rows,true⟩,⟨true,0,mrows,true⟩]=>
  if f=88 then YM i k room n wh rows mrows else if f=189 then YY i k room n wh rows mrows else none
 |_,_=>none
theorem F7(f:FuncId)(args:List DV)(bs:List Box)(bs':List (Option Box))(d:DV)(h:FF f args bs=some (bs',d)):aX Tryz.prog f args bs bs' d:=by
 unfold FF at h
 split at h
 ·split at h
  ·rename_i e;subst e
   unfold YM at h
   split at h
   ·split at h
    ·rename_i hc
     obtain⟨rfl,rfl,rfl,rfl,hv⟩:=hc;simp only[bG,Prod.mk.injEq] at h;obtain⟨rfl,rfl⟩:=h;exact EP _ _ _ _ _ _ _ _ _ _ _ _ hv
    ·split at h
     ·rename_i hc
      obtain⟨rfl,rfl,rfl,rfl,hv⟩:=hc;simp only[bG,Prod.mk.injEq] at h;obtain⟨rfl,rfl⟩:=h;exact G7 _ _ _ _ _ _ _ _ _ _ _ _ hv
     ·cases h
   ·split at h
    ·rename_i hc
     obtain⟨rfl,rfl,rfl⟩:=hc;simp only[bG,Prod.mk.injEq] at h;obtain⟨rfl,rfl⟩:=h;exact DB _ _ _ _ _ _ _
    ·cases h
   ·cases h
  ·split at h
   ·rename_i e;subst e
    unfold YY at h
    split at h
    ·split at h
     ·rename_i hc
      obtain⟨rfl,rfl,h1,h2,hv⟩:=hc;have h1:=mZ h1;have h2:=mZ h2;subst h1;subst h2;simp only[bG,Prod.mk.injEq] at h;obtain⟨rfl,rfl⟩:=h;exact DA _ _ _ _ _ _ _ _ _ _ _ _ hv
     ·cases h
    ·cases h
   ·cases h
 ·cases h
def LA(f:FuncId)(args:List DV)(bs:List Box):Option (List (Option Box)×DV) :=
 match O9 f args bs with
 |some r=>some r
 |none=>FF f args bs
theorem HN(f:FuncId)(args:List DV)(bs:List Box)(bs':List (Option Box))(d:DV)(h:LA f args bs=some (bs',d)):aX Tryz.prog f args bs bs' d:=by
 unfold LA at h
 split at h
 ·rename_i e;rw[h] at e;exact HA _ _ _ _ _ e
 ·exact F7 _ _ _ _ _ h
def RQ:Tbl:=(87,ZG) ::(89,YD) ::(140,R3) ::(141,RE) ::(55,YE) ::(56,YH) ::(57,ZU) ::(58,ZK) ::(95,YP) ::(54,Z8) ::(161,ST) ::(190,T2) ::(191,UK) ::(113,R4) ::(160,T3) ::(114,R2) ::(122,TY) ::(109,UH) ::(72,ZE) ::(71,YB) ::(73,YI) ::(99,XX) ::(100,RR) ::(69,YA) ::(115,PY) ::(116,QK) ::(162,QN) ::(123,RC) ::(192,TL) ::(110,S9) ::(91,Z4) ::(93,YC) ::(94,YZ) ::(63,ZD) ::(60,Y1) ::(117,SG) ::(118,S4) ::(163,RG) ::(111,T0) ::(28,ZA) ::(29,Z2) ::(30,Y6) ::(31,Z7) ::(27,YX) ::(38,ZM) ::(37,ZO) ::(39,YW) ::(40,YO) ::(70,YL) ::(36,Z1) ::(41,Y4) ::(33,Y5) ::(34,ZQ) ::(35,ZC) ::(61,ZN) ::(32,XZ) ::(65,ZI) ::(120,S1) ::(19,Y2) ::(20,YR) ::(22,Z3) ::(24,ZB) ::(25,ZJ) ::(26,UV) ::(53,YT) ::(44,Y3) ::(76,ZZ) ::(15,Y8) ::(64,YK) ::(96,Z6) ::(142,RN) ::(66,ZH) ::(43,ZY) ::NA
theorem tblK_ok:TblOK Tryz.prog RQ:=.cons k87 <| .cons k89 <| .cons VF <| .cons XD <| .cons k55 <| .cons k56 <| .cons k57 <| .cons k58 <| .cons k95 <| .cons k54 <| .cons XL <| .cons XG <| .cons WD <| .cons VW <| .cons VV <| .cons V6 <| .cons VS <| .cons X8 <| .cons k72 <| .cons k71 <| .cons k73 <| .cons k99 <| .cons XH <| .cons k69 <| .cons WI <| .cons XR <| .cons W7 <| .cons VE <| .cons WH <| .cons WM <| .cons k91 <| .cons k93 <| .cons k94 <| .cons k63 <| .cons k60 <| .cons WK <| .cons X5 <| .cons X6 <| .cons VT <| .cons k28 <| .cons k29 <| .cons k30 <| .cons k31 <| .cons k27 <| .cons k38 <| .cons k37 <| .cons k39 <| .cons k40 <| .cons k70 <| .cons k36 <| .cons k41 <| .cons k33 <| .cons k34 <| .cons k35 <| .cons k61 <| .cons k32 <| .cons k65 <| .cons WB <| .cons k19 <| .cons k20 <| .cons k22 <| .cons k24 <| .cons k25 <| .cons XS <| .cons k53 <| .cons ZW <| .cons k76 <| .cons k15 <| .cons k64 <| .cons k96 <| .cons V7 <| .cons k66 <| .cons YJ<|tblO_ok
def X7(zs:List Nat)(n:Nat):Env:=oK (EL zs) LA (Tbl.del zs RQ) n
theorem zR{zs:List Nat}(h:∀z,z∈zs->aO Tryz.prog z [] (.p (.bool true)))(n:Nat):(X7 zs n).OK Tryz.prog:=lB (tX h) HN (tblK_ok.del zs)
open Go.RowKit
theorem HT:aO Tryz.prog 43 [] (.p (.bool true)):=by
 have h:=OQ;refine Fn.run YJ rfl ?_;generalize Tryz.prog=P at *
 (repeat'((conv=>whnf);first|exact trivial|(with_reducible first|refine zX ?_|refine zP ?_|refine zL ?_)|refine⟨rfl,?_⟩|refine⟨_,rfl,?_⟩|refine⟨fun _=>?_,fun _=>?_⟩|refine zn ?_|refine zb rfl ?_|refine zX ?_|refine zo rfl ?_|refine zs ?_|intro _));all_goals(try(conv=>whnf))
 all_goals rfl
theorem IQ:aO Tryz.prog 76 [] (.p (.bool true)):=(zR (zs:=[121]) (fun z hz=>by simp at hz;subst hz;exact w5) 100).call 76 [] (.p (.bool true)) (by kernel_rfl)
theorem IF:aO Tryz.prog 44 [] (.p (.bool true)):=by
 have h:=IQ;refine Fn.run ZW rfl ?_;generalize Tryz.prog=P at *
 (repeat'((conv=>whnf);first|exact trivial|(with_reducible first|refine zX ?_|refine zP ?_|refine zL ?_)|refine⟨rfl,?_⟩|refine⟨_,rfl,?_⟩|refine⟨fun _=>?_,fun _=>?_⟩|refine zn ?_|refine zb rfl ?_|refine zX ?_|refine zo rfl ?_|refine zs ?_|intro _));all_goals(try(conv=>whnf))
 all_goals rfl
theorem NL:aO Tryz.prog 15 [] (.p (.bool true)):=(zR (zs:=[43,44]) (fun z hz=>by simp at hz;rcases hz with rfl|rfl;exact HT;exact IF) 100).call 15 [] (.p (.bool true)) (by kernel_rfl)
open Go.RowKit Ma
theorem SO(nl:Bool)(dues:List Int):aO Tryz.prog 8 [.sl 1 nl (dues.map eI)] (.p (.bool true)):=by
 have hbeg:aO Tryz.prog 15 [] (.p (.bool true)):=NL;have hnew:aX Tryz.prog 27 [] [] [some (Bn.z.box false)] (.addr 0 1 0 0):=WE
 obtain⟨N,hNe,hN12,hNl⟩:∃N:Nat,(if (12:Int)<((dues.map eI).length:Int) then (12:Int) else ((dues.map eI).length:Int))=(N:Int)/\N<=12/\N<=dues.length:=by
  refine⟨min dues.length 12,?_,by omega,by omega⟩
  rw[List.length_map];split<;>omega
 let DL:Int->Int:=fun v=>cC .and .i64 (dues.getD (v-1).toNat 0) 15
 have hDL:∀v:Int,1<=v->v<=N->∃x,(dues.map eI)[(IntKind.wrap IntKind.i64 (v-1)).toNat]?=some (.int .i64 x)/\0<=IntKind.wrap IntKind.i64 (v-1)/\DL v=cC .and .i64 x 15:=fun v h1 h2=>by
  have hw:IntKind.wrap IntKind.i64 (v-1)=v-1:=bJ (by omega) (by omega)
  have hl:(v-1).toNat<dues.length:=by omega
  refine⟨dues[(v-1).toNat],by rw[hw];simp[hl,eI],by omega,?_⟩
  show cC .and .i64 (dues.getD (v-1).toNat 0) 15=_
  rw[List.getD_eq_getElem?_getD,List.getElem?_eq_getElem hl];rfl
 have hDi:∀i (h:i<dues.length),DL ((i:Int)+1)=cC .and .i64 dues[i] 15:=fun i h=>by
  show cC .and .i64 (dues.getD ((i:Int)+1-1).toNat 0) 15=_
  rw[show ((i:Int)+1-1).toNat=i by omega,List.getD_eq_getElem?_getD,List.getElem?_eq_getElem h];rfl
 clear_value DL
 have hR:∀(b:Bn) (S:List (Int×Int)),b.Is S->∀v a:Int,1<=v->(∀p,p∈S->p.1≠v)->S.length<=900 ->
  ∃b':Bn,b'.Is (S++[(v,a)])/\aX Tryz.prog 28 [.addr 0 1 0 0,.p (.int .i64 v),.p (.int .i64 a)] [b.box true] [some (b'.box false)] (.p (.bool true)):=fun b S h v a h1 hv hl=>CJ h v a h1 hv hl
 have hL:∀(b:Bn) (S:List (Int×Int)),b.Is S->∀v a:Int,(v,a)∈S->(S.map (·.1)).Nodup->S.length<=900 ->
  ∃(b':Bn) (S':List (Int×Int)),((v,a) ::S').Perm S/\b'.Is S'/\aX Tryz.prog 29 [.addr 0 1 0 0,.p (.int .i64 v)] [b.box true] [some (b'.box false)] (.p (.bool true)):=fun b S h v a hv hn hl=>E1 h hv hn hl
 have hS:∀(b:Bn) (S:List (Int×Int)),b.Is S->S≠[]->∃v a:Int,(v,a)∈S/\(∀p,p∈S->a<p.2\/(a=p.2/\v<=p.1)) /\
  aX Tryz.prog 30 [.addr 0 1 0 0] [b.box true] [some (b.box false)] (.p (.int .i64 v)):=fun b S h hne=>D4 h hne
 have hS0:∀(b:Bn),b.Is []->aX Tryz.prog 30 [.addr 0 1 0 0] [b.box true] [some (b.box false)] (.p (.int .i64 0)):=fun b h=>D0 h
 have hLn:∀(b:Bn) (S:List (Int×Int)),b.Is S->aX Tryz.prog 31 [.addr 0 1 0 0] [b.box true] [some (b.box false)] (.p (.int .i64 S.length)):=fun b S h=>T9 h
 refine Fn.run k8 rfl ?_;generalize Tryz.prog=P at *
 (repeat' ((conv=>whnf);first|exact trivial|with_reducible refine zX ?_|refine⟨rfl,?_⟩|refine⟨_,rfl,?_⟩|with_reducible refine zP ?_|with_reducible refine zL ?_|refine⟨fun _=>?_,fun _=>?_⟩|refine zO ?_|refine zn ?_|refine zb rfl ?_|refine zX ?_|refine zo rfl ?_|refine zs ?_|intro _|((with_reducible show testB.match_1 (fun _=>Prop) _ _ _);refine dY (by (first|exact rfl|(simp only[aV,aL,aM,bC,aH,aQ,List.all_cons,List.all_nil,aG,a6,a7,aB,aC,aA,bA,aE,a8,Bool.or_true,Bool.true_and,Bool.and_true];done)|(simp only[aV,aL,aM,bC,aH,aQ,List.all_cons,List.all_nil,aG,a6,a7,aB,aC,aA,bA,aE,a8,Bool.or_true,Bool.true_and,Bool.and_true];exact rfl))) ?_)));all_goals (try (conv=>whnf))
 rw[hNe]
 refine cE (fun n s=>∃(b:Bn) (i:Nat),(i+n=N/\b.Is ((List.range i).map fun (j:Nat)=>((j:Int)+1,DL ((j:Int)+1)))) /\
  s=⟨uB 100 [(0,.p (.sl 1 nl (dues.map eI))),(4,.addr 0 1 0 0),(5,.p (.int .i64 N)),(6,.p (.int .i64 i))],[some (b.box false)]⟩) N ?_ ?_
 ·conv=>whnf
  exact⟨.z,0,⟨by omega,rfl⟩,rfl⟩
 ·rintro n st b0 N1 ⟨b,i,⟨hn,hQ⟩,e0⟩ hN
  cases e0
  by_cases hlt:i<N
  ·have c1:decide ((i:Int)<(N:Int))=true:=decide_eq_true (by omega)
   have hil:i<dues.length:=by omega
   have hr1:(dues.map eI)[i]?=some (.int .i64 dues[i]):=by simp[hil,eI]
   have hd:=hDi i hil;have e2:IntKind.wrap IntKind.i64 ((i:Int)+1)=((i+1:Nat):Int):=by rw[bJ (by omega) (by omega)];omega
   have e3:IntKind.wrap IntKind.i64 ((i:Int)+1)=(i:Int)+1:=bJ (by omega) (by omega)
   obtain⟨b',hQ',q1⟩:=hR b _ hQ (IntKind.wrap IntKind.i64 ((i:Int)+1)) (cC .and .i64 dues[i] 15) (by rw[e2];omega) (fun p hp=>by
    obtain⟨j,hj,rfl⟩:=List.mem_map.1 hp;have:=List.mem_range.1 hj;rw[e3];simp only;omega) (by simp;omega)
   have hstep:∀{s:St},s=⟨uB 100 [(0,.p (.sl 1 nl (dues.map eI))),(4,.addr 0 1 0 0),(5,.p (.int .i64 N)),(6,.p (.int .i64 (IntKind.wrap IntKind.i64 ((i:Int)+1))))],[some (b'.box false)]⟩->N1 s:=fun e4=>by
    rw[e2] at e4;refine hN (n-1) _ (by omega) ⟨b',i+1,⟨by omega,?_⟩,e4⟩
    rw[List.range_succ,List.map_append,List.map_cons,List.map_nil,hd];rw[e3] at hQ';exact hQ'
   generalize dues[i]=x at *;clear hN hR hL hS hS0 hLn hDL hDi
   (repeat' ((conv=>whnf);first|exact trivial|with_reducible refine zX ?_|refine⟨rfl,?_⟩|refine⟨_,rfl,?_⟩|with_reducible refine zP ?_|with_reducible refine zL ?_|refine⟨fun _=>?_,fun _=>?_⟩|refine zO ?_|refine zn ?_|refine zb rfl ?_|refine zX ?_|refine zo rfl ?_|refine zs ?_|intro _|((with_reducible show testB.match_1 (fun _=>Prop) _ _ _);refine dY (by (first|exact rfl|(simp only[aV,aL,aM,bC,aH,aQ,List.all_cons,List.all_nil,aG,a6,a7,aB,aC,aA,bA,aE,a8,Bool.or_true,Bool.true_and,Bool.and_true];done)|(simp only[aV,aL,aM,bC,aH,aQ,List.all_cons,List.all_nil,aG,a6,a7,aB,aC,aA,bA,aE,a8,Bool.or_true,Bool.true_and,Bool.and_true];exact rfl))) ?_)));all_goals (try (conv=>whnf))
   all_goals exact hstep rfl
  ·have hiN:i=N:=by omega
   subst hiN;have c1:decide ((i:Int)<(i:Int))=false:=decide_eq_false (by omega)
   clear hR hN hDi hNe
   (repeat' ((conv=>whnf);first|exact trivial|with_reducible refine zX ?_|refine⟨rfl,?_⟩|refine⟨_,rfl,?_⟩|with_reducible refine zP ?_|with_reducible refine zL ?_|refine⟨fun _=>?_,fun _=>?_⟩|refine zO ?_|refine zn ?_|refine zb rfl ?_|refine zX ?_|refine zo rfl ?_|refine zs ?_|intro _|((with_reducible show testB.match_1 (fun _=>Prop) _ _ _);refine dY (by (first|exact rfl|(simp only[aV,aL,aM,bC,aH,aQ,List.all_cons,List.all_nil,aG,a6,a7,aB,aC,aA,bA,aE,a8,Bool.or_true,Bool.true_and,Bool.and_true];done)|(simp only[aV,aL,aM,bC,aH,aQ,List.all_cons,List.all_nil,aG,a6,a7,aB,aC,aA,bA,aE,a8,Bool.or_true,Bool.true_and,Bool.and_true];exact rfl))) ?_)));all_goals (try (conv=>whnf))
   refine cE (fun n s=>∃(b:Bn) (q:Nat) (la:Int) (S:List (Int×Int)),(q+n=i/\b.Is S/\S.length+q=i/\(S.map (·.1)).Nodup/\(∀p,p∈S->(1<=p.1/\p.1<=(i:Int))/\p.2=DL p.1) /\
     (la=0\/((1<=la/\la<=(i:Int))/\∀p,p∈S->DL la<p.2\/(DL la=p.2/\la<p.1)))) /\
    s=⟨uB 100 [(0,.p (.sl 1 nl (dues.map eI))),(4,.addr 0 1 0 0),(5,.p (.int .i64 i)),(7,.p (.int .i64 la)),(8,.p (.int .i64 q))],[some (b.box false)]⟩) i ?_ ?_
   ·conv=>whnf
    refine⟨b,0,0,_,⟨by omega,hQ,by simp,?_,fun p hp=>?_,.inl rfl⟩,rfl⟩
    ·rw[List.map_map]
     refine List.nodup_iff_pairwise_ne.2 (List.pairwise_map.2 ((List.nodup_iff_pairwise_ne.1 List.nodup_range).imp fun h e=>h ?_))
     simp only[Function.comp] at e;omega
    ·obtain⟨j,hj,rfl⟩:=List.mem_map.1 hp
     have:=List.mem_range.1 hj;exact⟨by simp only;omega,rfl⟩
   ·rintro n2 st2 b2 N2 ⟨b3,q,la,S,⟨hn2,hI,hlS,hnd,hall,hla⟩,e0⟩ hN2
    cases e0
    by_cases hlt2:q<i
    ·have f1:decide ((q:Int)<(i:Int))=true:=decide_eq_true (by omega)
     have hne:S≠[]:=fun e=>by rw[e] at hlS;simp at hlS;omega
     obtain⟨r,a,hr,hmin,oR⟩:=hS b3 S hI hne;obtain⟨b4,S',hperm,hI',oL⟩:=hL b3 S hI r a hr hnd (by omega)
     have hra:=hall _ hr;simp only at hra;obtain⟨xr,rr,r0,rd⟩:=hDL r hra.1.1 hra.1.2;have e2:IntKind.wrap IntKind.i64 ((q:Int)+1)=((q+1:Nat):Int):=by rw[bJ (by omega) (by omega)];omega
     have d1:decide (r<1)=false:=decide_eq_false (by omega)
     have d2:decide (r>(i:Int))=false:=decide_eq_false (by omega)
     have hnd':=(hperm.map (·.1)).nodup_iff.2 hnd
     rw[List.map_cons,List.nodup_cons] at hnd'
     have hstep:∀{s:St},s=⟨uB 100 [(0,.p (.sl 1 nl (dues.map eI))),(4,.addr 0 1 0 0),(5,.p (.int .i64 i)),(7,.p (.int .i64 r)),(8,.p (.int .i64 (IntKind.wrap IntKind.i64 ((q:Int)+1))))],[some (b4.box false)]⟩->N2 s:=fun e4=>by
      rw[e2] at e4;have hlen:=hperm.length_eq;simp only[List.length_cons] at hlen;refine hN2 (n2-1) _ (by omega) ⟨b4,q+1,r,S',⟨by omega,hI',by omega,hnd'.2,fun p hp=>hall p (hperm.mem_iff.1 (List.mem_cons_of_mem _ hp)),.inr ⟨hra.1,fun p hp=>?_⟩⟩,e4⟩
      have h1:=hmin p (hperm.mem_iff.1 (List.mem_cons_of_mem _ hp));have h2:p.1≠r:=fun e=>hnd'.1 (e▸List.mem_map.2 ⟨p,hp,rfl⟩)
      rw[<-hra.2];omega
     rcases hla with rfl|⟨hl1,hl2⟩
     ·have d3:decide ((0:Int)>0)=false:=rfl
      clear hN2 hL hS hS0 hLn hDL
      (repeat' ((conv=>whnf);first|exact trivial|with_reducible refine zX ?_|refine⟨rfl,?_⟩|refine⟨_,rfl,?_⟩|with_reducible refine zP ?_|with_reducible refine zL ?_|refine⟨fun _=>?_,fun _=>?_⟩|refine zO ?_|refine zn ?_|refine zb rfl ?_|refine zX ?_|refine zo rfl ?_|refine zs ?_|intro _|((with_reducible show testB.match_1 (fun _=>Prop) _ _ _);refine dY (by (first|exact rfl|(simp only[aV,aL,aM,bC,aH,aQ,List.all_cons,List.all_nil,aG,a6,a7,aB,aC,aA,bA,aE,a8,Bool.or_true,Bool.true_and,Bool.and_true];done)|(simp only[aV,aL,aM,bC,aH,aQ,List.all_cons,List.all_nil,aG,a6,a7,aB,aC,aA,bA,aE,a8,Bool.or_true,Bool.true_and,Bool.and_true];exact rfl))) ?_)));all_goals (try (conv=>whnf))
      all_goals exact hstep rfl
     ·have d3:decide (la>0)=true:=decide_eq_true (by omega)
      obtain⟨xl,rl,l0,ld⟩:=hDL la hl1.1 hl1.2;have hk:=hl2 _ hr;simp only at hk;rw[hra.2,ld,rd] at hk;have d4:decide (cC .and .i64 xl 15>cC .and .i64 xr 15)=false:=decide_eq_false (by omega)
      cases e5:(cC .and .i64 xl 15 ==cC .and .i64 xr 15) with
      |true=>
       have d6:decide (la>r)=false:=decide_eq_false (by rw[beq_iff_eq] at e5;omega)
       clear hN2 hL hS hS0 hLn hDL
       (repeat' ((conv=>whnf);first|exact trivial|with_reducible refine zX ?_|refine⟨rfl,?_⟩|refine⟨_,rfl,?_⟩|with_reducible refine zP ?_|with_reducible refine zL ?_|refine⟨fun _=>?_,fun _=>?_⟩|refine zO ?_|refine zn ?_|refine zb rfl ?_|refine zX ?_|refine zo rfl ?_|refine zs ?_|intro _|((with_reducible show testB.match_1 (fun _=>Prop) _ _ _);refine dY (by (first|exact rfl|(simp only[aV,aL,aM,bC,aH,aQ,List.all_cons,List.all_nil,aG,a6,a7,aB,aC,aA,bA,aE,a8,Bool.or_true,Bool.true_and,Bool.and_true];done)|(simp only[aV,aL,aM,bC,aH,aQ,List.all_cons,List.all_nil,aG,a6,a7,aB,aC,aA,bA,aE,a8,Bool.or_true,Bool.true_and,Bool.and_true];exact rfl))) ?_)));all_goals (try (conv=>whnf))
       all_goals exact hstep rfl
      |false=>
       clear hN2 hL hS hS0 hLn hDL
       (repeat' ((conv=>whnf);first|exact trivial|with_reducible refine zX ?_|refine⟨rfl,?_⟩|refine⟨_,rfl,?_⟩|with_reducible refine zP ?_|with_reducible refine zL ?_|refine⟨fun _=>?_,fun _=>?_⟩|refine zO ?_|refine zn ?_|refine zb rfl ?_|refine zX ?_|refine zo rfl ?_|refine zs ?_|intro _|((with_reducible show testB.match_1 (fun _=>Prop) _ _ _);refine dY (by (first|exact rfl|(simp only[aV,aL,aM,bC,aH,aQ,List.all_cons,List.all_nil,aG,a6,a7,aB,aC,aA,bA,aE,a8,Bool.or_true,Bool.true_and,Bool.and_true];done)|(simp only[aV,aL,aM,bC,aH,aQ,List.all_cons,List.all_nil,aG,a6,a7,aB,aC,aA,bA,aE,a8,Bool.or_true,Bool.true_and,Bool.and_true];exact rfl))) ?_)));all_goals (try (conv=>whnf))
       all_goals exact hstep rfl
    ·have f1:decide ((q:Int)<(i:Int))=false:=decide_eq_false (by omega)
     have hS':S=[]:=List.length_eq_zero_iff.1 (by omega)
     subst hS';have oR:=hS0 b3 hI;have oL:aX P 31 [.addr 0 1 0 0] [b3.box true] [some (b3.box false)] (.p (.int .i64 0)):=hLn b3 _ hI;clear hN2 hL hS hS0 hLn hDL
     (repeat' ((conv=>whnf);first|exact trivial|with_reducible refine zX ?_|refine⟨rfl,?_⟩|refine⟨_,rfl,?_⟩|with_reducible refine zP ?_|with_reducible refine zL ?_|refine⟨fun _=>?_,fun _=>?_⟩|refine zO ?_|refine zn ?_|refine zb rfl ?_|refine zX ?_|refine zo rfl ?_|refine zs ?_|intro _|((with_reducible show testB.match_1 (fun _=>Prop) _ _ _);refine dY (by (first|exact rfl|(simp only[aV,aL,aM,bC,aH,aQ,List.all_cons,List.all_nil,aG,a6,a7,aB,aC,aA,bA,aE,a8,Bool.or_true,Bool.true_and,Bool.and_true];done)|(simp only[aV,aL,aM,bC,aH,aQ,List.all_cons,List.all_nil,aG,a6,a7,aB,aC,aA,bA,aE,a8,Bool.or_true,Bool.true_and,Bool.and_true];exact rfl))) ?_)));all_goals (try (conv=>whnf))
     all_goals first
      |rfl
      |exact cX (by simp)
end Go.Proofs.YtnjphclbpgajpaaGreatDoor.Vc
