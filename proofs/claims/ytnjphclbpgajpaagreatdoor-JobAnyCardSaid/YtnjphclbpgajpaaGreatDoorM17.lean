/- Part of a proof over a Go program: Cbx, Bxo, Csw, Beg3, Beg4, Lja. No condition. -/
import Derived.Test.YtnjphclbpgajpaaGreatDoorM16
import Derived.Test.YtnjphclbpgajpaaGreatDoorM04
import Derived.Test.YtnjphclbpgajpaaGreatDoorM11
import Derived.Test.YtnjphclbpgajpaaGreatDoorM08
import Derived.Test.YtnjphclbpgajpaaGreatDoorM15
import Derived.Test.YtnjphclbpgajpaaGreatDoorM09
set_option linter.unnecessarySimpa false
set_option linter.unusedSectionVars false
set_option linter.unusedSimpArgs false
set_option linter.unusedVariables false
set_option maxHeartbeats 4000000
set_option maxRecDepth 1000000
namespace Go.Proofs.YtnjphclbpgajpaaGreatDoor.Vc
open Go.Conc Go.RowKit
def chB(cap:Nat)(items:List PV)(old:Bool):Box:=⟨true,1,[[.ob (.ch cap items)]],old⟩
theorem a3x{X:Cx}{base k cap:Nat}{items:List PV}{old:Bool}(h:BX X base k (chB cap items old)):∃(blk:Nat) (cs:Array Value) (ty:TypeId) (g sent got:Nat) (buf:Array Value),BoxRel X base k (chB cap items old) blk cs ty /\
  cs[0]?=some (.chan (some g))/\X.own g=some (.cell k 0 0)/\(base<=g\/∃j,X.ex j=some g)/\X.w.heap[g]?=some (.chan cap buf false sent got false)/\(∀o,X.M g o)/\buf.size=items.length /\
  ∀(i:Nat) x u,items[i]?=some x->buf[i]?=some u->Flat X.M X.w x u:=by
 unfold BX at h;rw[if_neg (by simp[chB])] at h
 obtain⟨blk,cs,ty,hb⟩:=h;have hs:1<=cs.size:=by have:=hb.size;simp[chB] at this;exact this
 have h0:cs[0]?=some cs[0]:=by simp
 have hc:=(hb.cells 0 0 [.ob (.ch cap items)] (.ob (.ch cap items)) cs[0] rfl rfl (by simpa [chB] using h0)).1
 have hc:ObRel X base (.cell k 0 0) (.ch cap items) cs[0]:=hc;generalize cs[0]=u at *
 cases hc with
 |ch _ _ g _ sent got buf h1 h2 h3 h4 h5 h6=>exact⟨blk,cs,ty,g,sent,got,buf,hb,h0,h1,h2,h3,h4,h5,h6⟩
theorem a3y{X:Cx}{base k cap:Nat}{items:List PV}{old:Bool}{blk:Nat}{cs:Array Value}{ty:TypeId}{g:Nat}(hb:BoxRel X base k (chB cap items old) blk cs ty)(h0:cs[0]?=some (.chan (some g))):X.w.cell? ⟨blk,0,none⟩=some (.chan (some g)):=by
 simp only[World.cell?];rw[hb.heap];exact h0
theorem a2h{X:Cx}{cap:Nat}{items items':List PV}(hh:Hand X [chB cap items true]){blk:Nat}{cs:Array Value}{ty:TypeId}{g sent got sent' got':Nat}{buf buf':Array Value}(hb:BoxRel X X.w.heap.size 0 (chB cap items true) blk cs ty)
  (h0:cs[0]?=some (.chan (some g))) (h1:X.own g=some (.cell 0 0 0)) (h2:X.w.heap.size<=g\/∃j,X.ex j=some g) (h3:X.w.heap[g]?=some (.chan cap buf false sent got false)) (h4:∀o,X.M g o)
  (h5:buf'.size=items'.length) (h6:∀(i:Nat) x u,items'[i]?=some x->buf'[i]?=some u->Flat X.M X.w x u) {w':World} (ht:ChTurn X.w w' g (.chan cap buf' false sent' got' false)) {r:DV} {v:Value}
  (hr:Keeps X.M X.w X.M w'->VRel { X with w:=w' } X.w.heap.size (.tmp 0) r v):Back X { X with w:=w' } 1 [some (chB cap items' true)] r v:=by
 have hgl:g<X.w.heap.size:=(Array.getElem?_eq_some_iff.1 h3).1;have hex:∃j,X.ex j=some g:=h2.resolve_left (by omega)
 have hne:blk≠g:=fun e=>by have:=hb.heap;rw[e,h3] at this;injection this with this;cases this
 have hbl:blk<X.w.heap.size:=(Array.getElem?_eq_some_iff.1 hb.heap).1
 have hk:Keeps X.M X.w X.M w':=fun b o u hM hc=>by
  have hlt:=World.block_lt_of_cell? _ _ hc;have hbg:b≠g:=fun e=>by subst e;exact hM (h4 o)
  exact⟨(World.cell?_of_block (w:=X.w) (ht.other b hlt hbg)).trans hc,hM⟩
 refine⟨rfl,hr hk,fun i bx hi=>?_,fun _ _=>rfl,fun _ _ _ _=>Iff.rfl,⟨ht.os,ht.tape,ht.output,ht.size,fun q hq hx=>ht.other q hq (fun e=>?_),fun q hq=>?_⟩⟩
 ·match i,hi with
  |0,hi=>
   simp only[List.getElem?_cons_zero,sIj] at hi;subst hi;refine⟨rfl,?_⟩;unfold BX;rw[if_neg (by simp[chB])]
   refine⟨blk,cs,ty,hb.ρ,hb.own,hb.hbase,(ht.other blk hbl hne).trans hb.heap,by have:=hb.size;simpa [chB] using this,fun row hrow=>?_,fun r0 o0 row d u hrow hd hu=>?_,fun _=>hb.live rfl,fun h=>by cases h⟩
   ·simp[chB] at hrow;subst hrow;rfl
   ·match r0,hrow with
    |0,hrow=>
     simp only[chB,List.getElem?_cons_zero,sIj] at hrow;subst hrow
     match o0,hd with
     |0,hd=>
      simp only[List.getElem?_cons_zero,sIj] at hd;subst hd;have hu':cs[0]?=some u:=by simpa [chB] using hu
      rw[h0] at hu';injection hu' with hu'
      subst hu';exact⟨.ch _ _ g cap sent' got' buf' h1 h2 ht.at_ h4 h5 fun i x u hx hu=>(h6 i x u hx hu).mono hk,rfl⟩
     |o0+1,hd=>simp at hd
    |r0+1,hrow=>simp[chB] at hrow
  |i+1,hi=>simp at hi
 ·obtain⟨j,hj⟩:=hex
  exact hx j (by rw[e];exact hj)
 ·intro cs' ty' hq'
  have hqg:q≠g:=fun e=>by subst e;rw[h3] at hq';injection hq' with hq';cases hq'
  exact⟨cs',ty',(ht.other q hq hqg).trans hq',rfl⟩
theorem ChTurn.same{w:World}{g:Nat}{o:Obj}(h:w.heap[g]?=some o):ChTurn w w g o:=⟨rfl,rfl,rfl,Nat.le_refl _,h,fun _ _ _=>rfl⟩
theorem c0g{cargs:Array Value}(h:cargs.size=2):∃a b,cargs = #[a,b]:=by
 obtain⟨l⟩:=cargs
 match l,h with
 |[a,b],_=>exact⟨a,b,rfl⟩
theorem b0y{cargs:Array Value}(h:cargs.size=1):∃a,cargs = #[a]:=by
 obtain⟨l⟩:=cargs
 match l,h with
 |[a],_=>exact⟨a,rfl⟩
theorem c1F(cap:Nat)(items:List PV)(n:Int):a1Y Tryz.prog 119 [.addr 0 1 0 0,.p (.int .i64 n)] [chB cap items true]
  [some (chB cap (bif Nat.blt items.length cap then items++[.int .i64 n] else items) true)] (.p (.bool (Nat.blt items.length cap))):=by
 refine⟨⟨_,Tryz.func119,rfl,by decide⟩,.inl rfl,Nat.le_refl _,fun X cargs hl hh ha=>?_⟩
 obtain⟨v0,v1,rfl⟩:=c0g hl;obtain⟨blk,cs,ty,g,sent,got,buf,hb,h0,h1,h2,h3,h4,h5,h6⟩:=a3x (hh.boxes 0 _ rfl);obtain⟨blk',e1,e2⟩:∃blk',X.ρ 0=some blk'/\v0=.pointer (some ⟨blk',0*1+0,none⟩):=ha 0 _ _ rfl rfl;have:blk'=blk:=by have:=hb.ρ;rw[e1] at this;injection this
 subst this;have e3:v1=.int .i64 n:=Flat.intv (ha 1 _ _ rfl rfl);subst e2;subst e3;have hc:=a3y hb h0
 by_cases hlt:items.length<cap
 ·have hbl:Nat.blt items.length cap=true:=by simpa [Nat.blt_eq] using hlt
  refine(b4D n hc h3 (by omega)).mono fun e w' hr=>?_
  obtain⟨rfl,rfl⟩:=hr;refine⟨.bool true,{ X with w:=_ },rfl,rfl,?_⟩
  rw[hbl];refine a2h (r:=.p (.bool true)) (v:=.bool true) (items':=items++[.int .i64 n]) (buf':=buf.push (.int .i64 n)) hh hb h0 h1 h2 h3 h4 (by simp[h5]) (fun i x u hx hu=>?_) ((ChTurn.same h3).first (Array.getElem?_eq_some_iff.1 h3).1) fun _=>Flat.bool true
  rw[List.getElem?_append] at hx;rw[Array.getElem?_push] at hu
  by_cases hi:i<items.length
  ·rw[if_pos hi] at hx
   rw[if_neg (by omega)] at hu
   exact h6 i x u hx hu
  ·rw[if_neg hi] at hx
   have h00:i-items.length=0:=by have:=(gSi.1 hx).1;simp at this;omega
   rw[h00] at hx;rw[if_pos (by omega)] at hu
   simp only[List.getElem?_cons_zero,sIj] at hx hu;subst hx;subst hu;exact .int _ _
 ·have hbl:Nat.blt items.length cap=false:=by
   cases h:Nat.blt items.length cap with
   |false=>rfl
   |true=>exact absurd (by simpa [Nat.blt_eq] using h) hlt
  refine(b3x n hc h3 (by omega)).mono fun e w' hr=>?_
  obtain⟨rfl,rfl⟩:=hr;refine⟨.bool false,{ X with w:=_ },rfl,rfl,?_⟩
  rw[hbl];exact a2h (r:=.p (.bool false)) (v:=.bool false) (items':=items) (buf':=buf) hh hb h0 h1 h2 h3 h4 h5 h6 (ChTurn.same h3) fun _=>Flat.bool false
theorem c0m{M:Nat->Nat->Prop}{w:World}{a0 a1 a2 a3 a4:Int}{v:Value}(h:Flat M w (.agg [.int .i64 a0,.int .i64 a1,.int .i64 a2,.int .i64 a3,.int .i64 a4]) v):v=.agg #[.int .i64 a0,.int .i64 a1,.int .i64 a2,.int .i64 a3,.int .i64 a4]:=by
 cases h with
 |agg _ vs hl h1 hc=>
  obtain⟨l⟩:=vs
  match l,hl with
  |[b0,b1,b2,b3,b4],_=>
   have e0:=Flat.intv (hc 0 _ b0 rfl rfl);have e1:=Flat.intv (hc 1 _ b1 rfl rfl);have e2:=Flat.intv (hc 2 _ b2 rfl rfl);have e3:=Flat.intv (hc 3 _ b3 rfl rfl);have e4:=Flat.intv (hc 4 _ b4 rfl rfl);rw[e0,e1,e2,e3,e4]
theorem a7n{M:Nat->Nat->Prop}{w:World}(a0 a1 a2 a3 a4:Int):Flat M w (.agg [.int .i64 a0,.int .i64 a1,.int .i64 a2,.int .i64 a3,.int .i64 a4]) (.agg #[.int .i64 a0,.int .i64 a1,.int .i64 a2,.int .i64 a3,.int .i64 a4]):=by
 refine .agg _ _ rfl (fun c hc=>?_) fun i c u hc hu=>?_
 ·simp at hc;rcases hc with rfl|rfl|rfl|rfl|rfl<;>rfl
 ·match i,hc,hu with
  |0,hc,hu=>simp at hc hu;subst hc;subst hu;exact .int _ _
  |1,hc,hu=>simp at hc hu;subst hc;subst hu;exact .int _ _
  |2,hc,hu=>simp at hc hu;subst hc;subst hu;exact .int _ _
  |3,hc,hu=>simp at hc hu;subst hc;subst hu;exact .int _ _
  |4,hc,hu=>simp at hc hu;subst hc;subst hu;exact .int _ _
  |i+5,hc,hu=>simp at hc
theorem c1L(cap:Nat)(items:List PV)(a0 a1 a2 a3 a4:Int):a1Y Tryz.prog 62 [.addr 0 1 0 0,.p (.agg [.int .i64 a0,.int .i64 a1,.int .i64 a2,.int .i64 a3,.int .i64 a4])] [chB cap items true]
  [some (chB cap (bif Nat.blt items.length cap then items++[.agg [.int .i64 a0,.int .i64 a1,.int .i64 a2,.int .i64 a3,.int .i64 a4]] else items) true)] (.p (.bool (Nat.blt items.length cap))):=by
 refine⟨⟨_,Tryz.func62,rfl,by decide⟩,.inl rfl,Nat.le_refl _,fun X cargs hl hh ha=>?_⟩
 obtain⟨v0,v1,rfl⟩:=c0g hl;obtain⟨blk,cs,ty,g,sent,got,buf,hb,h0,h1,h2,h3,h4,h5,h6⟩:=a3x (hh.boxes 0 _ rfl);obtain⟨blk',e1,e2⟩:∃blk',X.ρ 0=some blk'/\v0=.pointer (some ⟨blk',0*1+0,none⟩):=ha 0 _ _ rfl rfl;have:blk'=blk:=by have:=hb.ρ;rw[e1] at this;injection this
 subst this;have e3:=c0m (ha 1 _ _ rfl rfl);subst e2;subst e3;have hc:=a3y hb h0;have hal:∀cs ty,ChTurn X.w (X.w.alloc (.cells cs ty (0,0))) g (.chan cap buf false sent got false):=fun cs ty=>(ChTurn.same h3).alloc _
 by_cases hlt:items.length<cap
 ·have hbl:Nat.blt items.length cap=true:=by simpa [Nat.blt_eq] using hlt
  refine(b5U a0 a1 a2 a3 a4 hc h3 (by omega)).mono fun e w' hr=>?_
  obtain⟨rfl,rfl⟩:=hr;refine⟨.bool true,{ X with w:=_ },rfl,rfl,?_⟩
  rw[hbl];refine a2h (r:=.p (.bool true)) (v:=.bool true) (items':=items++[.agg [.int .i64 a0,.int .i64 a1,.int .i64 a2,.int .i64 a3,.int .i64 a4]]) (buf':=buf.push (.agg #[.int .i64 a0,.int .i64 a1,.int .i64 a2,.int .i64 a3,.int .i64 a4])) hh hb h0 h1 h2 h3 h4 (by simp[h5]) (fun i x u hx hu=>?_) ((hal _ _).first (Array.getElem?_eq_some_iff.1 (hal _ _).at_).1) fun _=>Flat.bool true
  rw[List.getElem?_append] at hx;rw[Array.getElem?_push] at hu
  by_cases hi:i<items.length
  ·rw[if_pos hi] at hx
   rw[if_neg (by omega)] at hu
   exact h6 i x u hx hu
  ·rw[if_neg hi] at hx
   have h00:i-items.length=0:=by have:=(gSi.1 hx).1;simp at this;omega
   rw[h00] at hx;rw[if_pos (by omega)] at hu
   simp only[List.getElem?_cons_zero,sIj] at hx hu;subst hx;subst hu;exact a7n _ _ _ _ _
 ·have hbl:Nat.blt items.length cap=false:=by
   cases h:Nat.blt items.length cap with
   |false=>rfl
   |true=>exact absurd (by simpa [Nat.blt_eq] using h) hlt
  refine(b4P a0 a1 a2 a3 a4 hc h3 (by omega)).mono fun e w' hr=>?_
  obtain⟨rfl,rfl⟩:=hr;refine⟨.bool false,{ X with w:=_ },rfl,rfl,?_⟩
  rw[hbl];exact a2h (r:=.p (.bool false)) (v:=.bool false) (items':=items) (buf':=buf) hh hb h0 h1 h2 h3 h4 h5 h6 (hal _ _) fun _=>Flat.bool false
theorem c2B{X:Cx}{base:Nat}{L:Loc}{x:PV}{b:Bool}{u:Value}(h:Flat X.M X.w x u):VRel X base L (.tup [.p x,.p (.bool b)]) (.tuple #[u,.bool b]):=by
 refine⟨#[u,.bool b],rfl,rfl,fun j d v hd hv=>?_⟩
 match j,hd,hv with
 |0,hd,hv=>simp at hd hv;subst hd;subst hv;exact h
 |1,hd,hv=>simp at hd hv;subst hd;subst hv;exact Flat.bool b
 |j+2,hd,hv=>simp at hd
theorem b1b{M:Nat->Nat->Prop}{w:World}{x:PV}{items:List PV}{buf:Array Value}(h5:buf.size=(x ::items).length)(h6:∀(i:Nat) y u,(x ::items)[i]?=some y->buf[i]?=some u->Flat M w y u) :
  (buf.extract 1 buf.size).size=items.length/\∀(i:Nat) y u,items[i]?=some y->(buf.extract 1 buf.size)[i]?=some u->Flat M w y u:=by
 refine⟨by simp at h5 ⊢;omega,fun i y u hy hu=>?_⟩
 refine h6 (i+1) y u (by simpa using hy) ?_
 rw[Array.getElem?_extract] at hu
 split at hu
 ·rw[Nat.add_comm];exact hu
 ·cases hu
theorem a9i(cap:Nat)(x:PV)(items:List PV):a1Y Tryz.prog 165 [.addr 0 1 0 0] [chB cap (x ::items) true] [some (chB cap items true)] (.tup [.p x,.p (.bool true)]):=by
 refine⟨⟨_,Tryz.func165,rfl,by decide⟩,.inl rfl,Nat.le_refl _,fun X cargs hl hh ha=>?_⟩
 obtain⟨v0,rfl⟩:=b0y hl;obtain⟨blk,cs,ty,g,sent,got,buf,hb,h0,h1,h2,h3,h4,h5,h6⟩:=a3x (hh.boxes 0 _ rfl);obtain⟨blk',e1,e2⟩:∃blk',X.ρ 0=some blk'/\v0=.pointer (some ⟨blk',0*1+0,none⟩):=ha 0 _ _ rfl rfl;have:blk'=blk:=by have:=hb.ρ;rw[e1] at this;injection this
 subst this;subst e2;have hc:=a3y hb h0;have hp:0<buf.size:=by rw[h5];simp
 have hb0:buf[0]?=some buf[0]:=by simp
 have hf:=h6 0 _ _ rfl hb0;refine(b3V hc h3 hp hb0).mono fun e w' hr=>?_
 obtain⟨rfl,rfl⟩:=hr;generalize buf[0]=u at *;obtain⟨k1,k2⟩:=b1b h5 h6;refine⟨.tuple #[u,.bool true],{ X with w:=_ },rfl,rfl,?_⟩
 exact a2h (r:=.tup [.p x,.p (.bool true)]) hh hb h0 h1 h2 h3 h4 k1 k2 ((ChTurn.same h3).first (Array.getElem?_eq_some_iff.1 h3).1) fun hk=>c2B (hf.mono hk)
theorem a9o(cap:Nat):a1Y Tryz.prog 165 [.addr 0 1 0 0] [chB cap [] true] [some (chB cap [] true)] (.tup [.p (.int .i64 0),.p (.bool false)]):=by
 refine⟨⟨_,Tryz.func165,rfl,by decide⟩,.inl rfl,Nat.le_refl _,fun X cargs hl hh ha=>?_⟩
 obtain⟨v0,rfl⟩:=b0y hl;obtain⟨blk,cs,ty,g,sent,got,buf,hb,h0,h1,h2,h3,h4,h5,h6⟩:=a3x (hh.boxes 0 _ rfl);obtain⟨blk',e1,e2⟩:∃blk',X.ρ 0=some blk'/\v0=.pointer (some ⟨blk',0*1+0,none⟩):=ha 0 _ _ rfl rfl;have:blk'=blk:=by have:=hb.ρ;rw[e1] at this;injection this
 subst this;subst e2;have hc:=a3y hb h0;have hb0:buf = #[]:=Array.eq_empty_of_size_eq_zero (by simpa using h5)
 subst hb0;refine(b2n hc h3).mono fun e w' hr=>?_
 obtain⟨rfl,rfl⟩:=hr;refine⟨_,{ X with w:=_ },rfl,rfl,?_⟩
 exact a2h (r:=.tup [.p (.int .i64 0),.p (.bool false)]) hh hb h0 h1 h2 h3 h4 h5 h6 (ChTurn.same h3) fun hk=>c2B (.int _ _)
theorem a8u(cap:Nat)(a0 a1 a2 a3 a4:Int)(items:List PV):a1Y Tryz.prog 90 [.addr 0 1 0 0] [chB cap ((.agg [.int .i64 a0,.int .i64 a1,.int .i64 a2,.int .i64 a3,.int .i64 a4]) ::items) true] [some (chB cap items true)] (.tup [.p (.agg [.int .i64 a0,.int .i64 a1,.int .i64 a2,.int .i64 a3,.int .i64 a4]),.p (.bool true)]):=by
 refine⟨⟨_,Tryz.func90,rfl,by decide⟩,.inl rfl,Nat.le_refl _,fun X cargs hl hh ha=>?_⟩
 obtain⟨v0,rfl⟩:=b0y hl;obtain⟨blk,cs,ty,g,sent,got,buf,hb,h0,h1,h2,h3,h4,h5,h6⟩:=a3x (hh.boxes 0 _ rfl);obtain⟨blk',e1,e2⟩:∃blk',X.ρ 0=some blk'/\v0=.pointer (some ⟨blk',0*1+0,none⟩):=ha 0 _ _ rfl rfl;have:blk'=blk:=by have:=hb.ρ;rw[e1] at this;injection this
 subst this;subst e2;have hc:=a3y hb h0;have hp:0<buf.size:=by rw[h5];simp
 have hb0:buf[0]?=some buf[0]:=by simp
 have hf:=h6 0 _ _ rfl hb0;rw[c0m hf] at hb0;refine(b2k hc h3 a0 a1 a2 a3 a4 hp hb0).mono fun e w' hr=>?_
 obtain⟨rfl,ht⟩:=hr;obtain⟨k1,k2⟩:=b1b h5 h6;refine⟨_,{ X with w:=w' },rfl,rfl,?_⟩
 refine a2h (r:=.tup [.p (.agg [.int .i64 a0,.int .i64 a1,.int .i64 a2,.int .i64 a3,.int .i64 a4]),.p (.bool true)]) hh hb h0 h1 h2 h3 h4 k1 k2 (by simpa using ht) fun hk=>c2B (a7n _ _ _ _ _)
theorem a9d(cap:Nat):a1Y Tryz.prog 90 [.addr 0 1 0 0] [chB cap [] true] [some (chB cap [] true)] (.tup [.p (.agg [.int .i64 0,.int .i64 0,.int .i64 0,.int .i64 0,.int .i64 0]),.p (.bool false)]):=by
 refine⟨⟨_,Tryz.func90,rfl,by decide⟩,.inl rfl,Nat.le_refl _,fun X cargs hl hh ha=>?_⟩
 obtain⟨v0,rfl⟩:=b0y hl;obtain⟨blk,cs,ty,g,sent,got,buf,hb,h0,h1,h2,h3,h4,h5,h6⟩:=a3x (hh.boxes 0 _ rfl);obtain⟨blk',e1,e2⟩:∃blk',X.ρ 0=some blk'/\v0=.pointer (some ⟨blk',0*1+0,none⟩):=ha 0 _ _ rfl rfl;have:blk'=blk:=by have:=hb.ρ;rw[e1] at this;injection this
 subst this;subst e2;have hc:=a3y hb h0;have hb0:buf = #[]:=Array.eq_empty_of_size_eq_zero (by simpa using h5)
 subst hb0;refine(b2h hc h3).mono fun e w' hr=>?_
 obtain⟨rfl,ht⟩:=hr;refine⟨_,{ X with w:=w' },rfl,rfl,?_⟩
 exact a2h (r:=.tup [.p (.agg [.int .i64 0,.int .i64 0,.int .i64 0,.int .i64 0,.int .i64 0]),.p (.bool false)]) hh hb h0 h1 h2 h3 h4 h5 h6 ht fun hk=>c2B (a7n _ _ _ _ _)
theorem c1e(cap:Nat)(items:List PV):a1Y Tryz.prog 124 [.addr 0 1 0 0] [chB cap items true] [some (chB cap items true)] (.p (.int .i64 items.length)):=by
 refine⟨⟨_,Tryz.func124,rfl,by decide⟩,.inl rfl,Nat.le_refl _,fun X cargs hl hh ha=>?_⟩
 obtain⟨v0,rfl⟩:=b0y hl;obtain⟨blk,cs,ty,g,sent,got,buf,hb,h0,h1,h2,h3,h4,h5,h6⟩:=a3x (hh.boxes 0 _ rfl);obtain⟨blk',e1,e2⟩:∃blk',X.ρ 0=some blk'/\v0=.pointer (some ⟨blk',0*1+0,none⟩):=ha 0 _ _ rfl rfl;have:blk'=blk:=by have:=hb.ρ;rw[e1] at this;injection this
 subst this;subst e2;have hc:=a3y hb h0;refine(b8r hc h3).mono fun e w' hr=>?_
 obtain⟨rfl,rfl⟩:=hr;refine⟨_,{ X with w:=_ },rfl,rfl,?_⟩
 refine a2h (r:=.p (.int .i64 items.length)) hh hb h0 h1 h2 h3 h4 h5 h6 (ChTurn.same h3) fun _=>?_
 rw[h5];exact Flat.int _ _
def b6S(X:Cx)(k:Nat)(st:TypeId):Cx :=
 {ρ := fun i => if i = 0 then some (X.w.heap.size + 1) else X.ρ i
  own:=fun g=>if g=X.w.heap.size+1 then some (.box 0) else if g=X.w.heap.size then some (.cell 0 0 0) else X.own g
  M:=fun b o=>b=X.w.heap.size\/b=X.w.heap.size+1\/X.M b o
  w:=(X.w.alloc (.chan k #[] false 0 0 false)).alloc (.cells #[.chan (some X.w.heap.size)] st (0,0))
  ex:=X.ex }
theorem a9n{X:Cx}(k:Nat)(st:TypeId):Back X (b6S X k st) 0 [some (chB k [] false)] (.addr 0 1 0 0) (.pointer (some ⟨X.w.heap.size+1,0,none⟩)):=by
 have hb:(b6S X k st).w.heap[X.w.heap.size+1]?=some (.cells #[.chan (some X.w.heap.size)] st (0,0)):=by
  have:=heap_alloc_new (X.w.alloc (.chan k #[] false 0 0 false)) (.cells #[.chan (some X.w.heap.size)] st (0,0));rw[World.size_alloc] at this;exact this
 have hg:(b6S X k st).w.heap[X.w.heap.size]?=some (.chan k #[] false 0 0 false):=(Below.heap_alloc _ _ _ (by simp)).trans (heap_alloc_new _ _)
 have hlow:∀q,q<X.w.heap.size->(b6S X k st).w.heap[q]?=X.w.heap[q]?:=fun q hq=>(Below.heap_alloc _ _ _ (by simp;omega)).trans (Below.heap_alloc _ _ _ hq)
 refine⟨rfl,⟨X.w.heap.size+1,rfl,rfl⟩,fun i bx hi=>?_,fun i hi=>by omega,fun b hb _ o=>?_,⟨rfl,rfl,rfl,by simp[b6S];omega,fun q hq _=>hlow q hq,fun q hq=>.of (hlow q hq)⟩⟩
 ·match i,hi with
  |0,hi=>
   simp only[List.getElem?_cons_zero,sIj] at hi;subst hi;refine⟨rfl,?_⟩;unfold BX;rw[if_neg (by simp[chB])]
   refine⟨X.w.heap.size+1,_,_,rfl,by simp[b6S],⟨.inl (by omega),fun h=>by cases h⟩,hb,by simp[chB],fun row hrow=>?_,fun r0 o0 row d u hrow hd hu=>?_,fun _ o=>.inr (.inl rfl),fun h=>by cases h⟩
   ·simp[chB] at hrow;subst hrow;rfl
   ·match r0,hrow with
    |0,hrow=>
     simp only[chB,List.getElem?_cons_zero,sIj] at hrow;subst hrow
     match o0,hd with
     |0,hd=>
      simp only[List.getElem?_cons_zero,sIj] at hd;subst hd;have hu':u=.chan (some X.w.heap.size):=by simpa [chB,eq_comm] using hu
      subst hu';exact⟨.ch _ _ X.w.heap.size k 0 0 #[] (by simp[b6S]) (.inl (Nat.le_refl _)) hg (fun o=>.inl rfl) rfl fun i x u hx _=>by simp at hx,rfl⟩
     |o0+1,hd=>simp at hd
    |r0+1,hrow=>simp[chB] at hrow
  |i+1,hi=>simp at hi
 ·show (b=X.w.heap.size\/b=X.w.heap.size+1\/X.M b o)↔X.M b o
  exact⟨fun h=>h.elim (fun e=>by omega) fun h=>h.elim (fun e=>by omega) id,fun h=>.inr (.inr h)⟩
theorem c0Z(k:Nat)(hk:k<=100):a1Y Tryz.prog 112 [.p (.int .i64 k)] [] [some (chB k [] false)] (.addr 0 1 0 0):=by
 refine⟨⟨_,Tryz.func112,rfl,by decide⟩,.inr rfl,Nat.zero_le _,fun X cargs hl hh ha=>?_⟩
 obtain⟨v0,rfl⟩:=b0y hl;have e0:v0=.int .i64 k:=Flat.intv (ha 0 _ _ rfl rfl);subst e0;refine(b8p k hk).mono fun e w' hr=>?_
 obtain⟨rfl,rfl⟩:=hr;exact⟨_,b6S X k _,rfl,rfl,a9n k _⟩
theorem c0q(k:Nat)(hk:k<=100):a1Y Tryz.prog 59 [.p (.int .i64 k)] [] [some (chB k [] false)] (.addr 0 1 0 0):=by
 refine⟨⟨_,Tryz.func59,rfl,by decide⟩,.inr rfl,Nat.zero_le _,fun X cargs hl hh ha=>?_⟩
 obtain⟨v0,rfl⟩:=b0y hl;have e0:v0=.int .i64 k:=Flat.intv (ha 0 _ _ rfl rfl);subst e0;refine(b8M k hk).mono fun e w' hr=>?_
 obtain⟨rfl,rfl⟩:=hr;exact⟨_,b6S X k _,rfl,rfl,a9n k _⟩
open Go.RowKit
def b6f(args:List DV)(bs:List Box):Option (List (Option Box)×DV) :=
 match args,bs with
 |[.p (.int .i64 k)],[]=>if 0<=k/\k<=100 then some ([some (chB k.toNat [] false)],.addr 0 1 0 0) else none
 |_,_=>none
def c0p(args:List DV)(bs:List Box):Option (List (Option Box)×DV) :=
 match args,bs with
 |[.addr 0 1 0 0,.p (.int .i64 n)],[⟨true,1,[[.ob (.ch cap items)]],true⟩]=>some ([some (chB cap (bif Nat.blt items.length cap then items++[.int .i64 n] else items) true)],.p (.bool (Nat.blt items.length cap)))
 |_,_=>none
def c0v(args:List DV)(bs:List Box):Option (List (Option Box)×DV) :=
 match args,bs with
 |[.addr 0 1 0 0,.p (.agg [.int .i64 a0,.int .i64 a1,.int .i64 a2,.int .i64 a3,.int .i64 a4])],[⟨true,1,[[.ob (.ch cap items)]],true⟩]=>
  some ([some (chB cap (bif Nat.blt items.length cap then items++[.agg [.int .i64 a0,.int .i64 a1,.int .i64 a2,.int .i64 a3,.int .i64 a4]] else items) true)],.p (.bool (Nat.blt items.length cap)))
 |_,_=>none
def b7Z(args:List DV)(bs:List Box):Option (List (Option Box)×DV) :=
 match args,bs with
 |[.addr 0 1 0 0],[⟨true,1,[[.ob (.ch cap [])]],true⟩]=>some ([some (chB cap [] true)],.tup [.p (.int .i64 0),.p (.bool false)])
 |[.addr 0 1 0 0],[⟨true,1,[[.ob (.ch cap (x ::items))]],true⟩]=>some ([some (chB cap items true)],.tup [.p x,.p (.bool true)])
 |_,_=>none
def b7s(args:List DV)(bs:List Box):Option (List (Option Box)×DV) :=
 match args,bs with
 |[.addr 0 1 0 0],[⟨true,1,[[.ob (.ch cap [])]],true⟩]=>some ([some (chB cap [] true)],.tup [.p (.agg [.int .i64 0,.int .i64 0,.int .i64 0,.int .i64 0,.int .i64 0]),.p (.bool false)])
 |[.addr 0 1 0 0],[⟨true,1,[[.ob (.ch cap (.agg [.int .i64 a0,.int .i64 a1,.int .i64 a2,.int .i64 a3,.int .i64 a4] ::items))]],true⟩]=>some ([some (chB cap items true)],.tup [.p (.agg [.int .i64 a0,.int .i64 a1,.int .i64 a2,.int .i64 a3,.int .i64 a4]),.p (.bool true)])
 |_,_=>none
def c0n(args:List DV)(bs:List Box):Option (List (Option Box)×DV) :=
 match args,bs with
 |[.addr 0 1 0 0],[⟨true,1,[[.ob (.ch cap items)]],true⟩]=>some ([some (chB cap items true)],.p (.int .i64 items.length))
 |_,_=>none
def c2T(f:FuncId)(args:List DV)(bs:List Box):Option (List (Option Box)×DV) :=
 if f=112 then b6f args bs else if f=59 then b6f args bs
 else if f=119 then c0p args bs else if f=62 then c0v args bs
 else if f=165 then b7Z args bs else if f=90 then b7s args bs
 else if f=124 then c0n args bs else none
theorem b8o(f:FuncId)(args:List DV)(bs:List Box)(bs':List (Option Box))(d:DV)(h:c2T f args bs=some (bs',d)):a1Y Tryz.prog f args bs bs' d:=by
 unfold c2T at h
 split at h
 ·rename_i e;subst e
  unfold b6f at h
  split at h
  ·split at h
   ·rename_i k hk
    simp only[sIj,Prod.mk.injEq] at h;obtain⟨rfl,rfl⟩:=h;have:=c0Z k.toNat (by omega)
    rw[show ((k.toNat:Nat):Int)=k by omega] at this
    exact this
   ·cases h
  ·cases h
 split at h
 ·rename_i e;subst e
  unfold b6f at h
  split at h
  ·split at h
   ·rename_i k hk
    simp only[sIj,Prod.mk.injEq] at h;obtain⟨rfl,rfl⟩:=h;have:=c0q k.toNat (by omega)
    rw[show ((k.toNat:Nat):Int)=k by omega] at this
    exact this
   ·cases h
  ·cases h
 split at h
 ·rename_i e;subst e
  unfold c0p at h
  split at h
  ·simp only[sIj,Prod.mk.injEq] at h
   obtain⟨rfl,rfl⟩:=h;exact c1F _ _ _
  ·cases h
 split at h
 ·rename_i e;subst e
  unfold c0v at h
  split at h
  ·simp only[sIj,Prod.mk.injEq] at h
   obtain⟨rfl,rfl⟩:=h;exact c1L _ _ _ _ _ _ _
  ·cases h
 split at h
 ·rename_i e;subst e
  unfold b7Z at h
  split at h
  ·simp only[sIj,Prod.mk.injEq] at h
   obtain⟨rfl,rfl⟩:=h;exact a9o _
  ·simp only[sIj,Prod.mk.injEq] at h
   obtain⟨rfl,rfl⟩:=h;exact a9i _ _ _
  ·cases h
 split at h
 ·rename_i e;subst e
  unfold b7s at h
  split at h
  ·simp only[sIj,Prod.mk.injEq] at h
   obtain⟨rfl,rfl⟩:=h;exact a9d _
  ·simp only[sIj,Prod.mk.injEq] at h
   obtain⟨rfl,rfl⟩:=h;exact a8u _ _ _ _ _ _ _
  ·cases h
 split at h
 ·rename_i e;subst e
  unfold c0n at h
  split at h
  ·simp only[sIj,Prod.mk.injEq] at h
   obtain⟨rfl,rfl⟩:=h;exact c1e _ _
  ·cases h
 cases h
open Go.RowKit
theorem BX.forget3{X:Cx}{base k:Nat}{rows:List (List DV)}{live old:Bool}(h:BX X base k ⟨live,0,rows,old⟩):BX X base k ⟨live,0,rows.map fun r=>r.take 2,old⟩:=by
 unfold BX at h ⊢;rw[if_pos rfl] at h ⊢;obtain⟨blk,es,clock,m1,m2,m3,m4,m5,m6,m0,m7⟩:=h;refine⟨blk,es,clock,m1,m2,m3,m4,by simpa using m5,m6,m0,fun i row e hr he=>?_⟩
 rw[List.getElem?_map] at hr
 cases hx:rows[i]? with
 |none=>rw[hx] at hr;simp at hr
 |some r0=>
  rw[hx] at hr;simp only[Option.map_some,sIj] at hr;subst hr;obtain⟨q,n,d,f1,f2,f3⟩:=m7 i r0 e hx he;subst f1;exact⟨q,false,d,rfl,f2,f3⟩
theorem a1t{P:Program}{f:FuncId}{args:List DV}{b0 b1 c0 c1:Box}{rows rows':List (List DV)}{r:DV}(hr:r.plain=true)(h2:∀x,x∈rows->two x=true)
  (h:∀ss:List Int,ss.length=rows.length->ss.Nodup->∃rows3,(rows3.map fun r=>r.take 2)=rows'/\a1Y P f args [b0,b1,⟨true,0,b5g rows ss,true⟩] [some c0,some c1,some ⟨true,0,rows3,false⟩] r) :
  a1Y P f args [b0,b1,⟨true,0,rows,true⟩] [some c0,some c1,some ⟨true,0,rows',false⟩] r:=by
 have hfn:b7t P f:=by
  obtain⟨_,_,h⟩:=h ((List.range rows.length).map fun (n:Nat)=>(n:Int)) (by simp) (by
   rw[List.nodup_iff_pairwise_ne,List.pairwise_map];exact(List.nodup_iff_pairwise_ne.1 List.nodup_range).imp fun h e=>h (by omega))
  exact h.1
 refine⟨hfn,.inl hr,by simp,fun X cargs hl hh ha=>?_⟩
 obtain⟨ss,s1,s2,s3⟩:=(hh.boxes 2 _ rfl).stamps h2;obtain⟨rows3,e,h⟩:=h ss s1 s2;refine(h.2.2.2 X cargs hl ⟨hh.full,fun i bx hi=>?_⟩ ha).mono fun e' w' hq=>?_
 ·match i,hi with
  |0,hi=>exact hh.boxes 0 bx hi
  |1,hi=>exact hh.boxes 1 bx hi
  |2,hi=>simp only[List.getElem?_cons_succ,List.getElem?_cons_zero,sIj] at hi;subst hi;exact s3
  |i+3,hi=>simp at hi
 ·obtain⟨v,X',q1,q2,q3⟩:=hq
  refine⟨v,X',q1,q2,q3.ex,q3.val,fun i bx hi=>?_,q3.rho,q3.mem,q3.below⟩
  match i,hi with
  |0,hi=>exact q3.boxes 0 bx hi
  |1,hi=>exact q3.boxes 1 bx hi
  |2,hi=>
   simp only[List.getElem?_cons_succ,List.getElem?_cons_zero,sIj] at hi;subst hi;obtain⟨g1,g2⟩:=q3.boxes 2 _ rfl;exact⟨rfl,by rw[<-e];exact g2.forget3⟩
  |i+3,hi=>simp at hi
theorem a1S(q:Option IntKind)(x:PV)(rows:List (List DV)):a2a q x rows=a1T q x rows:=by unfold a2a;rfl
theorem a1u(s:Int)(d:DV)(rows:List (List DV)):a4k s d rows=a5P s d rows:=by unfold a4k;rfl
theorem b6D(room wh a0 b0 w0 x0 a1 b1 w1 x1:Int)(v0 v1:Int)(hv:v0≠v1):a1Y Tryz.prog 88 [.addr 0 4 0 0,.p (.int .i64 1),.p (.int .i64 0)]
  [⟨true,4,[[.p (.int .i64 room),.bs 1 4 true 0 2,.mh 2,.p (.int .i64 wh)]],true⟩,⟨true,4,[[.p (.int .i64 v0),.p (.int .i64 a0),.p (.int .i64 b0),.p (.int .i64 w0)],[.p (.int .i64 v1),.p (.int .i64 a1),.p (.int .i64 b1),.p (.int .i64 w1)]],true⟩,⟨true,0,[[.p (.int .i64 v0),.p (.int .i64 x0)],[.p (.int .i64 v1),.p (.int .i64 x1)]],true⟩]
  [some ⟨true,4,[[.p (.int .i64 room),.bs 1 4 true 0 2,.mh 2,.p (.int .i64 wh)]],false⟩,some ⟨true,4,[[.p (.int .i64 v1),.p (.int .i64 a1),.p (.int .i64 b1),.p (.int .i64 w1)],[.p (.int .i64 v0),.p (.int .i64 a0),.p (.int .i64 b0),.p (.int .i64 w0)]],false⟩,some ⟨true,0,[[.p (.int .i64 v0),.p (.int .i64 1)],[.p (.int .i64 v1),.p (.int .i64 0)]],false⟩] (.tup []):=by
 refine a1t rfl (by simp[two]) fun ss hl hn=>?_
 match ss,hl,hn with
 |[s0,s1],_,hn=>
  have hs:s0≠s1:=by simpa using hn
  have hv':=hv.symm;have hs':=hs.symm;refine⟨[[.p (.int .i64 v0),.p (.int .i64 1),.p (.int .i64 s0)],[.p (.int .i64 v1),.p (.int .i64 0),.p (.int .i64 s1)]],rfl,?_⟩;refine Fn.runO k88 rfl rfl rfl ?_;generalize Tryz.prog=P at *
  (repeat'((conv=>whnf);first|exact trivial|(with_reducible first|refine zX ?_|refine zP ?_|refine zL ?_)|refine⟨rfl,?_⟩|refine⟨_,rfl,?_⟩|refine⟨fun _=>?_,fun _=>?_⟩|refine zn ?_|refine zb rfl ?_|refine zX ?_|refine zo rfl ?_|refine zs ?_|intro _));all_goals(try(conv=>whnf))
  generalize hq:a2a _ _ _=q;obtain rfl:q=some (.int .i64 x0,s0):=by rw[<-hq,a1S];exact(by simp[a1T,a3E,a3i,hv,hs,hv',hs']:a1T (some .i64) (.int .i64 v0) [[.p (.int .i64 v0),.p (.int .i64 x0),.p (.int .i64 s0)],[.p (.int .i64 v1),.p (.int .i64 x1),.p (.int .i64 s1)]]=some (.int .i64 x0,s0))
  clear hq
  (repeat'((conv=>whnf);first|exact trivial|(with_reducible first|refine zX ?_|refine zP ?_|refine zL ?_)|refine⟨rfl,?_⟩|refine⟨_,rfl,?_⟩|refine⟨fun _=>?_,fun _=>?_⟩|refine zn ?_|refine zb rfl ?_|refine zX ?_|refine zo rfl ?_|refine zs ?_|intro _));all_goals(try(conv=>whnf))
  generalize hq:a4k _ _ _=q;obtain rfl:q=some [[.p (.int .i64 v0),.p (.int .i64 1),.p (.int .i64 s0)],[.p (.int .i64 v1),.p (.int .i64 x1),.p (.int .i64 s1)]]:=by rw[<-hq,a1u];exact(by simp[a5P,hv,hs,hv',hs']:a5P s0 (.p (.int .i64 1)) [[.p (.int .i64 v0),.p (.int .i64 x0),.p (.int .i64 s0)],[.p (.int .i64 v1),.p (.int .i64 x1),.p (.int .i64 s1)]]=some [[.p (.int .i64 v0),.p (.int .i64 1),.p (.int .i64 s0)],[.p (.int .i64 v1),.p (.int .i64 x1),.p (.int .i64 s1)]])
  clear hq
  (repeat'((conv=>whnf);first|exact trivial|(with_reducible first|refine zX ?_|refine zP ?_|refine zL ?_)|refine⟨rfl,?_⟩|refine⟨_,rfl,?_⟩|refine⟨fun _=>?_,fun _=>?_⟩|refine zn ?_|refine zb rfl ?_|refine zX ?_|refine zo rfl ?_|refine zs ?_|intro _));all_goals(try(conv=>whnf))
  generalize hq:a2a _ _ _=q;obtain rfl:q=some (.int .i64 x1,s1):=by rw[<-hq,a1S];exact(by simp[a1T,a3E,a3i,hv,hs,hv',hs']:a1T (some .i64) (.int .i64 v1) [[.p (.int .i64 v0),.p (.int .i64 1),.p (.int .i64 s0)],[.p (.int .i64 v1),.p (.int .i64 x1),.p (.int .i64 s1)]]=some (.int .i64 x1,s1))
  clear hq
  (repeat'((conv=>whnf);first|exact trivial|(with_reducible first|refine zX ?_|refine zP ?_|refine zL ?_)|refine⟨rfl,?_⟩|refine⟨_,rfl,?_⟩|refine⟨fun _=>?_,fun _=>?_⟩|refine zn ?_|refine zb rfl ?_|refine zX ?_|refine zo rfl ?_|refine zs ?_|intro _));all_goals(try(conv=>whnf))
  generalize hq:a4k _ _ _=q;obtain rfl:q=some [[.p (.int .i64 v0),.p (.int .i64 1),.p (.int .i64 s0)],[.p (.int .i64 v1),.p (.int .i64 0),.p (.int .i64 s1)]]:=by rw[<-hq,a1u];exact(by simp[a5P,hv,hs,hv',hs']:a5P s1 (.p (.int .i64 0)) [[.p (.int .i64 v0),.p (.int .i64 1),.p (.int .i64 s0)],[.p (.int .i64 v1),.p (.int .i64 x1),.p (.int .i64 s1)]]=some [[.p (.int .i64 v0),.p (.int .i64 1),.p (.int .i64 s0)],[.p (.int .i64 v1),.p (.int .i64 0),.p (.int .i64 s1)]])
  clear hq
  (repeat'((conv=>whnf);first|exact trivial|(with_reducible first|refine zX ?_|refine zP ?_|refine zL ?_)|refine⟨rfl,?_⟩|refine⟨_,rfl,?_⟩|refine⟨fun _=>?_,fun _=>?_⟩|refine zn ?_|refine zb rfl ?_|refine zX ?_|refine zo rfl ?_|refine zs ?_|intro _));all_goals(try(conv=>whnf))
  all_goals rfl
theorem b6A(room wh a0 b0 w0 x0 a1 b1 w1 x1:Int)(v0 v1:Int)(hv:v0≠v1):a1Y Tryz.prog 88 [.addr 0 4 0 0,.p (.int .i64 0),.p (.int .i64 1)]
  [⟨true,4,[[.p (.int .i64 room),.bs 1 4 true 0 2,.mh 2,.p (.int .i64 wh)]],true⟩,⟨true,4,[[.p (.int .i64 v0),.p (.int .i64 a0),.p (.int .i64 b0),.p (.int .i64 w0)],[.p (.int .i64 v1),.p (.int .i64 a1),.p (.int .i64 b1),.p (.int .i64 w1)]],true⟩,⟨true,0,[[.p (.int .i64 v1),.p (.int .i64 x1)],[.p (.int .i64 v0),.p (.int .i64 x0)]],true⟩]
  [some ⟨true,4,[[.p (.int .i64 room),.bs 1 4 true 0 2,.mh 2,.p (.int .i64 wh)]],false⟩,some ⟨true,4,[[.p (.int .i64 v1),.p (.int .i64 a1),.p (.int .i64 b1),.p (.int .i64 w1)],[.p (.int .i64 v0),.p (.int .i64 a0),.p (.int .i64 b0),.p (.int .i64 w0)]],false⟩,some ⟨true,0,[[.p (.int .i64 v1),.p (.int .i64 0)],[.p (.int .i64 v0),.p (.int .i64 1)]],false⟩] (.tup []):=by
 refine a1t rfl (by simp[two]) fun ss hl hn=>?_
 match ss,hl,hn with
 |[s0,s1],_,hn=>
  have hs:s0≠s1:=by simpa using hn
  have hv':=hv.symm;have hs':=hs.symm;refine⟨[[.p (.int .i64 v1),.p (.int .i64 0),.p (.int .i64 s0)],[.p (.int .i64 v0),.p (.int .i64 1),.p (.int .i64 s1)]],rfl,?_⟩;refine Fn.runO k88 rfl rfl rfl ?_;generalize Tryz.prog=P at *
  (repeat'((conv=>whnf);first|exact trivial|(with_reducible first|refine zX ?_|refine zP ?_|refine zL ?_)|refine⟨rfl,?_⟩|refine⟨_,rfl,?_⟩|refine⟨fun _=>?_,fun _=>?_⟩|refine zn ?_|refine zb rfl ?_|refine zX ?_|refine zo rfl ?_|refine zs ?_|intro _));all_goals(try(conv=>whnf))
  generalize hq:a2a _ _ _=q;obtain rfl:q=some (.int .i64 x1,s0):=by rw[<-hq,a1S];exact(by simp[a1T,a3E,a3i,hv,hs,hv',hs']:a1T (some .i64) (.int .i64 v1) [[.p (.int .i64 v1),.p (.int .i64 x1),.p (.int .i64 s0)],[.p (.int .i64 v0),.p (.int .i64 x0),.p (.int .i64 s1)]]=some (.int .i64 x1,s0))
  clear hq
  (repeat'((conv=>whnf);first|exact trivial|(with_reducible first|refine zX ?_|refine zP ?_|refine zL ?_)|refine⟨rfl,?_⟩|refine⟨_,rfl,?_⟩|refine⟨fun _=>?_,fun _=>?_⟩|refine zn ?_|refine zb rfl ?_|refine zX ?_|refine zo rfl ?_|refine zs ?_|intro _));all_goals(try(conv=>whnf))
  generalize hq:a4k _ _ _=q;obtain rfl:q=some [[.p (.int .i64 v1),.p (.int .i64 0),.p (.int .i64 s0)],[.p (.int .i64 v0),.p (.int .i64 x0),.p (.int .i64 s1)]]:=by rw[<-hq,a1u];exact(by simp[a5P,hv,hs,hv',hs']:a5P s0 (.p (.int .i64 0)) [[.p (.int .i64 v1),.p (.int .i64 x1),.p (.int .i64 s0)],[.p (.int .i64 v0),.p (.int .i64 x0),.p (.int .i64 s1)]]=some [[.p (.int .i64 v1),.p (.int .i64 0),.p (.int .i64 s0)],[.p (.int .i64 v0),.p (.int .i64 x0),.p (.int .i64 s1)]])
  clear hq
  (repeat'((conv=>whnf);first|exact trivial|(with_reducible first|refine zX ?_|refine zP ?_|refine zL ?_)|refine⟨rfl,?_⟩|refine⟨_,rfl,?_⟩|refine⟨fun _=>?_,fun _=>?_⟩|refine zn ?_|refine zb rfl ?_|refine zX ?_|refine zo rfl ?_|refine zs ?_|intro _));all_goals(try(conv=>whnf))
  generalize hq:a2a _ _ _=q;obtain rfl:q=some (.int .i64 x0,s1):=by rw[<-hq,a1S];exact(by simp[a1T,a3E,a3i,hv,hs,hv',hs']:a1T (some .i64) (.int .i64 v0) [[.p (.int .i64 v1),.p (.int .i64 0),.p (.int .i64 s0)],[.p (.int .i64 v0),.p (.int .i64 x0),.p (.int .i64 s1)]]=some (.int .i64 x0,s1))
  clear hq
  (repeat'((conv=>whnf);first|exact trivial|(with_reducible first|refine zX ?_|refine zP ?_|refine zL ?_)|refine⟨rfl,?_⟩|refine⟨_,rfl,?_⟩|refine⟨fun _=>?_,fun _=>?_⟩|refine zn ?_|refine zb rfl ?_|refine zX ?_|refine zo rfl ?_|refine zs ?_|intro _));all_goals(try(conv=>whnf))
  generalize hq:a4k _ _ _=q;obtain rfl:q=some [[.p (.int .i64 v1),.p (.int .i64 0),.p (.int .i64 s0)],[.p (.int .i64 v0),.p (.int .i64 1),.p (.int .i64 s1)]]:=by rw[<-hq,a1u];exact(by simp[a5P,hv,hs,hv',hs']:a5P s1 (.p (.int .i64 1)) [[.p (.int .i64 v1),.p (.int .i64 0),.p (.int .i64 s0)],[.p (.int .i64 v0),.p (.int .i64 x0),.p (.int .i64 s1)]]=some [[.p (.int .i64 v1),.p (.int .i64 0),.p (.int .i64 s0)],[.p (.int .i64 v0),.p (.int .i64 1),.p (.int .i64 s1)]])
  clear hq
  (repeat'((conv=>whnf);first|exact trivial|(with_reducible first|refine zX ?_|refine zP ?_|refine zL ?_)|refine⟨rfl,?_⟩|refine⟨_,rfl,?_⟩|refine⟨fun _=>?_,fun _=>?_⟩|refine zn ?_|refine zb rfl ?_|refine zX ?_|refine zo rfl ?_|refine zs ?_|intro _));all_goals(try(conv=>whnf))
  all_goals rfl
theorem b5n(room wh a0 b0 w0 x0:Int)(v0:Int):a1Y Tryz.prog 88 [.addr 0 4 0 0,.p (.int .i64 0),.p (.int .i64 0)]
  [⟨true,4,[[.p (.int .i64 room),.bs 1 4 true 0 1,.mh 2,.p (.int .i64 wh)]],true⟩,⟨true,4,[[.p (.int .i64 v0),.p (.int .i64 a0),.p (.int .i64 b0),.p (.int .i64 w0)]],true⟩,⟨true,0,[[.p (.int .i64 v0),.p (.int .i64 x0)]],true⟩]
  [some ⟨true,4,[[.p (.int .i64 room),.bs 1 4 true 0 1,.mh 2,.p (.int .i64 wh)]],false⟩,some ⟨true,4,[[.p (.int .i64 v0),.p (.int .i64 a0),.p (.int .i64 b0),.p (.int .i64 w0)]],false⟩,some ⟨true,0,[[.p (.int .i64 v0),.p (.int .i64 0)]],false⟩] (.tup []):=by
 refine a1t rfl (by simp[two]) fun ss hl hn=>?_
 match ss,hl,hn with
 |[s0],_,hn=>
  refine⟨[[.p (.int .i64 v0),.p (.int .i64 0),.p (.int .i64 s0)]],rfl,?_⟩;refine Fn.runO k88 rfl rfl rfl ?_;generalize Tryz.prog=P at *
  (repeat'((conv=>whnf);first|exact trivial|(with_reducible first|refine zX ?_|refine zP ?_|refine zL ?_)|refine⟨rfl,?_⟩|refine⟨_,rfl,?_⟩|refine⟨fun _=>?_,fun _=>?_⟩|refine zn ?_|refine zb rfl ?_|refine zX ?_|refine zo rfl ?_|refine zs ?_|intro _));all_goals(try(conv=>whnf))
  generalize hq:a2a _ _ _=q;obtain rfl:q=some (.int .i64 x0,s0):=by rw[<-hq,a1S];exact(by simp[a1T,a3E,a3i]:a1T (some .i64) (.int .i64 v0) [[.p (.int .i64 v0),.p (.int .i64 x0),.p (.int .i64 s0)]]=some (.int .i64 x0,s0))
  clear hq
  (repeat'((conv=>whnf);first|exact trivial|(with_reducible first|refine zX ?_|refine zP ?_|refine zL ?_)|refine⟨rfl,?_⟩|refine⟨_,rfl,?_⟩|refine⟨fun _=>?_,fun _=>?_⟩|refine zn ?_|refine zb rfl ?_|refine zX ?_|refine zo rfl ?_|refine zs ?_|intro _));all_goals(try(conv=>whnf))
  generalize hq:a4k _ _ _=q;obtain rfl:q=some [[.p (.int .i64 v0),.p (.int .i64 0),.p (.int .i64 s0)]]:=by rw[<-hq,a1u];exact(by simp[a5P]:a5P s0 (.p (.int .i64 0)) [[.p (.int .i64 v0),.p (.int .i64 x0),.p (.int .i64 s0)]]=some [[.p (.int .i64 v0),.p (.int .i64 0),.p (.int .i64 s0)]])
  clear hq
  (repeat'((conv=>whnf);first|exact trivial|(with_reducible first|refine zX ?_|refine zP ?_|refine zL ?_)|refine⟨rfl,?_⟩|refine⟨_,rfl,?_⟩|refine⟨fun _=>?_,fun _=>?_⟩|refine zn ?_|refine zb rfl ?_|refine zX ?_|refine zo rfl ?_|refine zs ?_|intro _));all_goals(try(conv=>whnf))
  generalize hq:a2a _ _ _=q;obtain rfl:q=some (.int .i64 0,s0):=by rw[<-hq,a1S];exact(by simp[a1T,a3E,a3i]:a1T (some .i64) (.int .i64 v0) [[.p (.int .i64 v0),.p (.int .i64 0),.p (.int .i64 s0)]]=some (.int .i64 0,s0))
  clear hq
  (repeat'((conv=>whnf);first|exact trivial|(with_reducible first|refine zX ?_|refine zP ?_|refine zL ?_)|refine⟨rfl,?_⟩|refine⟨_,rfl,?_⟩|refine⟨fun _=>?_,fun _=>?_⟩|refine zn ?_|refine zb rfl ?_|refine zX ?_|refine zo rfl ?_|refine zs ?_|intro _));all_goals(try(conv=>whnf))
  generalize hq:a4k _ _ _=q;obtain rfl:q=some [[.p (.int .i64 v0),.p (.int .i64 0),.p (.int .i64 s0)]]:=by rw[<-hq,a1u];exact(by simp[a5P]:a5P s0 (.p (.int .i64 0)) [[.p (.int .i64 v0),.p (.int .i64 0),.p (.int .i64 s0)]]=some [[.p (.int .i64 v0),.p (.int .i64 0),.p (.int .i64 s0)]])
  clear hq
  (repeat'((conv=>whnf);first|exact trivial|(with_reducible first|refine zX ?_|refine zP ?_|refine zL ?_)|refine⟨rfl,?_⟩|refine⟨_,rfl,?_⟩|refine⟨fun _=>?_,fun _=>?_⟩|refine zn ?_|refine zb rfl ?_|refine zX ?_|refine zo rfl ?_|refine zs ?_|intro _));all_goals(try(conv=>whnf))
  all_goals rfl
theorem b7J(room wh a0 b0 w0 x0 a1 b1 w1 x1:Int)(v0 v1:ByteArray)(hv:v0.data.toList≠v1.data.toList):a1Y Tryz.prog 189 [.addr 0 4 0 0,.p (.int .i64 1),.p (.int .i64 0)]
  [⟨true,4,[[.p (.int .i64 room),.bs 1 4 true 0 2,.mh 2,.p (.int .i64 wh)]],true⟩,⟨true,4,[[.p (.str v0),.p (.int .i64 a0),.p (.int .i64 b0),.p (.int .i64 w0)],[.p (.str v1),.p (.int .i64 a1),.p (.int .i64 b1),.p (.int .i64 w1)]],true⟩,⟨true,0,[[.p (.str v0),.p (.int .i64 x0)],[.p (.str v1),.p (.int .i64 x1)]],true⟩]
  [some ⟨true,4,[[.p (.int .i64 room),.bs 1 4 true 0 2,.mh 2,.p (.int .i64 wh)]],false⟩,some ⟨true,4,[[.p (.str v1),.p (.int .i64 a1),.p (.int .i64 b1),.p (.int .i64 w1)],[.p (.str v0),.p (.int .i64 a0),.p (.int .i64 b0),.p (.int .i64 w0)]],false⟩,some ⟨true,0,[[.p (.str v0),.p (.int .i64 1)],[.p (.str v1),.p (.int .i64 0)]],false⟩] (.tup []):=by
 refine a1t rfl (by simp[two]) fun ss hl hn=>?_
 match ss,hl,hn with
 |[s0,s1],_,hn=>
  have hs:s0≠s1:=by simpa using hn
  have hv':=hv.symm;have hs':=hs.symm;refine⟨[[.p (.str v0),.p (.int .i64 1),.p (.int .i64 s0)],[.p (.str v1),.p (.int .i64 0),.p (.int .i64 s1)]],rfl,?_⟩;refine Fn.runO c8x rfl rfl rfl ?_;generalize Tryz.prog=P at *
  (repeat'((conv=>whnf);first|exact trivial|(with_reducible first|refine zX ?_|refine zP ?_|refine zL ?_)|refine⟨rfl,?_⟩|refine⟨_,rfl,?_⟩|refine⟨fun _=>?_,fun _=>?_⟩|refine zn ?_|refine zb rfl ?_|refine zX ?_|refine zo rfl ?_|refine zs ?_|intro _));all_goals(try(conv=>whnf))
  generalize hq:a2a _ _ _=q;obtain rfl:q=some (.int .i64 x0,s0):=by rw[<-hq,a1S];exact(by simp[a1T,a3E,a3i,hv,hs,hv',hs']:a1T none (.str v0) [[.p (.str v0),.p (.int .i64 x0),.p (.int .i64 s0)],[.p (.str v1),.p (.int .i64 x1),.p (.int .i64 s1)]]=some (.int .i64 x0,s0))
  clear hq
  (repeat'((conv=>whnf);first|exact trivial|(with_reducible first|refine zX ?_|refine zP ?_|refine zL ?_)|refine⟨rfl,?_⟩|refine⟨_,rfl,?_⟩|refine⟨fun _=>?_,fun _=>?_⟩|refine zn ?_|refine zb rfl ?_|refine zX ?_|refine zo rfl ?_|refine zs ?_|intro _));all_goals(try(conv=>whnf))
  generalize hq:a4k _ _ _=q;obtain rfl:q=some [[.p (.str v0),.p (.int .i64 1),.p (.int .i64 s0)],[.p (.str v1),.p (.int .i64 x1),.p (.int .i64 s1)]]:=by rw[<-hq,a1u];exact(by simp[a5P,hv,hs,hv',hs']:a5P s0 (.p (.int .i64 1)) [[.p (.str v0),.p (.int .i64 x0),.p (.int .i64 s0)],[.p (.str v1),.p (.int .i64 x1),.p (.int .i64 s1)]]=some [[.p (.str v0),.p (.int .i64 1),.p (.int .i64 s0)],[.p (.str v1),.p (.int .i64 x1),.p (.int .i64 s1)]])
  clear hq
  (repeat'((conv=>whnf);first|exact trivial|(with_reducible first|refine zX ?_|refine zP ?_|refine zL ?_)|refine⟨rfl,?_⟩|refine⟨_,rfl,?_⟩|refine⟨fun _=>?_,fun _=>?_⟩|refine zn ?_|refine zb rfl ?_|refine zX ?_|refine zo rfl ?_|refine zs ?_|intro _));all_goals(try(conv=>whnf))
  generalize hq:a2a _ _ _=q;obtain rfl:q=some (.int .i64 x1,s1):=by rw[<-hq,a1S];exact(by simp[a1T,a3E,a3i,hv,hs,hv',hs']:a1T none (.str v1) [[.p (.str v0),.p (.int .i64 1),.p (.int .i64 s0)],[.p (.str v1),.p (.int .i64 x1),.p (.int .i64 s1)]]=some (.int .i64 x1,s1))
  clear hq
  (repeat'((conv=>whnf);first|exact trivial|(with_reducible first|refine zX ?_|refine zP ?_|refine zL ?_)|refine⟨rfl,?_⟩|refine⟨_,rfl,?_⟩|refine⟨fun _=>?_,fun _=>?_⟩|refine zn ?_|refine zb rfl ?_|refine zX ?_|refine zo rfl ?_|refine zs ?_|intro _));all_goals(try(conv=>whnf))
  generalize hq:a4k _ _ _=q;obtain rfl:q=some [[.p (.str v0),.p (.int .i64 1),.p (.int .i64 s0)],[.p (.str v1),.p (.int .i64 0),.p (.int .i64 s1)]]:=by rw[<-hq,a1u];exact(by simp[a5P,hv,hs,hv',hs']:a5P s1 (.p (.int .i64 0)) [[.p (.str v0),.p (.int .i64 1),.p (.int .i64 s0)],[.p (.str v1),.p (.int .i64 x1),.p (.int .i64 s1)]]=some [[.p (.str v0),.p (.int .i64 1),.p (.int .i64 s0)],[.p (.str v1),.p (.int .i64 0),.p (.int .i64 s1)]])
  clear hq
  (repeat'((conv=>whnf);first|exact trivial|(with_reducible first|refine zX ?_|refine zP ?_|refine zL ?_)|refine⟨rfl,?_⟩|refine⟨_,rfl,?_⟩|refine⟨fun _=>?_,fun _=>?_⟩|refine zn ?_|refine zb rfl ?_|refine zX ?_|refine zo rfl ?_|refine zs ?_|intro _));all_goals(try(conv=>whnf))
  all_goals rfl
open Go.RowKit
def swA(i k:Int)(room:Int)(n:Nat)(wh:Int)(rows mrows:List (List DV)):Option (List (Option Box)×DV) :=
 match n,rows,mrows with
 |2,[[.p (.int .i64 v0),.p (.int .i64 a0),.p (.int .i64 b0),.p (.int .i64 w0)],[.p (.int .i64 v1),.p (.int .i64 a1),.p (.int .i64 b1),.p (.int .i64 w1)]],[[.p (.int .i64 u0),.p (.int .i64 x0)],[.p (.int .i64 u1),.p (.int .i64 x1)]]=>
  if i=1/\k=0/\u0=v0/\u1=v1/\v0≠v1 then some ([some ⟨true,4,[[.p (.int .i64 room),.bs 1 4 true 0 2,.mh 2,.p (.int .i64 wh)]],false⟩,some ⟨true,4,[[.p (.int .i64 v1),.p (.int .i64 a1),.p (.int .i64 b1),.p (.int .i64 w1)],[.p (.int .i64 v0),.p (.int .i64 a0),.p (.int .i64 b0),.p (.int .i64 w0)]],false⟩,
   some ⟨true,0,[[.p (.int .i64 v0),.p (.int .i64 1)],[.p (.int .i64 v1),.p (.int .i64 0)]],false⟩],.tup [])
  else if i=0/\k=1/\u0=v1/\u1=v0/\v0≠v1 then some ([some ⟨true,4,[[.p (.int .i64 room),.bs 1 4 true 0 2,.mh 2,.p (.int .i64 wh)]],false⟩,some ⟨true,4,[[.p (.int .i64 v1),.p (.int .i64 a1),.p (.int .i64 b1),.p (.int .i64 w1)],[.p (.int .i64 v0),.p (.int .i64 a0),.p (.int .i64 b0),.p (.int .i64 w0)]],false⟩,
   some ⟨true,0,[[.p (.int .i64 v1),.p (.int .i64 0)],[.p (.int .i64 v0),.p (.int .i64 1)]],false⟩],.tup [])
  else none
 |1,[[.p (.int .i64 v0),.p (.int .i64 a0),.p (.int .i64 b0),.p (.int .i64 w0)]],[[.p (.int .i64 u0),.p (.int .i64 x0)]]=>
  if i=0/\k=0/\u0=v0 then some ([some ⟨true,4,[[.p (.int .i64 room),.bs 1 4 true 0 1,.mh 2,.p (.int .i64 wh)]],false⟩,some ⟨true,4,[[.p (.int .i64 v0),.p (.int .i64 a0),.p (.int .i64 b0),.p (.int .i64 w0)]],false⟩,
   some ⟨true,0,[[.p (.int .i64 v0),.p (.int .i64 0)]],false⟩],.tup [])
  else none
 |_,_,_=>none
def swS(i k:Int)(room:Int)(n:Nat)(wh:Int)(rows mrows:List (List DV)):Option (List (Option Box)×DV) :=
 match n,rows,mrows with
 |2,[[.p (.str v0),.p (.int .i64 a0),.p (.int .i64 b0),.p (.int .i64 w0)],[.p (.str v1),.p (.int .i64 a1),.p (.int .i64 b1),.p (.int .i64 w1)]],[[.p (.str u0),.p (.int .i64 x0)],[.p (.str u1),.p (.int .i64 x1)]]=>
  if i=1/\k=0/\u0.data.toList=v0.data.toList/\u1.data.toList=v1.data.toList/\v0.data.toList≠v1.data.toList then some ([some ⟨true,4,[[.p (.int .i64 room),.bs 1 4 true 0 2,.mh 2,.p (.int .i64 wh)]],false⟩,some ⟨true,4,[[.p (.str v1),.p (.int .i64 a1),.p (.int .i64 b1),.p (.int .i64 w1)],[.p (.str v0),.p (.int .i64 a0),.p (.int .i64 b0),.p (.int .i64 w0)]],false⟩,
   some ⟨true,0,[[.p (.str v0),.p (.int .i64 1)],[.p (.str v1),.p (.int .i64 0)]],false⟩],.tup [])
  else none
 |_,_,_=>none
def b9J(f:FuncId)(args:List DV)(bs:List Box):Option (List (Option Box)×DV) :=
 match args,bs with
 |[.addr 0 4 0 0,.p (.int .i64 i),.p (.int .i64 k)],[⟨true,4,[[.p (.int .i64 room),.bs 1 4 true 0 n,.mh 2,.p (.int .i64 wh)]],true⟩,⟨true,4,rows,true⟩,⟨true,0,mrows,true⟩]=>
  if f=88 then swA i k room n wh rows mrows else if f=189 then swS i k room n wh rows mrows else none
 |_,_=>none
theorem b6l(f:FuncId)(args:List DV)(bs:List Box)(bs':List (Option Box))(d:DV)(h:b9J f args bs=some (bs',d)):a1Y Tryz.prog f args bs bs' d:=by
 unfold b9J at h
 split at h
 ·split at h
  ·rename_i e;subst e
   unfold swA at h
   split at h
   ·split at h
    ·rename_i hc
     obtain⟨rfl,rfl,rfl,rfl,hv⟩:=hc;simp only[sIj,Prod.mk.injEq] at h;obtain⟨rfl,rfl⟩:=h;exact b6D _ _ _ _ _ _ _ _ _ _ _ _ hv
    ·split at h
     ·rename_i hc
      obtain⟨rfl,rfl,rfl,rfl,hv⟩:=hc;simp only[sIj,Prod.mk.injEq] at h;obtain⟨rfl,rfl⟩:=h;exact b6A _ _ _ _ _ _ _ _ _ _ _ _ hv
     ·cases h
   ·split at h
    ·rename_i hc
     obtain⟨rfl,rfl,rfl⟩:=hc;simp only[sIj,Prod.mk.injEq] at h;obtain⟨rfl,rfl⟩:=h;exact b5n _ _ _ _ _ _ _
    ·cases h
   ·cases h
  ·split at h
   ·rename_i e;subst e
    unfold swS at h
    split at h
    ·split at h
     ·rename_i hc
      obtain⟨rfl,rfl,h1,h2,hv⟩:=hc;have h1:=a6R h1;have h2:=a6R h2;subst h1;subst h2;simp only[sIj,Prod.mk.injEq] at h;obtain⟨rfl,rfl⟩:=h;exact b7J _ _ _ _ _ _ _ _ _ _ _ _ hv
     ·cases h
    ·cases h
   ·cases h
 ·cases h
def c4y(f:FuncId)(args:List DV)(bs:List Box):Option (List (Option Box)×DV) :=
 match c2T f args bs with
 |some r=>some r
 |none=>b9J f args bs
theorem b9h(f:FuncId)(args:List DV)(bs:List Box)(bs':List (Option Box))(d:DV)(h:c4y f args bs=some (bs',d)):a1Y Tryz.prog f args bs bs' d:=by
 unfold c4y at h
 split at h
 ·rename_i e;rw[h] at e;exact b8o _ _ _ _ _ e
 ·exact b6l _ _ _ _ _ h
def c6W:Tbl:=(87,F87) ::(89,F89) ::(140,c6b) ::(141,c6M) ::(55,F55) ::(56,F56) ::(57,F57) ::(58,F58) ::(95,F95) ::(54,F54) ::(161,c7c) ::(190,c6N) ::(191,c5f) ::(113,c6g) ::(160,c6L) ::(114,c7v) ::(122,c6u) ::(109,c6U) ::(72,F72) ::(71,F71) ::(73,F73) ::(99,F99) ::(100,c6m) ::(69,F69) ::(115,c7O) ::(116,c6r) ::(162,c7q) ::(123,c6B) ::(192,c5h) ::(110,c5n) ::(91,F91) ::(93,F93) ::(94,F94) ::(63,F63) ::(60,F60) ::(117,c7S) ::(118,c5w) ::(163,c6k) ::(111,c5t) ::(28,F28) ::(29,F29) ::(30,F30) ::(31,F31) ::(27,F27) ::(38,F38) ::(37,F37) ::(39,F39) ::(40,F40) ::(70,F70) ::(36,F36) ::(41,F41) ::(33,F33) ::(34,F34) ::(35,F35) ::(61,F61) ::(32,F32) ::(65,F65) ::(120,c6Z) ::(19,F19) ::(20,F20) ::(22,F22) ::(24,F24) ::(25,F25) ::(26,F26) ::(53,F53) ::(44,F44) ::(76,F76) ::(15,F15) ::(64,F64) ::(96,F96) ::(142,c6X) ::(66,F66) ::(43,F43) ::c2M
theorem tblK_ok:TblOK Tryz.prog c6W:=.cons k87 <| .cons k89 <| .cons c8Y <| .cons c8J <| .cons k55 <| .cons k56 <| .cons k57 <| .cons k58 <| .cons k95 <| .cons k54 <| .cons c8g <| .cons c9M <| .cons c7x <| .cons c8v <| .cons c9K <| .cons c8h <| .cons c9A <| .cons c8I <| .cons k72 <| .cons k71 <| .cons k73 <| .cons k99 <| .cons c8w <| .cons k69 <| .cons c8q <| .cons c8V <| .cons c8y <| .cons c8A <| .cons c8z <| .cons c9D <| .cons k91 <| .cons k93 <| .cons k94 <| .cons k63 <| .cons k60 <| .cons c8r <| .cons c8B <| .cons c8l <| .cons c8P <| .cons k28 <| .cons k29 <| .cons k30 <| .cons k31 <| .cons k27 <| .cons k38 <| .cons k37 <| .cons k39 <| .cons k40 <| .cons k70 <| .cons k36 <| .cons k41 <| .cons k33 <| .cons k34 <| .cons k35 <| .cons k61 <| .cons k32 <| .cons k65 <| .cons c8S <| .cons k19 <| .cons k20 <| .cons k22 <| .cons k24 <| .cons k25 <| .cons k26 <| .cons k53 <| .cons k44 <| .cons k76 <| .cons k15 <| .cons k64 <| .cons k96 <| .cons c8M <| .cons k66 <| .cons k43<|tblO_ok
def c9L(zs:List Nat)(n:Nat):Env:=b3M (c0d zs) c4y (Tbl.del zs c6W) n
theorem b4H{zs:List Nat}(h:∀z,z∈zs->a0A Tryz.prog z [] (.p (.bool true)))(n:Nat):(c9L zs n).OK Tryz.prog:=a4u (b0X h) b9h (tblK_ok.del zs)
open Go.RowKit
theorem b8t:a0A Tryz.prog 43 [] (.p (.bool true)):=by
 have h:=c1M;refine Fn.run k43 rfl ?_;generalize Tryz.prog=P at *
 (repeat'((conv=>whnf);first|exact trivial|(with_reducible first|refine zX ?_|refine zP ?_|refine zL ?_)|refine⟨rfl,?_⟩|refine⟨_,rfl,?_⟩|refine⟨fun _=>?_,fun _=>?_⟩|refine zn ?_|refine zb rfl ?_|refine zX ?_|refine zo rfl ?_|refine zs ?_|intro _));all_goals(try(conv=>whnf))
 all_goals rfl
theorem b9I:a0A Tryz.prog 76 [] (.p (.bool true)):=(b4H (zs:=[121]) (fun z hz=>by simp at hz;subst hz;exact b2M) 100).call 76 [] (.p (.bool true)) (by kernel_rfl)
theorem b9a:a0A Tryz.prog 44 [] (.p (.bool true)):=by
 have h:=b9I;refine Fn.run k44 rfl ?_;generalize Tryz.prog=P at *
 (repeat'((conv=>whnf);first|exact trivial|(with_reducible first|refine zX ?_|refine zP ?_|refine zL ?_)|refine⟨rfl,?_⟩|refine⟨_,rfl,?_⟩|refine⟨fun _=>?_,fun _=>?_⟩|refine zn ?_|refine zb rfl ?_|refine zX ?_|refine zo rfl ?_|refine zs ?_|intro _));all_goals(try(conv=>whnf))
 all_goals rfl
theorem c0x:a0A Tryz.prog 15 [] (.p (.bool true)):=(b4H (zs:=[43,44]) (fun z hz=>by simp at hz;rcases hz with rfl|rfl;exact b8t;exact b9a) 100).call 15 [] (.p (.bool true)) (by kernel_rfl)
open Go.RowKit Ma
theorem c4K(c:Cf)(nl:Bool)(ls:LL)(t:Tk)(way:Int)(j:Jb)(now:Int):a0A Tryz.prog 4 [eCf c,sLL nl ls,eT t,.int .i64 way,eJ j,.int .i64 now] (.p (.bool true)):=by
 have hbeg:a0A Tryz.prog 15 [] (.p (.bool true)):=c0x;have hm:=a0M;obtain⟨d,L,K⟩:=c8t c nl ls;have h19:=K.cf;have hrl:=(a7x K.ok).2;have h21:=c3S d t (by omega)
 generalize t.cut=u at *
 cases hok:u.ok d.res.length with
 |false=>
  rw[hok] at h21;clear hm hrl K;simp only[eCf,eT] at h19 h21;refine Fn.run k4 rfl ?_;generalize Tryz.prog=P at *
  (repeat'((conv=>whnf);first|exact trivial|(with_reducible first|refine zX ?_|refine zP ?_|refine zL ?_)|refine⟨rfl,?_⟩|refine⟨_,rfl,?_⟩|refine⟨fun _=>?_,fun _=>?_⟩|refine zn ?_|refine zb rfl ?_|refine zX ?_|refine zo rfl ?_|refine zs ?_|intro _));all_goals(try(conv=>whnf))
  all_goals rfl
 |true=>
  rw[hok] at h21;obtain⟨k,W,hpl, -, -,h6⟩:=b6E K u hok way;have hA:=b7K j;have hA2:=b6M j;rw[<-c0j] at hA2;generalize (j.st ==1||(j.st ==2||j.st ==3))=act at *
  have hT:=c0R d u k false W (by omega) j now
  by_cases hg:(1<=j.left/\j.left<=1000)/\0<=j.ov/\(0<=j.don/\j.don<=1000)/\0<=j.sec/\j.don<j.want
  ·have hR:=c5T d u k false W (by omega) j now ⟨hg.1.1,by omega⟩ hg.2.2.2.1
   have g1:decide (j.left<1)=false:=decide_eq_false (by omega)
   have g2:decide (j.ov<0)=false:=decide_eq_false (by omega)
   have g3:decide (j.don<0)=false:=decide_eq_false (by omega)
   have g4:decide (j.sec<0)=false:=decide_eq_false (by omega)
   have g5:decide (j.left>1000)=false:=decide_eq_false (by omega)
   have g6:decide (j.don>1000)=false:=decide_eq_false (by omega)
   have g7:decide (j.don≥j.want)=false:=decide_eq_false (by omega)
   generalize a1D d.move now u.secs W j=r at *;obtain⟨⟨a,b,e,f,g,h,i,l,m⟩,q⟩:=r;simp only[eCf,eT,ePl,eJ,jR] at h19 h21 hpl hT hR hA hA2;clear hm hrl K hg h6 hok;have z1:(act ==act)=true:=by simp
   have z2:(q ==q)=true:=by simp
   refine Fn.run k4 rfl ?_;generalize Tryz.prog=P at *
   (repeat'((conv=>whnf);first|exact trivial|(with_reducible first|refine zX ?_|refine zP ?_|refine zL ?_)|refine⟨rfl,?_⟩|refine⟨_,rfl,?_⟩|refine⟨fun _=>?_,fun _=>?_⟩|refine zn ?_|refine zb rfl ?_|refine zX ?_|refine zo rfl ?_|refine zs ?_|intro _));all_goals(try(conv=>whnf))
   all_goals first
    |rfl
    |exact a0J (by assumption)
    |(exfalso;simp at *;done)
    |exact a0J (by simp)
  ·simp only[eCf,eT,ePl,eJ,jR] at h19 h21 hpl
   clear hm hrl K h6 hok hT hA hA2;refine Fn.run k4 rfl ?_;generalize Tryz.prog=P at *
   (repeat'((conv=>whnf);first|exact trivial|(with_reducible first|refine zX ?_|refine zP ?_|refine zL ?_)|refine⟨rfl,?_⟩|refine⟨_,rfl,?_⟩|refine⟨fun _=>?_,fun _=>?_⟩|refine zn ?_|refine zb rfl ?_|refine zX ?_|refine zo rfl ?_|refine zs ?_|intro _));all_goals(try(conv=>whnf))
   all_goals first
    |rfl
    |(exfalso;simp only[decide_eq_true_eq,decide_eq_false_iff_not] at *;omega)
end Go.Proofs.YtnjphclbpgajpaaGreatDoor.Vc
