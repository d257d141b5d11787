/- Part of a proof over a Go program: VcDraw. No condition. -/
import Derived.Test.YtnjphclbpgajpaaGreatDoorX04
import Derived.Orders
set_option linter.unnecessarySimpa false
set_option linter.unusedSectionVars false
set_option linter.unusedSimpArgs false
set_option linter.unusedVariables false
namespace Go.Proofs.YtnjphclbpgajpaaGreatDoor.Vc
open Go.RowKit
variable {P:Program}
theorem gS{op:BinOp}{x y:PV}{K:PV->Prop}:jH op x y K↔∃z,jH op x y (fun z'=>z'=z)/\K z:=by
 constructor
 ·intro h
  unfold jH at h ⊢
  cases x<;>cases y<;>cases op<;>simp only[] at h ⊢<;>first
   |exact h.elim
   |exact⟨_,rfl,h⟩
   |exact⟨_,⟨h.1,rfl⟩,h.2⟩
   |exact⟨_,⟨h.1,h.2.1,rfl⟩,h.2.2⟩
 ·rintro⟨z,h,hK⟩
  unfold jH at h ⊢
  cases x<;>cases y<;>cases op<;>simp only[] at h ⊢<;>first
   |exact h.elim
   |(subst h;exact hK)
   |(obtain⟨h1,rfl⟩:=h;exact⟨h1,hK⟩)
   |(obtain⟨h1,h2,rfl⟩:=h;exact⟨h1,h2,hK⟩)
theorem gV{cells:List PV}{off n:Nat}{ag:Bool}{K:PV->Prop}:gB cells off n ag K↔∃z,gB cells off n ag (fun z'=>z'=z)/\K z:=by
 unfold gB
 cases ag with
 |false=>simp
 |true=>
  simp only[if_true];exact⟨fun h=>⟨_,⟨h.1,rfl⟩,h.2⟩,fun ⟨z,⟨h1,h2⟩,h3⟩=>⟨h1,h2▸h3⟩⟩
def j5:Kd->Bool
 | .ob (.callo _ false) | .ob (.callr _) | .ob (.mpe _) | .ob .ents | .ob (.lda _)=>true
 | .len | .slb _ _ | .callm _ _ | .look _ _ | .mupd _ | .mkmap _ | .ob _=>false
 |_=>true
theorem J3{κ:Kd}(h:j5 κ.core=true):oK κ=false:=by
 cases κ with
 |ob κ=>cases κ with
  |callo f gr=>cases gr<;>first|rfl|(simp[Kd.core,j5] at h)
  |callr f=>rfl
  |mpe q=>rfl
  |ents=>rfl
  |lda n=>rfl
  |_=>simp[Kd.core,j5] at h
 |_=>rfl
theorem mH{f:FuncId}{gr:Bool}{xs:List DV}{b:List (Option Box)}{K:DV->List (Option Box)->Prop}(h:callO P f gr xs b K):∃v b',callO P f gr xs b (fun v1 b1=>v1=v/\b1=b')/\K v b':=by
 unfold callO at h ⊢
 split at h
 ·obtain⟨bs',r,h1,h2,h3⟩:=h;exact⟨_,_,⟨bs',r,h1,h2,rfl,rfl⟩,h3⟩
 ·exact h.elim
theorem I9{κ:KO}(hκ:j5 (.ob κ)=true){vs:List DV}{b:List (Option Box)}{K:DV->List (Option Box)->Prop}(h:bB P κ vs b K):∃v b',bB P κ vs b (fun v1 b1=>v1=v/\b1=b')/\K v b':=by
 cases κ with
 |callo f gr=>exact mH h
 |callr f=>
  obtain⟨v,b',h1,e,hk⟩:=mH (show callO P f false vs b (fun v b'=>b'=b/\K v b) from h)
  refine⟨v,b,?_,hk⟩
  show callO P f false vs b (fun v1 b1=>b1=b/\(v1=v/\b=b))
  exact dJ (fun v1 b1 h=>⟨h.2.trans e,h.1,rfl⟩) h1
 |mpe q=>
  unfold bB at h ⊢
  split at h
  all_goals first
   |exact h.elim
   |(rename_i e1 e2;cases e1;done)
   |(rename_i e1;cases e1;done)
   |skip
  obtain⟨h1,h2⟩:=h
  split at h2
  ·split at h2
   ·exact⟨_,_,⟨h1,rfl,rfl⟩,h2⟩
   ·exact h2.elim
  ·exact h2.elim
 |lda n=>
  unfold bB at h ⊢
  split at h
  all_goals first
   |exact h.elim
   |(rename_i e1 e2;cases e1;done)
   |(rename_i e1;cases e1;done)
   |skip
  split at h
  ·obtain⟨h1,row,h2,h3,h4⟩:=h
   split at h4
   ·rename_i hq
    exact⟨.agd _,b,⟨h1,row,h2,h3,by simp[hq]⟩,h4⟩
   ·exact h4.elim
  ·exact h.elim
 |ents=>
  unfold bB at h ⊢
  split at h
  all_goals first
   |exact h.elim
   |(rename_i e1 e2;cases e1;done)
   |(rename_i e1;cases e1;done)
   |skip
  obtain⟨h1,h2⟩:=h
  split at h2
  ·split at h2
   ·exact⟨_,_,⟨h1,rfl,rfl⟩,h2⟩
   ·exact h2.elim
  ·exact h2.elim
 |_=>simp[j5] at hκ
theorem GU{j:Nat}{ag:Bool}{T:Ob}{K0 K0':PV->Prop}{K K':DV->Box->Prop}(h0:∀x,K0 x->K0' x)(h1:∀d b,K d b->K' d b)(h:BK j ag T K0 K):BK j ag T K0' K':=by
 cases T with
 |ptr cells=>
  cases cells with
  |nil=>exact h
  |cons c cs=>exact h1 _ _ h
 |sl size nl rows=>
  cases size with
  |zero=>exact h
  |succ n=>cases nl with
   |true=>exact h0 _ h
   |false=>exact h1 _ _ h
 |mp keys vals=>exact h1 _ _ h
 |_=>exact h
set_option maxHeartbeats 1000000 in
theorem GH{κ:KO}{vs:List DV}{b:List (Option Box)}{K K':DV->List (Option Box)->Prop}(hk:∀v b,K v b->K' v b)(h:bB P κ vs b K):bB P κ vs b K':=by
 unfold bB at h ⊢
 split at h
 ·split at h
  ·obtain⟨h1,row,h2,d,h3,h4⟩:=h
   refine⟨h1,row,h2,d,h3,?_⟩
   cases d with
   |ob T=>exact⟨h4.1,h4.2.1,GU (fun _=>hk _ _) (fun _ _=>hk _ _) h4.2.2⟩
   |_=>exact hk _ _ h4
  ·exact h.elim
 ·obtain⟨c,h1,h2⟩:=h;exact⟨c,h1,hk _ _ h2⟩
 ·exact dJ hk h
 ·split at h
  ·exact dJ hk h
  ·exact h.elim
 ·split at h
  ·exact hk _ _ h
  ·exact h.elim
 ·split at h
  ·exact hk _ _ h
  ·exact hk _ _ h
  ·exact hk _ _ h
  ·exact hk _ _ h
  ·exact h.elim
 ·split at h
  ·split at h
   ·exact⟨h.1,h.2.1,h.2.2.1,fun e=>hk _ _ (h.2.2.2.1 e),fun e=>hk _ _ (h.2.2.2.2 e)⟩
   ·split at h
    ·obtain⟨h1,h2,h3,h4,h5,h6,h7,h8⟩:=h;exact⟨h1,h2,h3,h4,h5,h6,h7,hk _ _ h8⟩
    ·exact h.elim
   ·exact h.elim
  ·exact h.elim
 ·obtain⟨h1,h2,h3,h4,h5,h6⟩:=h;exact⟨h1,h2,h3,h4,h5,hk _ _ h6⟩
 ·obtain⟨h1,h2,h3,h4,h5⟩:=h
  refine⟨h1,h2,h3,h4,?_⟩
  split at h5
  ·obtain⟨h6,h7,h8,h9⟩:=h5;exact⟨h6,h7,h8,hk _ _ h9⟩
  ·exact h5.elim
 ·obtain⟨h1,h2,h3,h4⟩:=h;exact⟨h1,h2,h3,hk _ _ h4⟩
 ·obtain⟨h1,h2⟩:=h
  refine⟨h1,?_⟩
  split at h2
  ·split at h2
   ·split at h2
    ·rename_i ho;rw[if_pos ho];obtain⟨v,h3,h4⟩:=h2;exact⟨v,h3,hk _ _ h4⟩
    ·rename_i ho;rw[if_neg ho];exact hk _ _ h2
   ·exact hk _ _ h2
   ·exact h2.elim
  ·exact h2.elim
 ·obtain⟨h1,h2,h3⟩:=h
  refine⟨h1,h2,?_⟩
  split at h3
  ·split at h3
   ·exact hk _ _ h3
   ·exact h3.elim
  ·exact h3.elim
 ·obtain⟨h1,h2⟩:=h
  refine⟨h1,?_⟩
  split at h2
  ·split at h2
   ·exact hk _ _ h2
   ·exact h2.elim
  ·exact h2.elim
 ·split at h
  ·exact hk _ _ h
  ·exact h.elim
 ·exact dJ (fun v b' h=>⟨h.1,hk _ _ h.2⟩) h
 ·obtain⟨h1,h2⟩:=h
  refine⟨h1,?_⟩
  split at h2
  ·split at h2
   ·exact hk _ _ h2
   ·exact h2.elim
  ·exact h2.elim
 ·split at h
  ·obtain⟨h1,row,h2,h3,h4⟩:=h
   refine⟨h1,row,h2,h3,?_⟩
   split at h4
   ·exact hk _ _ h4
   ·exact h4.elim
  ·exact h.elim
 ·obtain⟨h1,h2⟩:=h
  refine⟨h1,?_⟩
  split at h2
  ·split at h2
   ·exact hk _ _ h2
   ·exact h2.elim
  ·exact h2.elim
 ·exact h.elim
set_option maxHeartbeats 2000000 in
theorem qN{κ:Kd}{vs:List DV}{b:List (Option Box)}{K K':DV->List (Option Box)->Prop}(hk:∀v b,K v b->K' v b)(h:aD P κ vs b K):aD P κ vs b K':=by
 unfold aD at h ⊢
 split at h<;>(repeat' split at h)<;>(try simp_all)
 all_goals first
  |(rw[gV] at h ⊢;obtain⟨z,h1,h2⟩:=h;exact⟨z,h1,hk _ _ h2⟩)
  |(rw[gS] at h ⊢;obtain⟨z,h1,h2⟩:=h;exact⟨z,h1,hk _ _ h2⟩)
  |exact GH hk h
  |grind
set_option maxHeartbeats 2000000 in
theorem uF{κ:Kd}(hκ:j5 κ=true){vs:List DV}{b:List (Option Box)}{K:DV->List (Option Box)->Prop}(h:aD P κ vs b K) :
  ∃v b',aD P κ vs b (fun v1 b1=>v1=v/\b1=b')/\K v b':=by
 unfold aD at h ⊢
 split at h<;>(repeat' split at h)<;>(try simp_all)
 all_goals first
  |(rw[gV] at h;obtain⟨z,h1,h2⟩:=h;exact⟨_,_,gV.2 ⟨z,h1,rfl,rfl⟩,h2⟩)
  |(rw[gS] at h;obtain⟨z,h1,h2⟩:=h;exact⟨_,_,gS.2 ⟨z,h1,rfl,rfl⟩,h2⟩)
  |(simp[j5] at hκ;done)
  |exact I9 hκ h
  |exact⟨_,_,⟨rfl,rfl⟩,h⟩
  |exact⟨_,_,⟨rfl,rfl⟩,h.2⟩
  |exact⟨_,_,⟨rfl,rfl⟩,h.2.2⟩
  |grind
  |(cases ‹Bool›<;>grind)
  |(obtain⟨r,h1,h2⟩:=h;exact⟨_,_,⟨r,h1,rfl,rfl⟩,h2⟩)
  |grind
  |(cases ‹Bool›<;>grind)
def yZ:Kd->Bool
 | .mov _ | .pick | .build _ _ | .bsl _ _ | .loadp _ _ | .bin _ | .eqnil _ | .un _ | .conv _ | .fad _ | .fld _ _ _ | .iad _ | .sidx | .lenD | .slen | .ext _ | .extp _ | .slc _ _ _ | .ssl _ _ | .stk | .eqat _ | .eqs _ _ | .eqb _ | .mkz _ _ _ | .s2b | .nilchk | .mn | .mx=>true
 |_=>false
def IZ:Kd->Bool
 | .load _ _ take => !take
 | .app _ _ | .call _ | .callv | .mkfn _=>true
 | κ=>yZ κ
set_option maxHeartbeats 2000000 in
theorem pJ{κ:Kd}(hκ:IZ κ=true){vs:List DV}{b b':List (Option Box)}{v:DV}(h:aD P κ vs b (fun v1 b1=>v1=v/\b1=b')):b'=b:=by
 cases κ<;>simp[IZ,yZ] at hκ
 all_goals
  unfold aD at h
  (repeat' split at h)<;>(try simp_all)
 all_goals first
  |(rw[gV] at h;obtain⟨z,h1,h2,h3⟩:=h;exact h3.symm)
  |(rw[gS] at h;obtain⟨z,h1,h2,h3⟩:=h;exact h3.symm)
  |grind
  |(cases ‹Bool›<;>grind)
set_option maxHeartbeats 2000000 in
theorem C7{κ:Kd}(hκ:yZ κ=true){vs:List DV}{b b':List (Option Box)}{v:DV}(h:aD P κ vs b (fun v1 b1=>v1=v/\b1=b'))(b2:List (Option Box)) :
  aD P κ vs b2 (fun v1 b1=>v1=v/\b1=b2):=by
 cases κ<;>simp[yZ] at hκ
 all_goals
  unfold aD at h ⊢
  (repeat' split at h)<;>(try simp_all)
 all_goals first
  |(rw[gV] at h ⊢;obtain⟨z,h1,h2,h3⟩:=h;exact⟨z,h1,h2⟩)
  |(rw[gS] at h ⊢;obtain⟨z,h1,h2,h3⟩:=h;exact⟨z,h1,h2⟩)
  |grind
theorem iU{κ:Kd}{vs:List DV}{b:List (Option Box)}{K K':DV->List (Option Box)->Prop}(hk:∀v b,K v b->K' v b)(h:cJ P κ vs b K):cJ P κ vs b K':=by
 unfold cJ at h ⊢
 split at h
 ·split at h
  ·exact⟨h.1,qN hk h.2⟩
  ·exact h
 ·exact⟨h.1,qN hk h.2⟩
 ·exact qN hk h
theorem J6{κ:Kd}(hκ:j5 κ.core=true){vs:List DV}{b:List (Option Box)}{K:DV->List (Option Box)->Prop}(h:cJ P κ vs b K) :
  ∃v b',cJ P κ vs b (fun v1 b1=>v1=v/\b1=b')/\K v b':=by
 unfold cJ at h ⊢
 split at h
 ·split at h
  ·obtain⟨v,b',h1,h2⟩:=uF hκ h.2;exact⟨v,b',⟨h.1,h1⟩,h2⟩
  ·exact h.elim
 ·obtain⟨v,b',h1,h2⟩:=uF hκ h.2;exact⟨v,b',⟨h.1,h1⟩,h2⟩
 ·rename_i n1 n2
  have hb : κ.base=true:=by cases κ<;>first|rfl|exact(n1 _ _ rfl).elim|exact(n2 _ rfl).elim
  rw[mA hb] at hκ;exact uF hκ h
def y7:Kd->Bool
 | .call _ | .callv | .app _ _ | .mkfn _=>true
 |_=>false
def mM:Kd->Bool
 | .pl κ=>yZ κ||y7 κ
 | .at _ _=>false
 | κ=>yZ κ
def F5:Kd->Bool
 | .pl κ=>IZ κ
 | .at _ κ=>IZ κ
 | .ob (.callr _)=>true
 | .ob (.mpe _)=>true
 | .ob (.lda _)=>true
 | κ=>IZ κ
theorem nS{d:DV}{x:PV}(h:uK d=some x)(b:List (Option Box)):d.frz b=some x:=by cases d<;>simp[uK] at h<;>simp[DV.frz,h]
theorem n7{ds:List DV}{xs:List PV}(h:cH ds=some xs)(b:List (Option Box)):lH b ds=some xs:=by
 induction ds generalizing xs with
 |nil=>simpa [cH,lH] using h
 |cons d ds ih=>
  simp only[cH] at h
  cases hd:uK d with
  |none=>simp[hd] at h
  |some x=>
   cases hds:cH ds with
   |none=>simp[hd,hds] at h
   |some ys=>
    simp[hd,hds] at h;subst h;simp[lH,nS hd b,ih hds]
theorem fB{κ:Kd}(hκ:F5 κ=true){vs:List DV}{b b':List (Option Box)}{v:DV}(h:cJ P κ vs b (fun v1 b1=>v1=v/\b1=b')):b'=b:=by
 unfold cJ at h
 split at h
 ·split at h
  ·exact pJ hκ h.2
  ·exact h.elim
 ·exact pJ hκ h.2
 ·rename_i n1 n2
  by_cases hr:∃f, κ=.ob (.callr f)
  ·obtain⟨f,rfl⟩:=hr
   obtain⟨v',b'',_,e,e1,e2⟩:=mH (show callO P f false vs b (fun v1 b1=>b1=b/\(v1=v/\b=b')) from h)
   exact e2.symm
  ·by_cases hq:∃q, κ=.ob (.mpe q)
   ·obtain⟨q,rfl⟩:=hq
    have h:bB P (.mpe q) vs b (fun v1 b1=>v1=v/\b1=b'):=h
    unfold bB at h
    split at h
    all_goals first
     |exact h.elim
     |(rename_i e1 e2;cases e1;done)
     |(rename_i e1;cases e1;done)
     |skip
    obtain⟨h1,h2⟩:=h
    split at h2
    ·split at h2
     ·exact h2.2.symm
     ·exact h2.elim
    ·exact h2.elim
   by_cases hl:∃n, κ=.ob (.lda n)
   ·obtain⟨n,rfl⟩:=hl
    have h:bB P (.lda n) vs b (fun v1 b1=>v1=v/\b1=b'):=h
    unfold bB at h
    split at h
    all_goals first
     |exact h.elim
     |(rename_i e1 e2;cases e1;done)
     |(rename_i e1;cases e1;done)
     |skip
    split at h
    ·obtain⟨h1,row,h2,h3,h4⟩:=h
     split at h4
     ·exact h4.2.symm
     ·exact h4.elim
    ·exact h.elim
   refine pJ ?_ h
   cases κ with
   |ob κ=>cases κ with
    |lda n=>exact(hl ⟨n,rfl⟩).elim
    |callr f=>exact(hr ⟨f,rfl⟩).elim
    |mpe q=>exact(hq ⟨q,rfl⟩).elim
    |_=>exact hκ
   |_=>first|exact hκ|exact(n1 _ _ rfl).elim|exact(n2 _ rfl).elim
theorem M1{κ:Kd}(hκ:y7 κ=true){vs:List DV}(hp:(cH vs).isSome=true){b b':List (Option Box)}{v:DV}(h:aD P κ vs b (fun v1 b1=>v1=v/\b1=b'))(b2:List (Option Box)) :
  aD P κ vs b2 (fun v1 b1=>v1=v/\b1=b2):=by
 obtain⟨xs,hxs⟩:=Option.isSome_iff_exists.1 hp;cases κ<;>simp[y7] at hκ
 case call f=>
  simp only[aD,n7 hxs] at h ⊢;obtain⟨r,h1,h2,_⟩:=h;exact⟨r,h1,h2,trivial⟩
 case callv=>
  cases vs with
  |nil=>simp[aD] at h
  |cons d ds=>
   simp only[cH] at hxs
   cases hd:uK d with
   |none=>simp[hd] at hxs
   |some x=>
    cases hds:cH ds with
    |none=>simp[hd,hds] at hxs
    |some ys=>
     simp only[aD,nS hd,n7 hds] at h ⊢
     split at h
     ·rename_i e1 e2
      obtain⟨r,h1,h2,_⟩:=h;injection e1 with e1
      injection e2 with e2
      subst e1;subst e2;exact⟨r,h1,h2,trivial⟩
     ·exact h.elim
 case mkfn f=>
  simp only[aD,n7 hxs] at h ⊢;exact⟨h.1,trivial⟩
 case app size bytes=>
  match vs,h,hxs with
  |[.ow sz nl rows,y],h,hxs=>
   simp only[cH] at hxs
   cases hy:uK y with
   |none=>simp[hy] at hxs
   |some z=>
    simp only[aD,nS hy] at h ⊢
    split at h
    ·rename_i e1
     injection e1 with e1
     subst e1;exact⟨h.1,h.2.1,h.2.2.1,h.2.2.2.1,h.2.2.2.2.1,trivial⟩
    ·exact h.elim
  |[],h,_=>simp[aD] at h
  |[_],h,_=>simp[aD] at h
  |_ ::_ ::_ ::_,h,_=>simp[aD] at h
  |[.top,_],h,_=>simp[aD] at h
  |[.p (.sl sz true []),y],h,hxs=>
   simp only[cH] at hxs
   cases hy:uK y with
   |none=>simp[hy] at hxs
   |some z=>
    simp only[aD,nS hy] at h ⊢
    split at h
    ·rename_i e1
     injection e1 with e1
     subst e1;exact⟨h.1,h.2.1,h.2.2.1,h.2.2.2.1,h.2.2.2.2.1,trivial⟩
    ·exact h.elim
  |[.p (.sl _ true (_ ::_)),_],h,_=>simp[aD] at h
  |[.p (.sl _ false _),_],h,_=>simp[aD] at h
  |[.p (.int _ _),_],h,_=>simp[aD] at h
  |[.p (.bool _),_],h,_=>simp[aD] at h
  |[.p (.str _),_],h,_=>simp[aD] at h
  |[.p (.atom _),_],h,_=>simp[aD] at h
  |[.p (.agg _),_],h,_=>simp[aD] at h
  |[.p (.fn _ _),_],h,_=>simp[aD] at h
  |[.p (.ptr _ _),_],h,_=>simp[aD] at h
  |[.tup _,_],h,_=>simp[aD] at h
  |[.addr _ _ _ _,_],h,_=>simp[aD] at h
  |[.bs _ _ _ _ _,_],h,_=>simp[aD] at h
  |[.fn _ _,_],h,_=>simp[aD] at h
theorem nR{κ:Kd}(hκ:mM κ=true){vs:List DV}{b b':List (Option Box)}{v:DV}(h:cJ P κ vs b (fun v1 b1=>v1=v/\b1=b'))(b2:List (Option Box)) :
  cJ P κ vs b2 (fun v1 b1=>v1=v/\b1=b2):=by
 unfold cJ at h ⊢
 split at h
 ·cases hκ
 ·simp only[mM,Bool.or_eq_true] at hκ
  rcases hκ with hκ|hκ
  ·exact⟨h.1,C7 hκ h.2 b2⟩
  ·exact⟨h.1,M1 hκ h.1 h.2 b2⟩
 ·rename_i n1 n2
  refine C7 ?_ h b2;cases κ<;>first|exact hκ|exact(n1 _ _ rfl).elim|exact(n2 _ rfl).elim
theorem CP{κ:Kd}(h:mM κ=true):F5 κ=true:=by
 cases κ<;>first|exact h|rfl|(rename_i κ;cases κ<;>first|exact h|rfl|cases h)|cases h
def kP:List (Option Box)->Nat->Option Box
 |[],_=>none
 |x ::_,0=>x
 |_ ::xs,n+1=>kP xs n
theorem dB:∀(l:List (Option Box)) (n:Nat),bF l n=x8 (kP l n)
 |[],_=>rfl
 |_ ::_,0=>rfl
 |_ ::xs,n+1=>dB xs n
theorem BN{l:List (Option Box)}{n:Nat}{bx:Box}(h:bF l n=some bx):(kP l n).isSome=true:=by
 rw[dB] at h;rw[(nJ h).1];rfl
theorem j2:∀(l:List (Option Box)) (n:Nat),aF l n (kP l n)=l
 |[],_=>rfl
 |x ::xs,0=>rfl
 |x ::xs,n+1=>by simp only[aF,kP];rw[j2 xs n]
theorem dT:∀(l:List (Option Box)) (n m:Nat) (x:Option Box),n≠m->kP (aF l n x) m=kP l m
 |[],_,_,_,_=>rfl
 |_ ::_,0,0,_,h=>(h rfl).elim
 |_ ::_,0,_+1,_,_=>rfl
 |_ ::_,_+1,0,_,_=>rfl
 |_ ::xs,n+1,m+1,x,h=>by simp only[aF,kP];exact dT xs n m x (by omega)
theorem jU:∀(l:List (Option Box)) (n:Nat) (x:Option Box),(kP l n).isSome=true->kP (aF l n x) n=x
 |[],_,_,h=>by cases h
 |_ ::_,0,_,_=>rfl
 |_ ::xs,n+1,x,h=>by simp only[aF,kP] at h ⊢;exact jU xs n x h
theorem gN:∀(l:List (Option Box)) (n m:Nat) (x y:Option Box),n≠m->aF (aF l n x) m y=aF (aF l m y) n x
 |[],_,_,_,_,_=>rfl
 |_ ::_,0,0,_,_,h=>(h rfl).elim
 |_ ::_,0,_+1,_,_,_=>rfl
 |_ ::_,_+1,0,_,_,_=>rfl
 |_ ::xs,n+1,m+1,x,y,h=>by simp only[aF];rw[gN xs n m x y (by omega)]
def G5:Kd->Option Nat
 | .at k (.load _ _ _)=>some k
 | .at k (.store _)=>some k
 |_=>none
theorem oL{κ:Kd}{k:Nat}(hκ:G5 κ=some k){vs:List DV}{b b':List (Option Box)}{v:DV}(h:cJ P κ vs b (fun v1 b1=>v1=v/\b1=b')) :
  b'=aF b k (kP b' k)/\∀b2,kP b2 k=kP b k->cJ P κ vs b2 (fun v1 b1=>v1=v/\b1=aF b2 k (kP b' k)):=by
 unfold G5 at hκ
 split at hκ
 ·rename_i k' n ag take
  injection hκ with hκ
  subst hκ;simp only[cJ] at h ⊢
  split at h
  ·obtain⟨rfl,h⟩:=h
   rename_i k2 sz r off rest
   cases rest with
   |cons _ _=>simp[aD] at h
   |nil=>
    simp only[aD] at h
    cases hb:bF b k2 with
    |none=>simp[hb] at h
    |some bx=>
     simp only[hb] at h;obtain⟨h1,row,h2,h3,h4⟩:=h
     cases ag with
     |true=>
      simp only[if_true] at h4
      cases hp:cH (eW row off n) with
      |none=>simp[hp] at h4
      |some cs=>
       simp only[hp] at h4;obtain⟨h4,rfl⟩:=h4;refine⟨by rw[j2],fun b2 h5=>⟨rfl,?_⟩⟩
       have h5':bF b2 k2=some bx:=by rw[dB,h5, <-dB,hb]
       simp only[aD,h5'];refine⟨h1,row,h2,h3,?_⟩;simp only[if_true,hp];exact⟨h4,by rw[<-h5,j2]⟩
     |false=>
      simp only[Bool.false_eq_true,if_false] at h4;obtain⟨d,h5,h6,h7⟩:=h4
      cases take with
      |false=>
       simp only[Bool.false_eq_true,if_false] at h6 h7;subst h7;refine⟨by rw[j2],fun b2 h8=>⟨rfl,?_⟩⟩
       have h8':bF b2 k2=some bx:=by rw[dB,h8, <-dB,hb]
       simp only[aD,h8'];refine⟨h1,row,h2,h3,?_⟩;simp only[Bool.false_eq_true,if_false];exact⟨d,h5,h6,by rw[<-h8,j2]⟩
      |true=>
       simp only[if_true] at h6 h7;subst h7;rw[jU b k2 _ (BN hb)];refine⟨rfl,fun b2 h8=>⟨rfl,?_⟩⟩
       have h8':bF b2 k2=some bx:=by rw[dB,h8, <-dB,hb]
       simp only[aD,h8'];refine⟨h1,row,h2,h3,?_⟩;simp only[Bool.false_eq_true,if_false,if_true];exact⟨d,h5,h6,rfl⟩
  ·exact h.elim
 ·rename_i k' n
  injection hκ with hκ
  subst hκ;simp only[cJ] at h ⊢
  split at h
  ·obtain⟨rfl,h⟩:=h
   rename_i k2 sz r off rest
   match rest,h with
   |[],h=>simp[aD] at h
   |_ ::_ ::_,h=>simp[aD] at h
   |[y],h=>
    simp only[aD] at h
    cases hb:bF b k2 with
    |none=>simp[hb] at h
    |some bx=>
     cases hc:aK y with
     |none=>simp[hb,hc] at h
     |some cs=>
      simp only[hb,hc] at h;obtain⟨h1,h2,h3,row,h4,h5,h6,h7⟩:=h;subst h7;rw[jU b k2 _ (BN hb)];refine⟨rfl,fun b2 h8=>⟨rfl,?_⟩⟩
      have h8':bF b2 k2=some bx:=by rw[dB,h8, <-dB,hb]
      simp only[aD,h8',hc];exact⟨h1,h2,h3,row,h4,h5,h6,rfl⟩
  ·exact h.elim
 ·cases hκ
theorem lY:∀(l:List DV) (n:Nat),aF l n (aT l n)=l
 |[],_=>rfl
 |x ::xs,0=>rfl
 |x ::xs,n+1=>by simp only[aF,aT];rw[lY xs n]
def jW:Kd->List O->Option Nat
 | .mov true,[.t n]=>some n
 | .app _ _,.t n ::_=>some n
 | .store _,[_,.t n]=>some n
 | .ext _,[.t n]=>some n
 |_,_=>none
def yS:Kd->DV->DV
 | .ext j,d=>match d with
  | .tup ds=>match ds[j]? with
   |some x=>.tup (aF ds j x.copy)
   |none=>d
  |_=>d
 |_,d=>d.copy
theorem MF(κ:Kd)(xs:List O)(t:List DV):fE κ xs t=match jW κ xs with
  |some n=>aF t n (yS κ (aT t n))
  |none=>t:=by
 unfold fE jW
 split
 ·rfl
 ·rfl
 ·rfl
 ·rename_i j n
  simp only[yS]
  cases e:aT t n with
  |tup ds=>
   simp only
   cases e2:ds[j]? with
   |none=>simp only;rw[<-e,lY]
   |some d=>rfl
  |_=>simp only;rw[<-e,lY]
 ·rename_i h1 h2 h3 h4
  split
  ·rename_i n heq
   exfalso
   split at heq
   ·exact h1 _ rfl rfl
   ·exact h2 _ _ _ _ rfl rfl
   ·exact h3 _ _ _ rfl rfl
   ·exact h4 _ _ rfl rfl
   ·cases heq
  ·rfl
def U(i:Ins)(v:DV)(t:List DV):List DV:=aH (fE i.k.core i.xs t) i.d v
theorem kV(i:Ins)(v:DV)(t:List DV)(n:Nat):(U i v t)[n]?=if i.d=some n then t[n]?.map (fun _=>v) else if jW i.k.core i.xs=some n then t[n]?.map (yS i.k.core) else t[n]?:=by
 unfold U aH;rw[MF]
 have base:(match jW i.k.core i.xs with|some n=>aF t n (yS i.k.core (aT t n))|none=>t)[n]?=if jW i.k.core i.xs=some n then t[n]?.map (yS i.k.core) else t[n]?:=by
  cases hd:jW i.k.core i.xs with
  |none=>simp
  |some m=>
   simp only[getElem?_setL,bQ]
   by_cases hm:n=m
   ·subst hm
    rw[if_pos rfl,if_pos rfl,cL];cases t[n]?<;>rfl
   ·rw[if_neg hm,if_neg (fun h=>hm h.symm)]
 cases hdd:i.d with
 |none=>simpa using base
 |some d=>
  simp only[getElem?_setL,bQ]
  by_cases hm:n=d
  ·subst hm
   rw[if_pos rfl,if_pos rfl,base]
   split
   ·cases t[n]?<;>rfl
   ·rfl
  ·rw[if_neg hm,if_neg (fun h=>hm h.symm),base]
def fV:List O->List Nat
 |[]=>[]
 | .t n ::os=>n ::fV os
 |_ ::os=>fV os
def looks(i:Ins):List Nat :=
 match i.g with
 |some (j,_)=>j ::fV i.xs
 |none=>fV i.xs
theorem lG{κ:Kd}{xs:List O}{n:Nat}(h:jW κ xs=some n):n∈fV xs:=by
 unfold jW at h
 split at h<;>simp at h<;>subst h
 ·simp[fV]
 ·simp[fV]
 ·rename_i o n;cases o<;>simp[fV]
 ·simp[fV]
def zJ(i j:Ins):Bool :=
 (match i.d with
  |some d => !(looks j).contains d&&i.d !=j.d
  |none=>true) &&
 ((match j.d with
  |some d => !(looks i).contains d
  |none=>true) &&
 ((match jW i.k.core i.xs with
  |some n => !(looks j).contains n
  |none=>true) &&
 (match jW j.k.core j.xs with
  |some n => !(looks i).contains n
  |none=>true)))
structure Apart (i j:Ins):Prop where
 d1:∀d,i.d=some d->d∉looks j/\i.d≠j.d
 d2:∀d,j.d=some d->d∉looks i/\j.d≠i.d
 g1:∀n,jW i.k.core i.xs=some n->n∉looks j
 g2:∀n,jW j.k.core j.xs=some n->n∉looks i
theorem Apart.symm{i j:Ins}(h:Apart i j):Apart j i:=⟨h.d2,h.d1,h.g2,h.g1⟩
theorem xI{i j:Ins}(h:zJ i j=true):Apart i j:=by
 simp only[zJ,aY] at h;obtain⟨h1,h2,h3,h4⟩:=h;refine⟨fun d hd=>?_,fun d hd=>?_,fun n hn=>?_,fun n hn=>?_⟩
 ·rw[hd] at h1;simpa [hd] using h1
 ·rw[hd] at h2
  refine⟨by simpa using h2,fun e=>?_⟩
  rw[hd] at e;rw[<-e] at h1;simp[hd] at h1
 ·rw[hn] at h3;simpa using h3
 ·rw[hn] at h4;simpa using h4
theorem Apart.get{i j:Ins}(h:Apart i j)(v:DV)(t:List DV){n:Nat}(hn:n∈looks j):aT (U i v t) n=aT t n:=by
 rw[cL,cL,kV];rw[if_neg (fun e=>(h.d1 n e).1 hn),if_neg (fun e=>h.g1 n e hn)]
theorem i7{i:Ins}{n:Nat}(h:n∈fV i.xs):n∈looks i:=by
 unfold looks
 cases i.g with
 |none=>exact h
 |some g=>exact List.mem_cons_of_mem _ h
theorem tZ{xs:List O}{n:Nat}(h:.t n∈xs):n∈fV xs:=by
 induction xs with
 |nil=>simp at h
 |cons x xs ih=>
  cases x with
  |t m=>
   simp only[fV];rcases List.mem_cons.1 h with e|h
   ·injection e with e;subst e;exact List.mem_cons_self
   ·exact List.mem_cons_of_mem _ (ih h)
  |c d=>
   rcases List.mem_cons.1 h with e|h
   ·cases e
   ·exact ih h
theorem Apart.vals{i j:Ins}(h:Apart i j)(v:DV)(t:List DV):j.xs.map (O.val (U i v t))=j.xs.map (O.val t):=by
 refine List.map_congr_left fun x hx=>?_
 cases x with
 |c d=>rfl
 |t n=>exact h.get v t (i7 (tZ hx))
theorem Apart.comm{i j:Ins}(h:Apart i j)(v u:DV)(t:List DV):U j u (U i v t)=U i v (U j u t):=by
 apply List.ext_getElem?
 intro n;rw[kV,kV,kV,kV];have a1:i.d=some n->j.d≠some n:=fun e e'=>(h.d1 n e).2 (e.trans e'.symm)
 have a2:i.d=some n->jW j.k.core j.xs≠some n:=fun e e'=>(h.d1 n e).1 (i7 (lG e'))
 have a3:j.d=some n->jW i.k.core i.xs≠some n:=fun e e'=>(h.d2 n e).1 (i7 (lG e'))
 have a4:jW i.k.core i.xs=some n->jW j.k.core j.xs≠some n:=fun e e'=>h.g1 n e (i7 (lG e'))
 by_cases e1:i.d=some n
 ·simp[e1,a1 e1,a2 e1]
 ·by_cases e2:j.d=some n
  ·simp[e1,e2,a3 e2]
  ·by_cases e3:jW i.k.core i.xs=some n
   ·simp[e1,e2,e3,a4 e3]
   ·simp[e1,e2,e3]
theorem Apart.top{i j:Ins}(h:Apart i j)(u:DV)(t:List DV):U j u (aH t i.d (.tup []))=aH (U j u t) i.d (.tup []):=by
 apply List.ext_getElem?
 intro n
 cases hd:i.d with
 |none=>rfl
 |some d=>
  simp only[aH];rw[kV,getElem?_setL,getElem?_setL,kV]
  by_cases e:n=d
  ·subst e
   have a1:j.d≠some n:=fun e'=>(h.d1 n hd).2 (hd.trans e'.symm)
   have a2:jW j.k.core j.xs≠some n:=fun e'=>(h.d1 n hd).1 (i7 (lG e'))
   simp[a1,a2]
  ·simp[e]
theorem Apart.topget{i j:Ins}(h:Apart i j)(t:List DV){n:Nat}(hn:n∈looks j):aT (aH t i.d (.tup [])) n=aT t n:=by
 cases hd:i.d with
 |none=>rfl
 |some d=>
  simp only[aH];rw[cL,cL,getElem?_setL,if_neg (fun e=>(h.d1 d hd).1 (by subst e;exact hn))]
def JH(P:Program)(i:Ins)(s s':St):Prop:=∃v,cJ P i.k (i.xs.map (O.val s.t)) s.b (fun v1 b1=>v1=v/\b1=s'.b)/\s'.t=U i v s.t
def FU(P:Program)(i:Ins)(s s':St):Prop :=
 match i.g with
 |none=>JH P i s s'
 |some (j,want)=>(∃c,aT s.t j=.p (.bool c)/\(c=want->JH P i s s')/\(c=(!want)->s'=⟨aH s.t i.d (.tup []),s.b⟩))\/(aT s.t j=.tup []/\s'=⟨aH s.t i.d (.tup []),s.b⟩)
theorem sN{i:Ins}(hn:fF i.k=none)(hl:j5 i.k.core=true){s:St}{K:St->Prop}:mX P i s K↔∃s',JH P i s s'/\K s':=by
 constructor
 ·rintro⟨_,h⟩
  obtain⟨v,b',h1,h2⟩:=J6 hl h;exact⟨⟨U i v s.t,b'⟩,⟨v,h1,rfl⟩,h2⟩
 ·rintro⟨⟨t',b'⟩,⟨v,h1,h2⟩,h3⟩
  simp only at h2;subst h2;refine⟨by unfold fresh;rw[hn,J3 hl];trivial,iU (fun v1 b1 ⟨e1,e2⟩=>?_) h1⟩
  subst e1;subst e2;exact h3
theorem j8{i:Ins}(hn:fF i.k=none)(hl:j5 i.k.core=true){s:St}{K:St->Prop}:b7 P i s K↔∃s',FU P i s s'/\K s':=by
 unfold b7 FU
 cases hg:i.g with
 |none=>exact sN hn hl
 |some g=>
  obtain⟨j,want⟩:=g;simp only
  cases hv:aT s.t j with
  |p z=>
   cases z with
   |bool c=>
    simp only;have es:aF s.t j (.p (.bool c))=s.t:=by rw[<-hv];exact lY _ _
    by_cases hc:c=want
    ·subst hc
     rw[es]
     constructor
     ·rintro⟨h1,_⟩
      obtain⟨s',h2,h3⟩:=(sN hn hl).1 (h1 rfl);exact⟨s',.inl ⟨c,rfl,fun _=>h2,fun h=>by cases c<;>cases h⟩,h3⟩
     ·rintro⟨s',⟨c',e,h1,_⟩|⟨e,_⟩,h3⟩
      ·injection e with e
       injection e with e
       subst e;exact⟨fun _=>(sN hn hl).2 ⟨s',h1 rfl,h3⟩,fun h=>by cases c<;>cases h⟩
      ·cases e
    ·have hc':c = !want:=by cases c<;>cases want<;>simp at hc ⊢
     subst hc';rw[es]
     constructor
     ·rintro⟨_,h2⟩
      exact⟨_,.inl ⟨!want,rfl,fun h=>absurd h hc,fun _=>rfl⟩,h2 rfl⟩
     ·rintro⟨s',⟨c',e,_,h2⟩|⟨e,_⟩,h3⟩
      ·injection e with e
       injection e with e
       subst e;rw[h2 rfl] at h3;exact⟨fun h=>absurd h hc,fun _=>h3⟩
      ·cases e
   |_=>simp
  |tup ds=>
   cases ds with
   |nil=>
    simp only
    constructor
    ·exact fun h=>⟨_,.inr ⟨trivial,rfl⟩,h⟩
    ·rintro⟨s',⟨c',e,_⟩|⟨_,e⟩,h3⟩
     ·cases e
     ·rw[e] at h3;exact h3
   |cons _ _=>simp
  |_=>simp
def o6(i j:Ins):Bool :=
 zJ i j&&((fF i.k).isNone&&((fF j.k).isNone&&(j5 i.k.core&&(j5 j.k.core&&((F5 i.k&&F5 j.k)||((mM i.k||mM j.k)||(match G5 i.k,G5 j.k with|some k1,some k2=>k1 !=k2|_,_=>false)))))))
def OV(i:Ins)(t:List DV):Prop :=
 match i.g with
 |none=>True
 |some (j,w)=>aT t j=.p (.bool w)
def O3(i:Ins)(t:List DV):Prop :=
 match i.g with
 |none=>False
 |some (j,w)=>aT t j=.p (.bool (!w))\/aT t j=.tup []
inductive StepK (P:Program) (i:Ins) (s s':St):Prop
 |ex (v:DV) (g:OV i s.t) (h:cJ P i.k (i.xs.map (O.val s.t)) s.b (fun v1 b1=>v1=v/\b1=s'.b)) (ht:s'.t=U i v s.t)
 |sk (g:O3 i s.t) (e:s'=⟨aH s.t i.d (.tup []),s.b⟩)
theorem gP{i:Ins}{s s':St}:FU P i s s'↔StepK P i s s':=by
 unfold FU
 cases hg:i.g with
 |none=>
  constructor
  ·rintro⟨v,h1,h2⟩;exact .ex v (by unfold OV;rw[hg];trivial) h1 h2
  ·rintro(⟨v,_,h1,h2⟩|⟨g,_⟩)
   ·exact⟨v,h1,h2⟩
   ·unfold O3 at g;rw[hg] at g;exact g.elim
 |some g=>
  obtain⟨j,w⟩:=g;simp only
  constructor
  ·rintro(⟨c,e,h1,h2⟩|⟨e,h2⟩)
   ·by_cases hc:c=w
    ·obtain⟨v,h3,h4⟩:=h1 hc
     exact .ex v (by unfold OV;rw[hg];subst hc;exact e) h3 h4
    ·have hc':c = !w:=by cases c<;>cases w<;>simp at hc ⊢
     exact .sk (by unfold O3;rw[hg];subst hc';exact .inl e) (h2 hc')
   ·exact .sk (by unfold O3;rw[hg];exact .inr e) h2
  ·rintro(⟨v,g,h1,h2⟩|⟨g,e⟩)
   ·unfold OV at g;rw[hg] at g
    exact .inl ⟨w,g,fun _=>⟨v,h1,h2⟩,(fun h=>by cases w<;>cases h)⟩
   ·unfold O3 at g;rw[hg] at g
    rcases g with g|g
    ·exact .inl ⟨!w,g,(fun h=>by cases w<;>cases h),fun _=>e⟩
    ·exact .inr ⟨g,e⟩
theorem r6{i:Ins}{j:Nat}{w:Bool}(h:i.g=some (j,w)):j∈looks i:=by unfold looks;rw[h];exact List.mem_cons_self
theorem gQ{i:Ins}{t t':List DV}(h:∀n,n∈looks i->aT t' n=aT t n):OV i t'↔OV i t:=by
 unfold OV
 cases hg:i.g with
 |none=>rfl
 |some g=>obtain⟨j,w⟩:=g;simp only;rw[h j (r6 hg)]
theorem gL{i:Ins}{t t':List DV}(h:∀n,n∈looks i->aT t' n=aT t n):O3 i t'↔O3 i t:=by
 unfold O3
 cases hg:i.g with
 |none=>rfl
 |some g=>obtain⟨j,w⟩:=g;simp only;rw[h j (r6 hg)]
theorem eA{i:Ins}{t t':List DV}(h:∀n,n∈looks i->aT t' n=aT t n):i.xs.map (O.val t')=i.xs.map (O.val t):=by
 refine List.map_congr_left fun x hx=>?_
 cases x with
 |c d=>rfl
 |t n=>exact h n (i7 (tZ hx))
theorem G3{i j:Ins}(h:Apart i j)(t:List DV):aH (aH t i.d (.tup [])) j.d (.tup [])=aH (aH t j.d (.tup [])) i.d (.tup []):=by
 cases hi:i.d with
 |none=>cases j.d<;>rfl
 |some d=>
  cases hj:j.d with
  |none=>rfl
  |some e=>
   have hne:d≠e:=fun h'=>(h.d1 d hi).2 (by rw[hi,hj,h'])
   simp only[aH]
   apply List.ext_getElem?
   intro n;simp only[getElem?_setL]
   by_cases h1:n=d
   ·subst h1;simp[hne]
   ·by_cases h2:n=e
    ·subst h2;simp[h1]
    ·simp[h1,h2]
theorem W9{i j:Ins}(h:o6 i j=true){s s1 s2:St}(h1:StepK P i s s1)(h2:StepK P j s1 s2):∃s',StepK P j s s'/\StepK P i s' s2:=by
 simp only[o6,aY] at h;obtain⟨ha,_,_,_,_,hcl⟩:=h;have hap:=xI ha;obtain⟨t,b⟩:=s;obtain⟨t1,b1⟩:=s1;obtain⟨t2,b2⟩:=s2
 cases h1 with
 |ex v g1 m1 e1=>
  simp only at g1 m1 e1;subst e1;have lj:∀n,n∈looks j->aT (U i v t) n=aT t n:=fun n hn=>hap.get v t hn
  cases h2 with
  |ex u g2 m2 e2=>
   simp only at g2 m2 e2;subst e2;rw[gQ lj] at g2;rw[eA lj] at m2;have li:∀n,n∈looks i->aT (U j u t) n=aT t n:=fun n hn=>hap.symm.get u t hn
   have key:∃b',cJ P j.k (j.xs.map (O.val t)) b (fun v1 b1=>v1=u/\b1=b')/\cJ P i.k (i.xs.map (O.val t)) b' (fun v1 b1=>v1=v/\b1=b2):=by
    simp only[Bool.or_eq_true,aY] at hcl;rcases hcl with ⟨c1,c2⟩|(c1|c2)|c3
    ·have k1:=fB c1 m1
     subst k1;have k2:=fB c2 m2;subst k2;exact⟨_,m2,m1⟩
    ·have k1:=fB (CP c1) m1
     subst k1;exact⟨_,m2,nR c1 m1 _⟩
    ·have k2:=fB (CP c2) m2
     subst k2;exact⟨b,nR c2 m2 _,m1⟩
    ·cases ei:G5 i.k with
     |none=>simp[ei] at c3
     |some k1=>
      cases ej:G5 j.k with
      |none=>simp[ei,ej] at c3
      |some k2=>
       simp only[ei,ej,bne_iff_ne,ne_eq] at c3;obtain⟨l1,l2⟩:=oL ei m1;obtain⟨l3,l4⟩:=oL ej m2;have q1:kP b k2=kP b1 k2:=by rw[l1,dT _ _ _ _ c3]
       refine⟨_,l4 b q1,?_⟩;have q2:=l2 (aF b k2 (kP b2 k2)) (dT _ _ _ _ (fun e=>c3 e.symm))
       rw[gN _ _ _ _ _ (fun e=>c3 e.symm), <-l1, <-l3] at q2
       exact q2
   obtain⟨b',k1,k2⟩:=key;refine⟨⟨U j u t,b'⟩,.ex u g2 k1 rfl,.ex v ((gQ li).2 g1) (by rw[eA li];exact k2) (hap.comm v u t)⟩
  |sk g2 e2=>
   simp only at g2;injection e2 with e2 e3
   subst e2;subst e3;rw[gL lj] at g2;have li:∀n,n∈looks i->aT (aH t j.d (.tup [])) n=aT t n:=fun n hn=>hap.symm.topget t hn
   exact⟨⟨aH t j.d (.tup []),b⟩,.sk g2 rfl,.ex v ((gQ li).2 g1) (by rw[eA li];exact m1) (hap.symm.top v t).symm⟩
 |sk g1 e1=>
  simp only at g1;injection e1 with e1 e3
  subst e1;subst e3;have lj:∀n,n∈looks j->aT (aH t i.d (.tup [])) n=aT t n:=fun n hn=>hap.topget t hn
  cases h2 with
  |ex u g2 m2 e2=>
   simp only at g2 m2 e2;subst e2;rw[gQ lj] at g2;rw[eA lj] at m2;have li:∀n,n∈looks i->aT (U j u t) n=aT t n:=fun n hn=>hap.symm.get u t hn
   refine⟨⟨U j u t,b2⟩,.ex u g2 m2 rfl,.sk ((gL li).2 g1) ?_⟩;rw[hap.top u t]
  |sk g2 e2=>
   simp only at g2;injection e2 with e2 e3
   subst e2;subst e3;rw[gL lj] at g2;have li:∀n,n∈looks i->aT (aH t j.d (.tup [])) n=aT t n:=fun n hn=>hap.symm.topget t hn
   refine⟨⟨aH t j.d (.tup []),_⟩,.sk g2 rfl,.sk ((gL li).2 g1) ?_⟩;rw[G3 hap t]
theorem swap{i j:Ins}(h:o6 i j=true){s:St}{K:St->Prop}(hx:b7 P i s (fun s=>b7 P j s K)):b7 P j s (fun s=>b7 P i s K):=by
 have h':=h;simp only[o6,aY,Option.isNone_iff_eq_none] at h';obtain⟨_,n1,n2,l1,l2,_⟩:=h';rw[j8 n1 l1] at hx;obtain⟨s1,h1,hx⟩:=hx;rw[j8 n2 l2] at hx;obtain⟨s2,h2,hK⟩:=hx;obtain⟨s',k1,k2⟩:=W9 h (gP.1 h1) (gP.1 h2);rw[j8 n2 l2];refine⟨s',gP.2 k1,?_⟩;rw[j8 n1 l1];exact⟨s2,gP.2 k2,hK⟩
end Go.Proofs.YtnjphclbpgajpaaGreatDoor.Vc
