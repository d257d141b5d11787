/- Part of a proof over a Go program: VcDraw. No condition. -/
import Derived.Test.YtnjphclbpgajpaaGreatDoorW04
import Derived.Orders
set_option linter.unnecessarySimpa false
set_option linter.unusedSectionVars false
set_option linter.unusedSimpArgs false
set_option linter.unusedVariables false
namespace Go.Proofs.YtnjphclbpgajpaaGreatDoor.Vc
open Go.RowKit
variable {P:Program}
theorem fJ{op:BinOp}{x y:PV}{K:PV->Prop}:hJ op x y K↔∃z,hJ op x y (fun z'=>z'=z)/\K z:=by
 constructor
 ·intro h
  unfold hJ at h ⊢
  cases x<;>cases y<;>cases op<;>simp only[] at h ⊢<;>first
   |exact h.elim
   |exact⟨_,rfl,h⟩
   |exact⟨_,⟨h.1,rfl⟩,h.2⟩
   |exact⟨_,⟨h.1,h.2.1,rfl⟩,h.2.2⟩
 ·rintro⟨z,h,hK⟩
  unfold hJ at h ⊢
  cases x<;>cases y<;>cases op<;>simp only[] at h ⊢<;>first
   |exact h.elim
   |(subst h;exact hK)
   |(obtain⟨h1,rfl⟩:=h;exact⟨h1,hK⟩)
   |(obtain⟨h1,h2,rfl⟩:=h;exact⟨h1,h2,hK⟩)
theorem fE{cells:List PV}{off n:Nat}{ag:Bool}{K:PV->Prop}:eT cells off n ag K↔∃z,eT cells off n ag (fun z'=>z'=z)/\K z:=by
 unfold eT
 cases ag with
 |false=>simp
 |true=>
  simp only[if_true];exact⟨fun h=>⟨_,⟨h.1,rfl⟩,h.2⟩,fun ⟨z,⟨h1,h2⟩,h3⟩=>⟨h1,h2▸h3⟩⟩
def gV:Kd->Bool
 | .ob (.callo _ false) | .ob (.callr _) | .ob (.mpe _) | .ob .ents | .ob (.lda _)=>true
 | .len | .slb _ _ | .callm _ _ | .look _ _ | .mupd _ | .mkmap _ | .ob _=>false
 |_=>true
theorem GC{κ:Kd}(h:gV κ.core=true):aQ κ=false:=by
 cases κ with
 |ob κ=>cases κ with
  |callo f gr=>cases gr<;>first|rfl|(simp[Kd.core,gV] at h)
  |callr f=>rfl
  |mpe q=>rfl
  |ents=>rfl
  |lda n=>rfl
  |_=>simp[Kd.core,gV] at h
 |_=>rfl
theorem jY{f:FuncId}{gr:Bool}{xs:List DV}{b:List (Option Box)}{K:DV->List (Option Box)->Prop}(h:callO P f gr xs b K):∃v b',callO P f gr xs b (fun v1 b1=>v1=v/\b1=b')/\K v b':=by
 unfold callO at h ⊢
 split at h
 ·obtain⟨bs',r,h1,h2,h3⟩:=h;exact⟨_,_,⟨bs',r,h1,h2,rfl,rfl⟩,h3⟩
 ·exact h.elim
theorem EA{κ:KO}(hκ:gV (.ob κ)=true){vs:List DV}{b:List (Option Box)}{K:DV->List (Option Box)->Prop}(h:b8 P κ vs b K):∃v b',b8 P κ vs b (fun v1 b1=>v1=v/\b1=b')/\K v b':=by
 cases κ with
 |callo f gr=>exact jY h
 |callr f=>
  obtain⟨v,b',h1,e,hk⟩:=jY (show callO P f false vs b (fun v b'=>b'=b/\K v b) from h)
  refine⟨v,b,?_,hk⟩
  show callO P f false vs b (fun v1 b1=>b1=b/\(v1=v/\b=b))
  exact cU (fun v1 b1 h=>⟨h.2.trans e,h.1,rfl⟩) h1
 |mpe q=>
  unfold b8 at h ⊢
  split at h
  all_goals first
   |exact h.elim
   |(rename_i e1 e2;cases e1;done)
   |(rename_i e1;cases e1;done)
   |skip
  obtain⟨h1,h2⟩:=h
  split at h2
  ·split at h2
   ·exact⟨_,_,⟨h1,rfl,rfl⟩,h2⟩
   ·exact h2.elim
  ·exact h2.elim
 |lda n=>
  unfold b8 at h ⊢
  split at h
  all_goals first
   |exact h.elim
   |(rename_i e1 e2;cases e1;done)
   |(rename_i e1;cases e1;done)
   |skip
  split at h
  ·obtain⟨h1,row,h2,h3,h4⟩:=h
   split at h4
   ·rename_i hq
    exact⟨.agd _,b,⟨h1,row,h2,h3,by simp[hq]⟩,h4⟩
   ·exact h4.elim
  ·exact h.elim
 |ents=>
  unfold b8 at h ⊢
  split at h
  all_goals first
   |exact h.elim
   |(rename_i e1 e2;cases e1;done)
   |(rename_i e1;cases e1;done)
   |skip
  obtain⟨h1,h2⟩:=h
  split at h2
  ·split at h2
   ·exact⟨_,_,⟨h1,rfl,rfl⟩,h2⟩
   ·exact h2.elim
  ·exact h2.elim
 |_=>simp[gV] at hκ
theorem C0{j:Nat}{ag:Bool}{T:Ob}{K0 K0':PV->Prop}{K K':DV->Box->Prop}(h0:∀x,K0 x->K0' x)(h1:∀d b,K d b->K' d b)(h:wR j ag T K0 K):wR j ag T K0' K':=by
 cases T with
 |ptr cells=>
  cases cells with
  |nil=>exact h
  |cons c cs=>exact h1 _ _ h
 |sl size nl rows=>
  cases size with
  |zero=>exact h
  |succ n=>cases nl with
   |true=>exact h0 _ h
   |false=>exact h1 _ _ h
 |mp keys vals=>exact h1 _ _ h
 |_=>exact h
set_option maxHeartbeats 1000000 in
theorem C4{κ:KO}{vs:List DV}{b:List (Option Box)}{K K':DV->List (Option Box)->Prop}(hk:∀v b,K v b->K' v b)(h:b8 P κ vs b K):b8 P κ vs b K':=by
 unfold b8 at h ⊢
 split at h
 ·split at h
  ·obtain⟨h1,row,h2,d,h3,h4⟩:=h
   refine⟨h1,row,h2,d,h3,?_⟩
   cases d with
   |ob T=>exact⟨h4.1,h4.2.1,C0 (fun _=>hk _ _) (fun _ _=>hk _ _) h4.2.2⟩
   |_=>exact hk _ _ h4
  ·exact h.elim
 ·obtain⟨c,h1,h2⟩:=h;exact⟨c,h1,hk _ _ h2⟩
 ·exact cU hk h
 ·split at h
  ·exact cU hk h
  ·exact h.elim
 ·split at h
  ·exact hk _ _ h
  ·exact h.elim
 ·split at h
  ·exact hk _ _ h
  ·exact hk _ _ h
  ·exact hk _ _ h
  ·exact hk _ _ h
  ·exact h.elim
 ·split at h
  ·split at h
   ·exact⟨h.1,h.2.1,h.2.2.1,fun e=>hk _ _ (h.2.2.2.1 e),fun e=>hk _ _ (h.2.2.2.2 e)⟩
   ·split at h
    ·obtain⟨h1,h2,h3,h4,h5,h6,h7,h8⟩:=h;exact⟨h1,h2,h3,h4,h5,h6,h7,hk _ _ h8⟩
    ·exact h.elim
   ·exact h.elim
  ·exact h.elim
 ·obtain⟨h1,h2,h3,h4,h5,h6⟩:=h;exact⟨h1,h2,h3,h4,h5,hk _ _ h6⟩
 ·obtain⟨h1,h2,h3,h4,h5⟩:=h
  refine⟨h1,h2,h3,h4,?_⟩
  split at h5
  ·obtain⟨h6,h7,h8,h9⟩:=h5;exact⟨h6,h7,h8,hk _ _ h9⟩
  ·exact h5.elim
 ·obtain⟨h1,h2,h3,h4⟩:=h;exact⟨h1,h2,h3,hk _ _ h4⟩
 ·obtain⟨h1,h2⟩:=h
  refine⟨h1,?_⟩
  split at h2
  ·split at h2
   ·split at h2
    ·rename_i ho;rw[if_pos ho];obtain⟨v,h3,h4⟩:=h2;exact⟨v,h3,hk _ _ h4⟩
    ·rename_i ho;rw[if_neg ho];exact hk _ _ h2
   ·exact hk _ _ h2
   ·exact h2.elim
  ·exact h2.elim
 ·obtain⟨h1,h2,h3⟩:=h
  refine⟨h1,h2,?_⟩
  split at h3
  ·split at h3
   ·exact hk _ _ h3
   ·exact h3.elim
  ·exact h3.elim
 ·obtain⟨h1,h2⟩:=h
  refine⟨h1,?_⟩
  split at h2
  ·split at h2
   ·exact hk _ _ h2
   ·exact h2.elim
  ·exact h2.elim
 ·split at h
  ·exact hk _ _ h
  ·exact h.elim
 ·exact cU (fun v b' h=>⟨h.1,hk _ _ h.2⟩) h
 ·obtain⟨h1,h2⟩:=h
  refine⟨h1,?_⟩
  split at h2
  ·split at h2
   ·exact hk _ _ h2
   ·exact h2.elim
  ·exact h2.elim
 ·split at h
  ·obtain⟨h1,row,h2,h3,h4⟩:=h
   refine⟨h1,row,h2,h3,?_⟩
   split at h4
   ·exact hk _ _ h4
   ·exact h4.elim
  ·exact h.elim
 ·obtain⟨h1,h2⟩:=h
  refine⟨h1,?_⟩
  split at h2
  ·split at h2
   ·exact hk _ _ h2
   ·exact h2.elim
  ·exact h2.elim
 ·exact h.elim
set_option maxHeartbeats 2000000 in
theorem nC{κ:Kd}{vs:List DV}{b:List (Option Box)}{K K':DV->List (Option Box)->Prop}(hk:∀v b,K v b->K' v b)(h:aF P κ vs b K):aF P κ vs b K':=by
 unfold aF at h ⊢
 split at h<;>(repeat' split at h)<;>(try simp_all)
 all_goals first
  |(rw[fE] at h ⊢;obtain⟨z,h1,h2⟩:=h;exact⟨z,h1,hk _ _ h2⟩)
  |(rw[fJ] at h ⊢;obtain⟨z,h1,h2⟩:=h;exact⟨z,h1,hk _ _ h2⟩)
  |exact C4 hk h
  |grind
set_option maxHeartbeats 2000000 in
theorem q8{κ:Kd}(hκ:gV κ=true){vs:List DV}{b:List (Option Box)}{K:DV->List (Option Box)->Prop}(h:aF P κ vs b K) :
  ∃v b',aF P κ vs b (fun v1 b1=>v1=v/\b1=b')/\K v b':=by
 unfold aF at h ⊢
 split at h<;>(repeat' split at h)<;>(try simp_all)
 all_goals first
  |(rw[fE] at h;obtain⟨z,h1,h2⟩:=h;exact⟨_,_,fE.2 ⟨z,h1,rfl,rfl⟩,h2⟩)
  |(rw[fJ] at h;obtain⟨z,h1,h2⟩:=h;exact⟨_,_,fJ.2 ⟨z,h1,rfl,rfl⟩,h2⟩)
  |(simp[gV] at hκ;done)
  |exact EA hκ h
  |exact⟨_,_,⟨rfl,rfl⟩,h⟩
  |exact⟨_,_,⟨rfl,rfl⟩,h.2⟩
  |exact⟨_,_,⟨rfl,rfl⟩,h.2.2⟩
  |grind
  |(cases ‹Bool›<;>grind)
  |(obtain⟨r,h1,h2⟩:=h;exact⟨_,_,⟨r,h1,rfl,rfl⟩,h2⟩)
  |grind
  |(cases ‹Bool›<;>grind)
def tZ:Kd->Bool
 | .mov _ | .pick | .build _ _ | .bsl _ _ | .loadp _ _ | .bin _ | .eqnil _ | .un _ | .conv _ | .fad _ | .fld _ _ _ | .iad _ | .sidx | .lenD | .slen | .ext _ | .extp _ | .slc _ _ _ | .ssl _ _ | .stk | .eqat _ | .eqs _ _ | .eqb _ | .mkz _ _ _ | .s2b | .nilchk | .mn | .mx=>true
 |_=>false
def EV:Kd->Bool
 | .load _ _ take => !take
 | .app _ _ | .call _ | .callv | .mkfn _=>true
 | κ=>tZ κ
set_option maxHeartbeats 2000000 in
theorem n8{κ:Kd}(hκ:EV κ=true){vs:List DV}{b b':List (Option Box)}{v:DV}(h:aF P κ vs b (fun v1 b1=>v1=v/\b1=b')):b'=b:=by
 cases κ<;>simp[EV,tZ] at hκ
 all_goals
  unfold aF at h
  (repeat' split at h)<;>(try simp_all)
 all_goals first
  |(rw[fE] at h;obtain⟨z,h1,h2,h3⟩:=h;exact h3.symm)
  |(rw[fJ] at h;obtain⟨z,h1,h2,h3⟩:=h;exact h3.symm)
  |grind
  |(cases ‹Bool›<;>grind)
set_option maxHeartbeats 2000000 in
theorem x2{κ:Kd}(hκ:tZ κ=true){vs:List DV}{b b':List (Option Box)}{v:DV}(h:aF P κ vs b (fun v1 b1=>v1=v/\b1=b'))(b2:List (Option Box)) :
  aF P κ vs b2 (fun v1 b1=>v1=v/\b1=b2):=by
 cases κ<;>simp[tZ] at hκ
 all_goals
  unfold aF at h ⊢
  (repeat' split at h)<;>(try simp_all)
 all_goals first
  |(rw[fE] at h ⊢;obtain⟨z,h1,h2,h3⟩:=h;exact⟨z,h1,h2⟩)
  |(rw[fJ] at h ⊢;obtain⟨z,h1,h2,h3⟩:=h;exact⟨z,h1,h2⟩)
  |grind
theorem gX{κ:Kd}{vs:List DV}{b:List (Option Box)}{K K':DV->List (Option Box)->Prop}(hk:∀v b,K v b->K' v b)(h:bV P κ vs b K):bV P κ vs b K':=by
 unfold bV at h ⊢
 split at h
 ·split at h
  ·exact⟨h.1,nC hk h.2⟩
  ·exact h
 ·exact⟨h.1,nC hk h.2⟩
 ·exact nC hk h
theorem G0{κ:Kd}(hκ:gV κ.core=true){vs:List DV}{b:List (Option Box)}{K:DV->List (Option Box)->Prop}(h:bV P κ vs b K) :
  ∃v b',bV P κ vs b (fun v1 b1=>v1=v/\b1=b')/\K v b':=by
 unfold bV at h ⊢
 split at h
 ·split at h
  ·obtain⟨v,b',h1,h2⟩:=q8 hκ h.2;exact⟨v,b',⟨h.1,h1⟩,h2⟩
  ·exact h.elim
 ·obtain⟨v,b',h1,h2⟩:=q8 hκ h.2;exact⟨v,b',⟨h.1,h1⟩,h2⟩
 ·rename_i n1 n2
  have hb : κ.base=true:=by cases κ<;>first|rfl|exact(n1 _ _ rfl).elim|exact(n2 _ rfl).elim
  rw[jW hb] at hκ;exact q8 hκ h
def vF:Kd->Bool
 | .call _ | .callv | .app _ _ | .mkfn _=>true
 |_=>false
def kL:Kd->Bool
 | .pl κ=>tZ κ||vF κ
 | .at _ _=>false
 | κ=>tZ κ
def zU:Kd->Bool
 | .pl κ=>EV κ
 | .at _ κ=>EV κ
 | .ob (.callr _)=>true
 | .ob (.mpe _)=>true
 | .ob (.lda _)=>true
 | κ=>EV κ
theorem mB{d:DV}{x:PV}(h:qZ d=some x)(b:List (Option Box)):d.frz b=some x:=by cases d<;>simp[qZ] at h<;>simp[DV.frz,h]
theorem kP{ds:List DV}{xs:List PV}(h:bU ds=some xs)(b:List (Option Box)):jA b ds=some xs:=by
 induction ds generalizing xs with
 |nil=>simpa [bU,jA] using h
 |cons d ds ih=>
  simp only[bU] at h
  cases hd:qZ d with
  |none=>simp[hd] at h
  |some x=>
   cases hds:bU ds with
   |none=>simp[hd,hds] at h
   |some ys=>
    simp[hd,hds] at h;subst h;simp[jA,mB hd b,ih hds]
theorem eB{κ:Kd}(hκ:zU κ=true){vs:List DV}{b b':List (Option Box)}{v:DV}(h:bV P κ vs b (fun v1 b1=>v1=v/\b1=b')):b'=b:=by
 unfold bV at h
 split at h
 ·split at h
  ·exact n8 hκ h.2
  ·exact h.elim
 ·exact n8 hκ h.2
 ·rename_i n1 n2
  by_cases hr:∃f, κ=.ob (.callr f)
  ·obtain⟨f,rfl⟩:=hr
   obtain⟨v',b'',_,e,e1,e2⟩:=jY (show callO P f false vs b (fun v1 b1=>b1=b/\(v1=v/\b=b')) from h)
   exact e2.symm
  ·by_cases hq:∃q, κ=.ob (.mpe q)
   ·obtain⟨q,rfl⟩:=hq
    have h:b8 P (.mpe q) vs b (fun v1 b1=>v1=v/\b1=b'):=h
    unfold b8 at h
    split at h
    all_goals first
     |exact h.elim
     |(rename_i e1 e2;cases e1;done)
     |(rename_i e1;cases e1;done)
     |skip
    obtain⟨h1,h2⟩:=h
    split at h2
    ·split at h2
     ·exact h2.2.symm
     ·exact h2.elim
    ·exact h2.elim
   by_cases hl:∃n, κ=.ob (.lda n)
   ·obtain⟨n,rfl⟩:=hl
    have h:b8 P (.lda n) vs b (fun v1 b1=>v1=v/\b1=b'):=h
    unfold b8 at h
    split at h
    all_goals first
     |exact h.elim
     |(rename_i e1 e2;cases e1;done)
     |(rename_i e1;cases e1;done)
     |skip
    split at h
    ·obtain⟨h1,row,h2,h3,h4⟩:=h
     split at h4
     ·exact h4.2.symm
     ·exact h4.elim
    ·exact h.elim
   refine n8 ?_ h
   cases κ with
   |ob κ=>cases κ with
    |lda n=>exact(hl ⟨n,rfl⟩).elim
    |callr f=>exact(hr ⟨f,rfl⟩).elim
    |mpe q=>exact(hq ⟨q,rfl⟩).elim
    |_=>exact hκ
   |_=>first|exact hκ|exact(n1 _ _ rfl).elim|exact(n2 _ rfl).elim
theorem I4{κ:Kd}(hκ:vF κ=true){vs:List DV}(hp:(bU vs).isSome=true){b b':List (Option Box)}{v:DV}(h:aF P κ vs b (fun v1 b1=>v1=v/\b1=b'))(b2:List (Option Box)) :
  aF P κ vs b2 (fun v1 b1=>v1=v/\b1=b2):=by
 obtain⟨xs,hxs⟩:=Option.isSome_iff_exists.1 hp;cases κ<;>simp[vF] at hκ
 case call f=>
  simp only[aF,kP hxs] at h ⊢;obtain⟨r,h1,h2,_⟩:=h;exact⟨r,h1,h2,trivial⟩
 case callv=>
  cases vs with
  |nil=>simp[aF] at h
  |cons d ds=>
   simp only[bU] at hxs
   cases hd:qZ d with
   |none=>simp[hd] at hxs
   |some x=>
    cases hds:bU ds with
    |none=>simp[hd,hds] at hxs
    |some ys=>
     simp only[aF,mB hd,kP hds] at h ⊢
     split at h
     ·rename_i e1 e2
      obtain⟨r,h1,h2,_⟩:=h;injection e1 with e1
      injection e2 with e2
      subst e1;subst e2;exact⟨r,h1,h2,trivial⟩
     ·exact h.elim
 case mkfn f=>
  simp only[aF,kP hxs] at h ⊢;exact⟨h.1,trivial⟩
 case app size bytes=>
  match vs,h,hxs with
  |[.ow sz nl rows,y],h,hxs=>
   simp only[bU] at hxs
   cases hy:qZ y with
   |none=>simp[hy] at hxs
   |some z=>
    simp only[aF,mB hy] at h ⊢
    split at h
    ·rename_i e1
     injection e1 with e1
     subst e1;exact⟨h.1,h.2.1,h.2.2.1,h.2.2.2.1,h.2.2.2.2.1,trivial⟩
    ·exact h.elim
  |[],h,_=>simp[aF] at h
  |[_],h,_=>simp[aF] at h
  |_ ::_ ::_ ::_,h,_=>simp[aF] at h
  |[.top,_],h,_=>simp[aF] at h
  |[.p (.sl sz true []),y],h,hxs=>
   simp only[bU] at hxs
   cases hy:qZ y with
   |none=>simp[hy] at hxs
   |some z=>
    simp only[aF,mB hy] at h ⊢
    split at h
    ·rename_i e1
     injection e1 with e1
     subst e1;exact⟨h.1,h.2.1,h.2.2.1,h.2.2.2.1,h.2.2.2.2.1,trivial⟩
    ·exact h.elim
  |[.p (.sl _ true (_ ::_)),_],h,_=>simp[aF] at h
  |[.p (.sl _ false _),_],h,_=>simp[aF] at h
  |[.p (.int _ _),_],h,_=>simp[aF] at h
  |[.p (.bool _),_],h,_=>simp[aF] at h
  |[.p (.str _),_],h,_=>simp[aF] at h
  |[.p (.atom _),_],h,_=>simp[aF] at h
  |[.p (.agg _),_],h,_=>simp[aF] at h
  |[.p (.fn _ _),_],h,_=>simp[aF] at h
  |[.p (.ptr _ _),_],h,_=>simp[aF] at h
  |[.tup _,_],h,_=>simp[aF] at h
  |[.addr _ _ _ _,_],h,_=>simp[aF] at h
  |[.bs _ _ _ _ _,_],h,_=>simp[aF] at h
  |[.fn _ _,_],h,_=>simp[aF] at h
theorem lP{κ:Kd}(hκ:kL κ=true){vs:List DV}{b b':List (Option Box)}{v:DV}(h:bV P κ vs b (fun v1 b1=>v1=v/\b1=b'))(b2:List (Option Box)) :
  bV P κ vs b2 (fun v1 b1=>v1=v/\b1=b2):=by
 unfold bV at h ⊢
 split at h
 ·cases hκ
 ·simp only[kL,Bool.or_eq_true] at hκ
  rcases hκ with hκ|hκ
  ·exact⟨h.1,x2 hκ h.2 b2⟩
  ·exact⟨h.1,I4 hκ h.1 h.2 b2⟩
 ·rename_i n1 n2
  refine x2 ?_ h b2;cases κ<;>first|exact hκ|exact(n1 _ _ rfl).elim|exact(n2 _ rfl).elim
theorem xC{κ:Kd}(h:kL κ=true):zU κ=true:=by
 cases κ<;>first|exact h|rfl|(rename_i κ;cases κ<;>first|exact h|rfl|cases h)|cases h
def iU:List (Option Box)->Nat->Option Box
 |[],_=>none
 |x ::_,0=>x
 |_ ::xs,n+1=>iU xs n
theorem cJ:∀(l:List (Option Box)) (n:Nat),bB l n=sM (iU l n)
 |[],_=>rfl
 |_ ::_,0=>rfl
 |_ ::xs,n+1=>cJ xs n
theorem vS{l:List (Option Box)}{n:Nat}{bx:Box}(h:bB l n=some bx):(iU l n).isSome=true:=by
 rw[cJ] at h;rw[(kV h).1];rfl
theorem hH:∀(l:List (Option Box)) (n:Nat),aJ l n (iU l n)=l
 |[],_=>rfl
 |x ::xs,0=>rfl
 |x ::xs,n+1=>by simp only[aJ,iU];rw[hH xs n]
theorem cZ:∀(l:List (Option Box)) (n m:Nat) (x:Option Box),n≠m->iU (aJ l n x) m=iU l m
 |[],_,_,_,_=>rfl
 |_ ::_,0,0,_,h=>(h rfl).elim
 |_ ::_,0,_+1,_,_=>rfl
 |_ ::_,_+1,0,_,_=>rfl
 |_ ::xs,n+1,m+1,x,h=>by simp only[aJ,iU];exact cZ xs n m x (by omega)
theorem i2:∀(l:List (Option Box)) (n:Nat) (x:Option Box),(iU l n).isSome=true->iU (aJ l n x) n=x
 |[],_,_,h=>by cases h
 |_ ::_,0,_,_=>rfl
 |_ ::xs,n+1,x,h=>by simp only[aJ,iU] at h ⊢;exact i2 xs n x h
theorem fH:∀(l:List (Option Box)) (n m:Nat) (x y:Option Box),n≠m->aJ (aJ l n x) m y=aJ (aJ l m y) n x
 |[],_,_,_,_,_=>rfl
 |_ ::_,0,0,_,_,h=>(h rfl).elim
 |_ ::_,0,_+1,_,_,_=>rfl
 |_ ::_,_+1,0,_,_,_=>rfl
 |_ ::xs,n+1,m+1,x,y,h=>by simp only[aJ];rw[fH xs n m x y (by omega)]
def CH:Kd->Option Nat
 | .at k (.load _ _ _)=>some k
 | .at k (.store _)=>some k
 |_=>none
theorem mD{κ:Kd}{k:Nat}(hκ:CH κ=some k){vs:List DV}{b b':List (Option Box)}{v:DV}(h:bV P κ vs b (fun v1 b1=>v1=v/\b1=b')) :
  b'=aJ b k (iU b' k)/\∀b2,iU b2 k=iU b k->bV P κ vs b2 (fun v1 b1=>v1=v/\b1=aJ b2 k (iU b' k)):=by
 unfold CH at hκ
 split at hκ
 ·rename_i k' n ag take
  injection hκ with hκ
  subst hκ;simp only[bV] at h ⊢
  split at h
  ·obtain⟨rfl,h⟩:=h
   rename_i k2 sz r off rest
   cases rest with
   |cons _ _=>simp[aF] at h
   |nil=>
    simp only[aF] at h
    cases hb:bB b k2 with
    |none=>simp[hb] at h
    |some bx=>
     simp only[hb] at h;obtain⟨h1,row,h2,h3,h4⟩:=h
     cases ag with
     |true=>
      simp only[if_true] at h4
      cases hp:bU (dV row off n) with
      |none=>simp[hp] at h4
      |some cs=>
       simp only[hp] at h4;obtain⟨h4,rfl⟩:=h4;refine⟨by rw[hH],fun b2 h5=>⟨rfl,?_⟩⟩
       have h5':bB b2 k2=some bx:=by rw[cJ,h5, <-cJ,hb]
       simp only[aF,h5'];refine⟨h1,row,h2,h3,?_⟩;simp only[if_true,hp];exact⟨h4,by rw[<-h5,hH]⟩
     |false=>
      simp only[Bool.false_eq_true,if_false] at h4;obtain⟨d,h5,h6,h7⟩:=h4
      cases take with
      |false=>
       simp only[Bool.false_eq_true,if_false] at h6 h7;subst h7;refine⟨by rw[hH],fun b2 h8=>⟨rfl,?_⟩⟩
       have h8':bB b2 k2=some bx:=by rw[cJ,h8, <-cJ,hb]
       simp only[aF,h8'];refine⟨h1,row,h2,h3,?_⟩;simp only[Bool.false_eq_true,if_false];exact⟨d,h5,h6,by rw[<-h8,hH]⟩
      |true=>
       simp only[if_true] at h6 h7;subst h7;rw[i2 b k2 _ (vS hb)];refine⟨rfl,fun b2 h8=>⟨rfl,?_⟩⟩
       have h8':bB b2 k2=some bx:=by rw[cJ,h8, <-cJ,hb]
       simp only[aF,h8'];refine⟨h1,row,h2,h3,?_⟩;simp only[Bool.false_eq_true,if_false,if_true];exact⟨d,h5,h6,rfl⟩
  ·exact h.elim
 ·rename_i k' n
  injection hκ with hκ
  subst hκ;simp only[bV] at h ⊢
  split at h
  ·obtain⟨rfl,h⟩:=h
   rename_i k2 sz r off rest
   match rest,h with
   |[],h=>simp[aF] at h
   |_ ::_ ::_,h=>simp[aF] at h
   |[y],h=>
    simp only[aF] at h
    cases hb:bB b k2 with
    |none=>simp[hb] at h
    |some bx=>
     cases hc:aS y with
     |none=>simp[hb,hc] at h
     |some cs=>
      simp only[hb,hc] at h;obtain⟨h1,h2,h3,row,h4,h5,h6,h7⟩:=h;subst h7;rw[i2 b k2 _ (vS hb)];refine⟨rfl,fun b2 h8=>⟨rfl,?_⟩⟩
      have h8':bB b2 k2=some bx:=by rw[cJ,h8, <-cJ,hb]
      simp only[aF,h8',hc];exact⟨h1,h2,h3,row,h4,h5,h6,rfl⟩
  ·exact h.elim
 ·cases hκ
theorem jU:∀(l:List DV) (n:Nat),aJ l n (aW l n)=l
 |[],_=>rfl
 |x ::xs,0=>rfl
 |x ::xs,n+1=>by simp only[aJ,aW];rw[jU xs n]
def hO:Kd->List O->Option Nat
 | .mov true,[.t n]=>some n
 | .app _ _,.t n ::_=>some n
 | .store _,[_,.t n]=>some n
 | .ext _,[.t n]=>some n
 |_,_=>none
def uI:Kd->DV->DV
 | .ext j,d=>match d with
  | .tup ds=>match ds[j]? with
   |some x=>.tup (aJ ds j x.copy)
   |none=>d
  |_=>d
 |_,d=>d.copy
theorem JB(κ:Kd)(xs:List O)(t:List DV):dW κ xs t=match hO κ xs with
  |some n=>aJ t n (uI κ (aW t n))
  |none=>t:=by
 unfold dW hO
 split
 ·rfl
 ·rfl
 ·rfl
 ·rename_i j n
  simp only[uI]
  cases e:aW t n with
  |tup ds=>
   simp only
   cases e2:ds[j]? with
   |none=>simp only;rw[<-e,jU]
   |some d=>rfl
  |_=>simp only;rw[<-e,jU]
 ·rename_i h1 h2 h3 h4
  split
  ·rename_i n heq
   exfalso
   split at heq
   ·exact h1 _ rfl rfl
   ·exact h2 _ _ _ _ rfl rfl
   ·exact h3 _ _ _ rfl rfl
   ·exact h4 _ _ rfl rfl
   ·cases heq
  ·rfl
def U(i:Ins)(v:DV)(t:List DV):List DV:=aP (dW i.k.core i.xs t) i.d v
theorem iV(i:Ins)(v:DV)(t:List DV)(n:Nat):(U i v t)[n]?=if i.d=some n then t[n]?.map (fun _=>v) else if hO i.k.core i.xs=some n then t[n]?.map (uI i.k.core) else t[n]?:=by
 unfold U aP;rw[JB]
 have base:(match hO i.k.core i.xs with|some n=>aJ t n (uI i.k.core (aW t n))|none=>t)[n]?=if hO i.k.core i.xs=some n then t[n]?.map (uI i.k.core) else t[n]?:=by
  cases hd:hO i.k.core i.xs with
  |none=>simp
  |some m=>
   simp only[getElem?_setL,bG]
   by_cases hm:n=m
   ·subst hm
    rw[if_pos rfl,if_pos rfl,c5];cases t[n]?<;>rfl
   ·rw[if_neg hm,if_neg (fun h=>hm h.symm)]
 cases hdd:i.d with
 |none=>simpa using base
 |some d=>
  simp only[getElem?_setL,bG]
  by_cases hm:n=d
  ·subst hm
   rw[if_pos rfl,if_pos rfl,base]
   split
   ·cases t[n]?<;>rfl
   ·rfl
  ·rw[if_neg hm,if_neg (fun h=>hm h.symm),base]
def eR:List O->List Nat
 |[]=>[]
 | .t n ::os=>n ::eR os
 |_ ::os=>eR os
def looks(i:Ins):List Nat :=
 match i.g with
 |some (j,_)=>j ::eR i.xs
 |none=>eR i.xs
theorem j7{κ:Kd}{xs:List O}{n:Nat}(h:hO κ xs=some n):n∈eR xs:=by
 unfold hO at h
 split at h<;>simp at h<;>subst h
 ·simp[eR]
 ·simp[eR]
 ·rename_i o n;cases o<;>simp[eR]
 ·simp[eR]
def vH(i j:Ins):Bool :=
 (match i.d with
  |some d => !(looks j).contains d&&i.d !=j.d
  |none=>true) &&
 ((match j.d with
  |some d => !(looks i).contains d
  |none=>true) &&
 ((match hO i.k.core i.xs with
  |some n => !(looks j).contains n
  |none=>true) &&
 (match hO j.k.core j.xs with
  |some n => !(looks i).contains n
  |none=>true)))
structure Apart (i j:Ins):Prop where
 d1:∀d,i.d=some d->d∉looks j/\i.d≠j.d
 d2:∀d,j.d=some d->d∉looks i/\j.d≠i.d
 g1:∀n,hO i.k.core i.xs=some n->n∉looks j
 g2:∀n,hO j.k.core j.xs=some n->n∉looks i
theorem Apart.symm{i j:Ins}(h:Apart i j):Apart j i:=⟨h.d2,h.d1,h.g2,h.g1⟩
theorem sJ{i j:Ins}(h:vH i j=true):Apart i j:=by
 simp only[vH,b6] at h;obtain⟨h1,h2,h3,h4⟩:=h;refine⟨fun d hd=>?_,fun d hd=>?_,fun n hn=>?_,fun n hn=>?_⟩
 ·rw[hd] at h1;simpa [hd] using h1
 ·rw[hd] at h2
  refine⟨by simpa using h2,fun e=>?_⟩
  rw[hd] at e;rw[<-e] at h1;simp[hd] at h1
 ·rw[hn] at h3;simpa using h3
 ·rw[hn] at h4;simpa using h4
theorem Apart.get{i j:Ins}(h:Apart i j)(v:DV)(t:List DV){n:Nat}(hn:n∈looks j):aW (U i v t) n=aW t n:=by
 rw[c5,c5,iV];rw[if_neg (fun e=>(h.d1 n e).1 hn),if_neg (fun e=>h.g1 n e hn)]
theorem fV{i:Ins}{n:Nat}(h:n∈eR i.xs):n∈looks i:=by
 unfold looks
 cases i.g with
 |none=>exact h
 |some g=>exact List.mem_cons_of_mem _ h
theorem pE{xs:List O}{n:Nat}(h:.t n∈xs):n∈eR xs:=by
 induction xs with
 |nil=>simp at h
 |cons x xs ih=>
  cases x with
  |t m=>
   simp only[eR];rcases List.mem_cons.1 h with e|h
   ·injection e with e;subst e;exact List.mem_cons_self
   ·exact List.mem_cons_of_mem _ (ih h)
  |c d=>
   rcases List.mem_cons.1 h with e|h
   ·cases e
   ·exact ih h
theorem Apart.vals{i j:Ins}(h:Apart i j)(v:DV)(t:List DV):j.xs.map (O.val (U i v t))=j.xs.map (O.val t):=by
 refine List.map_congr_left fun x hx=>?_
 cases x with
 |c d=>rfl
 |t n=>exact h.get v t (fV (pE hx))
theorem Apart.comm{i j:Ins}(h:Apart i j)(v u:DV)(t:List DV):U j u (U i v t)=U i v (U j u t):=by
 apply List.ext_getElem?
 intro n;rw[iV,iV,iV,iV];have a1:i.d=some n->j.d≠some n:=fun e e'=>(h.d1 n e).2 (e.trans e'.symm)
 have a2:i.d=some n->hO j.k.core j.xs≠some n:=fun e e'=>(h.d1 n e).1 (fV (j7 e'))
 have a3:j.d=some n->hO i.k.core i.xs≠some n:=fun e e'=>(h.d2 n e).1 (fV (j7 e'))
 have a4:hO i.k.core i.xs=some n->hO j.k.core j.xs≠some n:=fun e e'=>h.g1 n e (fV (j7 e'))
 by_cases e1:i.d=some n
 ·simp[e1,a1 e1,a2 e1]
 ·by_cases e2:j.d=some n
  ·simp[e1,e2,a3 e2]
  ·by_cases e3:hO i.k.core i.xs=some n
   ·simp[e1,e2,e3,a4 e3]
   ·simp[e1,e2,e3]
theorem Apart.top{i j:Ins}(h:Apart i j)(u:DV)(t:List DV):U j u (aP t i.d (.tup []))=aP (U j u t) i.d (.tup []):=by
 apply List.ext_getElem?
 intro n
 cases hd:i.d with
 |none=>rfl
 |some d=>
  simp only[aP];rw[iV,getElem?_setL,getElem?_setL,iV]
  by_cases e:n=d
  ·subst e
   have a1:j.d≠some n:=fun e'=>(h.d1 n hd).2 (hd.trans e'.symm)
   have a2:hO j.k.core j.xs≠some n:=fun e'=>(h.d1 n hd).1 (fV (j7 e'))
   simp[a1,a2]
  ·simp[e]
theorem Apart.topget{i j:Ins}(h:Apart i j)(t:List DV){n:Nat}(hn:n∈looks j):aW (aP t i.d (.tup [])) n=aW t n:=by
 cases hd:i.d with
 |none=>rfl
 |some d=>
  simp only[aP];rw[c5,c5,getElem?_setL,if_neg (fun e=>(h.d1 d hd).1 (by subst e;exact hn))]
def F1(P:Program)(i:Ins)(s s':St):Prop:=∃v,bV P i.k (i.xs.map (O.val s.t)) s.b (fun v1 b1=>v1=v/\b1=s'.b)/\s'.t=U i v s.t
def AY(P:Program)(i:Ins)(s s':St):Prop :=
 match i.g with
 |none=>F1 P i s s'
 |some (j,want)=>(∃c,aW s.t j=.p (.bool c)/\(c=want->F1 P i s s')/\(c=(!want)->s'=⟨aP s.t i.d (.tup []),s.b⟩))\/(aW s.t j=.tup []/\s'=⟨aP s.t i.d (.tup []),s.b⟩)
theorem pZ{i:Ins}(hn:aH i.k=none)(hl:gV i.k.core=true){s:St}{K:St->Prop}:kU P i s K↔∃s',F1 P i s s'/\K s':=by
 constructor
 ·rintro⟨_,h⟩
  obtain⟨v,b',h1,h2⟩:=G0 hl h;exact⟨⟨U i v s.t,b'⟩,⟨v,h1,rfl⟩,h2⟩
 ·rintro⟨⟨t',b'⟩,⟨v,h1,h2⟩,h3⟩
  simp only at h2;subst h2;refine⟨by unfold fresh;rw[hn,GC hl];trivial,gX (fun v1 b1 ⟨e1,e2⟩=>?_) h1⟩
  subst e1;subst e2;exact h3
theorem gK{i:Ins}(hn:aH i.k=none)(hl:gV i.k.core=true){s:St}{K:St->Prop}:b5 P i s K↔∃s',AY P i s s'/\K s':=by
 unfold b5 AY
 cases hg:i.g with
 |none=>exact pZ hn hl
 |some g=>
  obtain⟨j,want⟩:=g;simp only
  cases hv:aW s.t j with
  |p z=>
   cases z with
   |bool c=>
    simp only;have es:aJ s.t j (.p (.bool c))=s.t:=by rw[<-hv];exact jU _ _
    by_cases hc:c=want
    ·subst hc
     rw[es]
     constructor
     ·rintro⟨h1,_⟩
      obtain⟨s',h2,h3⟩:=(pZ hn hl).1 (h1 rfl);exact⟨s',.inl ⟨c,rfl,fun _=>h2,fun h=>by cases c<;>cases h⟩,h3⟩
     ·rintro⟨s',⟨c',e,h1,_⟩|⟨e,_⟩,h3⟩
      ·injection e with e
       injection e with e
       subst e;exact⟨fun _=>(pZ hn hl).2 ⟨s',h1 rfl,h3⟩,fun h=>by cases c<;>cases h⟩
      ·cases e
    ·have hc':c = !want:=by cases c<;>cases want<;>simp at hc ⊢
     subst hc';rw[es]
     constructor
     ·rintro⟨_,h2⟩
      exact⟨_,.inl ⟨!want,rfl,fun h=>absurd h hc,fun _=>rfl⟩,h2 rfl⟩
     ·rintro⟨s',⟨c',e,_,h2⟩|⟨e,_⟩,h3⟩
      ·injection e with e
       injection e with e
       subst e;rw[h2 rfl] at h3;exact⟨fun h=>absurd h hc,fun _=>h3⟩
      ·cases e
   |_=>simp
  |tup ds=>
   cases ds with
   |nil=>
    simp only
    constructor
    ·exact fun h=>⟨_,.inr ⟨trivial,rfl⟩,h⟩
    ·rintro⟨s',⟨c',e,_⟩|⟨_,e⟩,h3⟩
     ·cases e
     ·rw[e] at h3;exact h3
   |cons _ _=>simp
  |_=>simp
def lR(i j:Ins):Bool :=
 vH i j&&((aH i.k).isNone&&((aH j.k).isNone&&(gV i.k.core&&(gV j.k.core&&((zU i.k&&zU j.k)||((kL i.k||kL j.k)||(match CH i.k,CH j.k with|some k1,some k2=>k1 !=k2|_,_=>false)))))))
def OY(i:Ins)(t:List DV):Prop :=
 match i.g with
 |none=>True
 |some (j,w)=>aW t j=.p (.bool w)
def KB(i:Ins)(t:List DV):Prop :=
 match i.g with
 |none=>False
 |some (j,w)=>aW t j=.p (.bool (!w))\/aW t j=.tup []
inductive StepK (P:Program) (i:Ins) (s s':St):Prop
 |ex (v:DV) (g:OY i s.t) (h:bV P i.k (i.xs.map (O.val s.t)) s.b (fun v1 b1=>v1=v/\b1=s'.b)) (ht:s'.t=U i v s.t)
 |sk (g:KB i s.t) (e:s'=⟨aP s.t i.d (.tup []),s.b⟩)
theorem fI{i:Ins}{s s':St}:AY P i s s'↔StepK P i s s':=by
 unfold AY
 cases hg:i.g with
 |none=>
  constructor
  ·rintro⟨v,h1,h2⟩;exact .ex v (by unfold OY;rw[hg];trivial) h1 h2
  ·rintro(⟨v,_,h1,h2⟩|⟨g,_⟩)
   ·exact⟨v,h1,h2⟩
   ·unfold KB at g;rw[hg] at g;exact g.elim
 |some g=>
  obtain⟨j,w⟩:=g;simp only
  constructor
  ·rintro(⟨c,e,h1,h2⟩|⟨e,h2⟩)
   ·by_cases hc:c=w
    ·obtain⟨v,h3,h4⟩:=h1 hc
     exact .ex v (by unfold OY;rw[hg];subst hc;exact e) h3 h4
    ·have hc':c = !w:=by cases c<;>cases w<;>simp at hc ⊢
     exact .sk (by unfold KB;rw[hg];subst hc';exact .inl e) (h2 hc')
   ·exact .sk (by unfold KB;rw[hg];exact .inr e) h2
  ·rintro(⟨v,g,h1,h2⟩|⟨g,e⟩)
   ·unfold OY at g;rw[hg] at g
    exact .inl ⟨w,g,fun _=>⟨v,h1,h2⟩,(fun h=>by cases w<;>cases h)⟩
   ·unfold KB at g;rw[hg] at g
    rcases g with g|g
    ·exact .inl ⟨!w,g,(fun h=>by cases w<;>cases h),fun _=>e⟩
    ·exact .inr ⟨g,e⟩
theorem o8{i:Ins}{j:Nat}{w:Bool}(h:i.g=some (j,w)):j∈looks i:=by unfold looks;rw[h];exact List.mem_cons_self
theorem fD{i:Ins}{t t':List DV}(h:∀n,n∈looks i->aW t' n=aW t n):OY i t'↔OY i t:=by
 unfold OY
 cases hg:i.g with
 |none=>rfl
 |some g=>obtain⟨j,w⟩:=g;simp only;rw[h j (o8 hg)]
theorem fG{i:Ins}{t t':List DV}(h:∀n,n∈looks i->aW t' n=aW t n):KB i t'↔KB i t:=by
 unfold KB
 cases hg:i.g with
 |none=>rfl
 |some g=>obtain⟨j,w⟩:=g;simp only;rw[h j (o8 hg)]
theorem dC{i:Ins}{t t':List DV}(h:∀n,n∈looks i->aW t' n=aW t n):i.xs.map (O.val t')=i.xs.map (O.val t):=by
 refine List.map_congr_left fun x hx=>?_
 cases x with
 |c d=>rfl
 |t n=>exact h n (fV (pE hx))
theorem CI{i j:Ins}(h:Apart i j)(t:List DV):aP (aP t i.d (.tup [])) j.d (.tup [])=aP (aP t j.d (.tup [])) i.d (.tup []):=by
 cases hi:i.d with
 |none=>cases j.d<;>rfl
 |some d=>
  cases hj:j.d with
  |none=>rfl
  |some e=>
   have hne:d≠e:=fun h'=>(h.d1 d hi).2 (by rw[hi,hj,h'])
   simp only[aP]
   apply List.ext_getElem?
   intro n;simp only[getElem?_setL]
   by_cases h1:n=d
   ·subst h1;simp[hne]
   ·by_cases h2:n=e
    ·subst h2;simp[h1]
    ·simp[h1,h2]
theorem U9{i j:Ins}(h:lR i j=true){s s1 s2:St}(h1:StepK P i s s1)(h2:StepK P j s1 s2):∃s',StepK P j s s'/\StepK P i s' s2:=by
 simp only[lR,b6] at h;obtain⟨ha,_,_,_,_,hcl⟩:=h;have hap:=sJ ha;obtain⟨t,b⟩:=s;obtain⟨t1,b1⟩:=s1;obtain⟨t2,b2⟩:=s2
 cases h1 with
 |ex v g1 m1 e1=>
  simp only at g1 m1 e1;subst e1;have lj:∀n,n∈looks j->aW (U i v t) n=aW t n:=fun n hn=>hap.get v t hn
  cases h2 with
  |ex u g2 m2 e2=>
   simp only at g2 m2 e2;subst e2;rw[fD lj] at g2;rw[dC lj] at m2;have li:∀n,n∈looks i->aW (U j u t) n=aW t n:=fun n hn=>hap.symm.get u t hn
   have key:∃b',bV P j.k (j.xs.map (O.val t)) b (fun v1 b1=>v1=u/\b1=b')/\bV P i.k (i.xs.map (O.val t)) b' (fun v1 b1=>v1=v/\b1=b2):=by
    simp only[Bool.or_eq_true,b6] at hcl;rcases hcl with ⟨c1,c2⟩|(c1|c2)|c3
    ·have k1:=eB c1 m1
     subst k1;have k2:=eB c2 m2;subst k2;exact⟨_,m2,m1⟩
    ·have k1:=eB (xC c1) m1
     subst k1;exact⟨_,m2,lP c1 m1 _⟩
    ·have k2:=eB (xC c2) m2
     subst k2;exact⟨b,lP c2 m2 _,m1⟩
    ·cases ei:CH i.k with
     |none=>simp[ei] at c3
     |some k1=>
      cases ej:CH j.k with
      |none=>simp[ei,ej] at c3
      |some k2=>
       simp only[ei,ej,bne_iff_ne,ne_eq] at c3;obtain⟨l1,l2⟩:=mD ei m1;obtain⟨l3,l4⟩:=mD ej m2;have q1:iU b k2=iU b1 k2:=by rw[l1,cZ _ _ _ _ c3]
       refine⟨_,l4 b q1,?_⟩;have q2:=l2 (aJ b k2 (iU b2 k2)) (cZ _ _ _ _ (fun e=>c3 e.symm))
       rw[fH _ _ _ _ _ (fun e=>c3 e.symm), <-l1, <-l3] at q2
       exact q2
   obtain⟨b',k1,k2⟩:=key;refine⟨⟨U j u t,b'⟩,.ex u g2 k1 rfl,.ex v ((fD li).2 g1) (by rw[dC li];exact k2) (hap.comm v u t)⟩
  |sk g2 e2=>
   simp only at g2;injection e2 with e2 e3
   subst e2;subst e3;rw[fG lj] at g2;have li:∀n,n∈looks i->aW (aP t j.d (.tup [])) n=aW t n:=fun n hn=>hap.symm.topget t hn
   exact⟨⟨aP t j.d (.tup []),b⟩,.sk g2 rfl,.ex v ((fD li).2 g1) (by rw[dC li];exact m1) (hap.symm.top v t).symm⟩
 |sk g1 e1=>
  simp only at g1;injection e1 with e1 e3
  subst e1;subst e3;have lj:∀n,n∈looks j->aW (aP t i.d (.tup [])) n=aW t n:=fun n hn=>hap.topget t hn
  cases h2 with
  |ex u g2 m2 e2=>
   simp only at g2 m2 e2;subst e2;rw[fD lj] at g2;rw[dC lj] at m2;have li:∀n,n∈looks i->aW (U j u t) n=aW t n:=fun n hn=>hap.symm.get u t hn
   refine⟨⟨U j u t,b2⟩,.ex u g2 m2 rfl,.sk ((fG li).2 g1) ?_⟩;rw[hap.top u t]
  |sk g2 e2=>
   simp only at g2;injection e2 with e2 e3
   subst e2;subst e3;rw[fG lj] at g2;have li:∀n,n∈looks i->aW (aP t j.d (.tup [])) n=aW t n:=fun n hn=>hap.symm.topget t hn
   refine⟨⟨aP t j.d (.tup []),_⟩,.sk g2 rfl,.sk ((fG li).2 g1) ?_⟩;rw[CI hap t]
theorem swap{i j:Ins}(h:lR i j=true){s:St}{K:St->Prop}(hx:b5 P i s (fun s=>b5 P j s K)):b5 P j s (fun s=>b5 P i s K):=by
 have h':=h;simp only[lR,b6,Option.isNone_iff_eq_none] at h';obtain⟨_,n1,n2,l1,l2,_⟩:=h';rw[gK n1 l1] at hx;obtain⟨s1,h1,hx⟩:=hx;rw[gK n2 l2] at hx;obtain⟨s2,h2,hK⟩:=hx;obtain⟨s',k1,k2⟩:=U9 h (fI.1 h1) (fI.1 h2);rw[gK n2 l2];refine⟨s',fI.2 k1,?_⟩;rw[gK n1 l1];exact⟨s2,fI.2 k2,hK⟩
end Go.Proofs.YtnjphclbpgajpaaGreatDoor.Vc
