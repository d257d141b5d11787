/- Part of a proof over a Go program: VcDraw. No condition. -/
import Derived.Test.YtnjphclbpgajpaaGreatDoorM04
import Derived.Orders
set_option linter.unnecessarySimpa false
set_option linter.unusedSectionVars false
set_option linter.unusedSimpArgs false
set_option linter.unusedVariables false
namespace Go.Proofs.YtnjphclbpgajpaaGreatDoor.Vc
open Go.RowKit
variable {P:Program}
theorem a2R{op:BinOp}{x y:PV}{K:PV->Prop}:a4y op x y K↔∃z,a4y op x y (fun z'=>z'=z)/\K z:=by
 constructor
 ·intro h
  unfold a4y at h ⊢
  cases x<;>cases y<;>cases op<;>simp only[] at h ⊢<;>first
   |exact h.elim
   |exact⟨_,rfl,h⟩
   |exact⟨_,⟨h.1,rfl⟩,h.2⟩
   |exact⟨_,⟨h.1,h.2.1,rfl⟩,h.2.2⟩
 ·rintro⟨z,h,hK⟩
  unfold a4y at h ⊢
  cases x<;>cases y<;>cases op<;>simp only[] at h ⊢<;>first
   |exact h.elim
   |(subst h;exact hK)
   |(obtain⟨h1,rfl⟩:=h;exact⟨h1,hK⟩)
   |(obtain⟨h1,h2,rfl⟩:=h;exact⟨h1,h2,hK⟩)
theorem a2Y{cells:List PV}{off n:Nat}{ag:Bool}{K:PV->Prop}:a3g cells off n ag K↔∃z,a3g cells off n ag (fun z'=>z'=z)/\K z:=by
 unfold a3g
 cases ag with
 |false=>simp
 |true=>
  simp only[if_true];exact⟨fun h=>⟨_,⟨h.1,rfl⟩,h.2⟩,fun ⟨z,⟨h1,h2⟩,h3⟩=>⟨h1,h2▸h3⟩⟩
def a4d:Kd->Bool
 | .ob (.callo _ false) | .ob (.callr _) | .ob (.mpe _) | .ob .ents | .ob (.lda _)=>true
 | .len | .slb _ _ | .callm _ _ | .look _ _ | .mupd _ | .mkmap _ | .ob _=>false
 |_=>true
theorem b6b{κ:Kd}(h:a4d κ.core=true):a8F κ=false:=by
 cases κ with
 |ob κ=>cases κ with
  |callo f gr=>cases gr<;>first|rfl|(simp[Kd.core,a4d] at h)
  |callr f=>rfl
  |mpe q=>rfl
  |ents=>rfl
  |lda n=>rfl
  |_=>simp[Kd.core,a4d] at h
 |_=>rfl
theorem a4P{f:FuncId}{gr:Bool}{xs:List DV}{b:List (Option Box)}{K:DV->List (Option Box)->Prop}(h:callO P f gr xs b K):∃v b',callO P f gr xs b (fun v1 b1=>v1=v/\b1=b')/\K v b':=by
 unfold callO at h ⊢
 split at h
 ·obtain⟨bs',r,h1,h2,h3⟩:=h;exact⟨_,_,⟨bs',r,h1,h2,rfl,rfl⟩,h3⟩
 ·exact h.elim
theorem b7D{κ:KO}(hκ:a4d (.ob κ)=true){vs:List DV}{b:List (Option Box)}{K:DV->List (Option Box)->Prop}(h:a0t P κ vs b K):∃v b',a0t P κ vs b (fun v1 b1=>v1=v/\b1=b')/\K v b':=by
 cases κ with
 |callo f gr=>exact a4P h
 |callr f=>
  obtain⟨v,b',h1,e,hk⟩:=a4P (show callO P f false vs b (fun v b'=>b'=b/\K v b) from h)
  refine⟨v,b,?_,hk⟩
  show callO P f false vs b (fun v1 b1=>b1=b/\(v1=v/\b=b))
  exact a1F (fun v1 b1 h=>⟨h.2.trans e,h.1,rfl⟩) h1
 |mpe q=>
  unfold a0t at h ⊢
  split at h
  all_goals first
   |exact h.elim
   |(rename_i e1 e2;cases e1;done)
   |(rename_i e1;cases e1;done)
   |skip
  obtain⟨h1,h2⟩:=h
  split at h2
  ·split at h2
   ·exact⟨_,_,⟨h1,rfl,rfl⟩,h2⟩
   ·exact h2.elim
  ·exact h2.elim
 |lda n=>
  unfold a0t at h ⊢
  split at h
  all_goals first
   |exact h.elim
   |(rename_i e1 e2;cases e1;done)
   |(rename_i e1;cases e1;done)
   |skip
  split at h
  ·obtain⟨h1,row,h2,h3,h4⟩:=h
   split at h4
   ·rename_i hq
    exact⟨.agd _,b,⟨h1,row,h2,h3,by simp[hq]⟩,h4⟩
   ·exact h4.elim
  ·exact h.elim
 |ents=>
  unfold a0t at h ⊢
  split at h
  all_goals first
   |exact h.elim
   |(rename_i e1 e2;cases e1;done)
   |(rename_i e1;cases e1;done)
   |skip
  obtain⟨h1,h2⟩:=h
  split at h2
  ·split at h2
   ·exact⟨_,_,⟨h1,rfl,rfl⟩,h2⟩
   ·exact h2.elim
  ·exact h2.elim
 |_=>simp[a4d] at hκ
theorem b4n{j:Nat}{ag:Bool}{T:Ob}{K0 K0':PV->Prop}{K K':DV->Box->Prop}(h0:∀x,K0 x->K0' x)(h1:∀d b,K d b->K' d b)(h:b7b j ag T K0 K):b7b j ag T K0' K':=by
 cases T with
 |ptr cells=>
  cases cells with
  |nil=>exact h
  |cons c cs=>exact h1 _ _ h
 |sl size nl rows=>
  cases size with
  |zero=>exact h
  |succ n=>cases nl with
   |true=>exact h0 _ h
   |false=>exact h1 _ _ h
 |mp keys vals=>exact h1 _ _ h
 |_=>exact h
set_option maxHeartbeats 1000000 in
theorem b5I{κ:KO}{vs:List DV}{b:List (Option Box)}{K K':DV->List (Option Box)->Prop}(hk:∀v b,K v b->K' v b)(h:a0t P κ vs b K):a0t P κ vs b K':=by
 unfold a0t at h ⊢
 split at h
 ·split at h
  ·obtain⟨h1,row,h2,d,h3,h4⟩:=h
   refine⟨h1,row,h2,d,h3,?_⟩
   cases d with
   |ob T=>exact⟨h4.1,h4.2.1,b4n (fun _=>hk _ _) (fun _ _=>hk _ _) h4.2.2⟩
   |_=>exact hk _ _ h4
  ·exact h.elim
 ·obtain⟨c,h1,h2⟩:=h;exact⟨c,h1,hk _ _ h2⟩
 ·exact a1F hk h
 ·split at h
  ·exact a1F hk h
  ·exact h.elim
 ·split at h
  ·exact hk _ _ h
  ·exact h.elim
 ·split at h
  ·exact hk _ _ h
  ·exact hk _ _ h
  ·exact hk _ _ h
  ·exact hk _ _ h
  ·exact h.elim
 ·split at h
  ·split at h
   ·exact⟨h.1,h.2.1,h.2.2.1,fun e=>hk _ _ (h.2.2.2.1 e),fun e=>hk _ _ (h.2.2.2.2 e)⟩
   ·split at h
    ·obtain⟨h1,h2,h3,h4,h5,h6,h7,h8⟩:=h;exact⟨h1,h2,h3,h4,h5,h6,h7,hk _ _ h8⟩
    ·exact h.elim
   ·exact h.elim
  ·exact h.elim
 ·obtain⟨h1,h2,h3,h4,h5,h6⟩:=h;exact⟨h1,h2,h3,h4,h5,hk _ _ h6⟩
 ·obtain⟨h1,h2,h3,h4,h5⟩:=h
  refine⟨h1,h2,h3,h4,?_⟩
  split at h5
  ·obtain⟨h6,h7,h8,h9⟩:=h5;exact⟨h6,h7,h8,hk _ _ h9⟩
  ·exact h5.elim
 ·obtain⟨h1,h2,h3,h4⟩:=h;exact⟨h1,h2,h3,hk _ _ h4⟩
 ·obtain⟨h1,h2⟩:=h
  refine⟨h1,?_⟩
  split at h2
  ·split at h2
   ·split at h2
    ·rename_i ho;rw[if_pos ho];obtain⟨v,h3,h4⟩:=h2;exact⟨v,h3,hk _ _ h4⟩
    ·rename_i ho;rw[if_neg ho];exact hk _ _ h2
   ·exact hk _ _ h2
   ·exact h2.elim
  ·exact h2.elim
 ·obtain⟨h1,h2,h3⟩:=h
  refine⟨h1,h2,?_⟩
  split at h3
  ·split at h3
   ·exact hk _ _ h3
   ·exact h3.elim
  ·exact h3.elim
 ·obtain⟨h1,h2⟩:=h
  refine⟨h1,?_⟩
  split at h2
  ·split at h2
   ·exact hk _ _ h2
   ·exact h2.elim
  ·exact h2.elim
 ·split at h
  ·exact hk _ _ h
  ·exact h.elim
 ·exact a1F (fun v b' h=>⟨h.1,hk _ _ h.2⟩) h
 ·obtain⟨h1,h2⟩:=h
  refine⟨h1,?_⟩
  split at h2
  ·split at h2
   ·exact hk _ _ h2
   ·exact h2.elim
  ·exact h2.elim
 ·split at h
  ·obtain⟨h1,row,h2,h3,h4⟩:=h
   refine⟨h1,row,h2,h3,?_⟩
   split at h4
   ·exact hk _ _ h4
   ·exact h4.elim
  ·exact h.elim
 ·obtain⟨h1,h2⟩:=h
  refine⟨h1,?_⟩
  split at h2
  ·split at h2
   ·exact hk _ _ h2
   ·exact h2.elim
  ·exact h2.elim
 ·exact h.elim
set_option maxHeartbeats 2000000 in
theorem a6b{κ:Kd}{vs:List DV}{b:List (Option Box)}{K K':DV->List (Option Box)->Prop}(hk:∀v b,K v b->K' v b)(h:a0E P κ vs b K):a0E P κ vs b K':=by
 unfold a0E at h ⊢
 split at h<;>(repeat' split at h)<;>(try simp_all)
 all_goals first
  |(rw[a2Y] at h ⊢;obtain⟨z,h1,h2⟩:=h;exact⟨z,h1,hk _ _ h2⟩)
  |(rw[a2R] at h ⊢;obtain⟨z,h1,h2⟩:=h;exact⟨z,h1,hk _ _ h2⟩)
  |exact b5I hk h
  |grind
set_option maxHeartbeats 2000000 in
theorem a7t{κ:Kd}(hκ:a4d κ=true){vs:List DV}{b:List (Option Box)}{K:DV->List (Option Box)->Prop}(h:a0E P κ vs b K) :
  ∃v b',a0E P κ vs b (fun v1 b1=>v1=v/\b1=b')/\K v b':=by
 unfold a0E at h ⊢
 split at h<;>(repeat' split at h)<;>(try simp_all)
 all_goals first
  |(rw[a2Y] at h;obtain⟨z,h1,h2⟩:=h;exact⟨_,_,a2Y.2 ⟨z,h1,rfl,rfl⟩,h2⟩)
  |(rw[a2R] at h;obtain⟨z,h1,h2⟩:=h;exact⟨_,_,a2R.2 ⟨z,h1,rfl,rfl⟩,h2⟩)
  |(simp[a4d] at hκ;done)
  |exact b7D hκ h
  |exact⟨_,_,⟨rfl,rfl⟩,h⟩
  |exact⟨_,_,⟨rfl,rfl⟩,h.2⟩
  |exact⟨_,_,⟨rfl,rfl⟩,h.2.2⟩
  |grind
  |(cases ‹Bool›<;>grind)
  |(obtain⟨r,h1,h2⟩:=h;exact⟨_,_,⟨r,h1,rfl,rfl⟩,h2⟩)
  |grind
  |(cases ‹Bool›<;>grind)
def b6m:Kd->Bool
 | .mov _ | .pick | .build _ _ | .bsl _ _ | .loadp _ _ | .bin _ | .eqnil _ | .un _ | .conv _ | .fad _ | .fld _ _ _ | .iad _ | .sidx | .lenD | .slen | .ext _ | .extp _ | .slc _ _ _ | .ssl _ _ | .stk | .eqat _ | .eqs _ _ | .eqb _ | .mkz _ _ _ | .s2b | .nilchk | .mn | .mx=>true
 |_=>false
def c0L:Kd->Bool
 | .load _ _ take => !take
 | .app _ _ | .call _ | .callv | .mkfn _=>true
 | κ=>b6m κ
set_option maxHeartbeats 2000000 in
theorem a6h{κ:Kd}(hκ:c0L κ=true){vs:List DV}{b b':List (Option Box)}{v:DV}(h:a0E P κ vs b (fun v1 b1=>v1=v/\b1=b')):b'=b:=by
 cases κ<;>simp[c0L,b6m] at hκ
 all_goals
  unfold a0E at h
  (repeat' split at h)<;>(try simp_all)
 all_goals first
  |(rw[a2Y] at h;obtain⟨z,h1,h2,h3⟩:=h;exact h3.symm)
  |(rw[a2R] at h;obtain⟨z,h1,h2,h3⟩:=h;exact h3.symm)
  |grind
  |(cases ‹Bool›<;>grind)
set_option maxHeartbeats 2000000 in
theorem b2I{κ:Kd}(hκ:b6m κ=true){vs:List DV}{b b':List (Option Box)}{v:DV}(h:a0E P κ vs b (fun v1 b1=>v1=v/\b1=b'))(b2:List (Option Box)) :
  a0E P κ vs b2 (fun v1 b1=>v1=v/\b1=b2):=by
 cases κ<;>simp[b6m] at hκ
 all_goals
  unfold a0E at h ⊢
  (repeat' split at h)<;>(try simp_all)
 all_goals first
  |(rw[a2Y] at h ⊢;obtain⟨z,h1,h2,h3⟩:=h;exact⟨z,h1,h2⟩)
  |(rw[a2R] at h ⊢;obtain⟨z,h1,h2,h3⟩:=h;exact⟨z,h1,h2⟩)
  |grind
theorem a3F{κ:Kd}{vs:List DV}{b:List (Option Box)}{K K':DV->List (Option Box)->Prop}(hk:∀v b,K v b->K' v b)(h:a1q P κ vs b K):a1q P κ vs b K':=by
 unfold a1q at h ⊢
 split at h
 ·split at h
  ·exact⟨h.1,a6b hk h.2⟩
  ·exact h
 ·exact⟨h.1,a6b hk h.2⟩
 ·exact a6b hk h
theorem b7H{κ:Kd}(hκ:a4d κ.core=true){vs:List DV}{b:List (Option Box)}{K:DV->List (Option Box)->Prop}(h:a1q P κ vs b K) :
  ∃v b',a1q P κ vs b (fun v1 b1=>v1=v/\b1=b')/\K v b':=by
 unfold a1q at h ⊢
 split at h
 ·split at h
  ·obtain⟨v,b',h1,h2⟩:=a7t hκ h.2;exact⟨v,b',⟨h.1,h1⟩,h2⟩
  ·exact h.elim
 ·obtain⟨v,b',h1,h2⟩:=a7t hκ h.2;exact⟨v,b',⟨h.1,h1⟩,h2⟩
 ·rename_i n1 n2
  have hb : κ.base=true:=by cases κ<;>first|rfl|exact(n1 _ _ rfl).elim|exact(n2 _ rfl).elim
  rw[a4Z hb] at hκ;exact a7t hκ h
def b1v:Kd->Bool
 | .call _ | .callv | .app _ _ | .mkfn _=>true
 |_=>false
def a6l:Kd->Bool
 | .pl κ=>b6m κ||b1v κ
 | .at _ _=>false
 | κ=>b6m κ
def b7U:Kd->Bool
 | .pl κ=>c0L κ
 | .at _ κ=>c0L κ
 | .ob (.callr _)=>true
 | .ob (.mpe _)=>true
 | .ob (.lda _)=>true
 | κ=>c0L κ
theorem a5Y{d:DV}{x:PV}(h:b3t d=some x)(b:List (Option Box)):d.frz b=some x:=by cases d<;>simp[b3t] at h<;>simp[DV.frz,h]
theorem a4h{ds:List DV}{xs:List PV}(h:a1I ds=some xs)(b:List (Option Box)):a9e b ds=some xs:=by
 induction ds generalizing xs with
 |nil=>simpa [a1I,a9e] using h
 |cons d ds ih=>
  simp only[a1I] at h
  cases hd:b3t d with
  |none=>simp[hd] at h
  |some x=>
   cases hds:a1I ds with
   |none=>simp[hd,hds] at h
   |some ys=>
    simp[hd,hds] at h;subst h;simp[a9e,a5Y hd b,ih hds]
theorem a1p{κ:Kd}(hκ:b7U κ=true){vs:List DV}{b b':List (Option Box)}{v:DV}(h:a1q P κ vs b (fun v1 b1=>v1=v/\b1=b')):b'=b:=by
 unfold a1q at h
 split at h
 ·split at h
  ·exact a6h hκ h.2
  ·exact h.elim
 ·exact a6h hκ h.2
 ·rename_i n1 n2
  by_cases hr:∃f, κ=.ob (.callr f)
  ·obtain⟨f,rfl⟩:=hr
   obtain⟨v',b'',_,e,e1,e2⟩:=a4P (show callO P f false vs b (fun v1 b1=>b1=b/\(v1=v/\b=b')) from h)
   exact e2.symm
  ·by_cases hq:∃q, κ=.ob (.mpe q)
   ·obtain⟨q,rfl⟩:=hq
    have h:a0t P (.mpe q) vs b (fun v1 b1=>v1=v/\b1=b'):=h
    unfold a0t at h
    split at h
    all_goals first
     |exact h.elim
     |(rename_i e1 e2;cases e1;done)
     |(rename_i e1;cases e1;done)
     |skip
    obtain⟨h1,h2⟩:=h
    split at h2
    ·split at h2
     ·exact h2.2.symm
     ·exact h2.elim
    ·exact h2.elim
   by_cases hl:∃n, κ=.ob (.lda n)
   ·obtain⟨n,rfl⟩:=hl
    have h:a0t P (.lda n) vs b (fun v1 b1=>v1=v/\b1=b'):=h
    unfold a0t at h
    split at h
    all_goals first
     |exact h.elim
     |(rename_i e1 e2;cases e1;done)
     |(rename_i e1;cases e1;done)
     |skip
    split at h
    ·obtain⟨h1,row,h2,h3,h4⟩:=h
     split at h4
     ·exact h4.2.symm
     ·exact h4.elim
    ·exact h.elim
   refine a6h ?_ h
   cases κ with
   |ob κ=>cases κ with
    |lda n=>exact(hl ⟨n,rfl⟩).elim
    |callr f=>exact(hr ⟨f,rfl⟩).elim
    |mpe q=>exact(hq ⟨q,rfl⟩).elim
    |_=>exact hκ
   |_=>first|exact hκ|exact(n1 _ _ rfl).elim|exact(n2 _ rfl).elim
theorem b9G{κ:Kd}(hκ:b1v κ=true){vs:List DV}(hp:(a1I vs).isSome=true){b b':List (Option Box)}{v:DV}(h:a0E P κ vs b (fun v1 b1=>v1=v/\b1=b'))(b2:List (Option Box)) :
  a0E P κ vs b2 (fun v1 b1=>v1=v/\b1=b2):=by
 obtain⟨xs,hxs⟩:=Option.isSome_iff_exists.1 hp;cases κ<;>simp[b1v] at hκ
 case call f=>
  simp only[a0E,a4h hxs] at h ⊢;obtain⟨r,h1,h2,_⟩:=h;exact⟨r,h1,h2,trivial⟩
 case callv=>
  cases vs with
  |nil=>simp[a0E] at h
  |cons d ds=>
   simp only[a1I] at hxs
   cases hd:b3t d with
   |none=>simp[hd] at hxs
   |some x=>
    cases hds:a1I ds with
    |none=>simp[hd,hds] at hxs
    |some ys=>
     simp only[a0E,a5Y hd,a4h hds] at h ⊢
     split at h
     ·rename_i e1 e2
      obtain⟨r,h1,h2,_⟩:=h;injection e1 with e1
      injection e2 with e2
      subst e1;subst e2;exact⟨r,h1,h2,trivial⟩
     ·exact h.elim
 case mkfn f=>
  simp only[a0E,a4h hxs] at h ⊢;exact⟨h.1,trivial⟩
 case app size bytes=>
  match vs,h,hxs with
  |[.ow sz nl rows,y],h,hxs=>
   simp only[a1I] at hxs
   cases hy:b3t y with
   |none=>simp[hy] at hxs
   |some z=>
    simp only[a0E,a5Y hy] at h ⊢
    split at h
    ·rename_i e1
     injection e1 with e1
     subst e1;exact⟨h.1,h.2.1,h.2.2.1,h.2.2.2.1,h.2.2.2.2.1,trivial⟩
    ·exact h.elim
  |[],h,_=>simp[a0E] at h
  |[_],h,_=>simp[a0E] at h
  |_ ::_ ::_ ::_,h,_=>simp[a0E] at h
  |[.top,_],h,_=>simp[a0E] at h
  |[.p (.sl sz true []),y],h,hxs=>
   simp only[a1I] at hxs
   cases hy:b3t y with
   |none=>simp[hy] at hxs
   |some z=>
    simp only[a0E,a5Y hy] at h ⊢
    split at h
    ·rename_i e1
     injection e1 with e1
     subst e1;exact⟨h.1,h.2.1,h.2.2.1,h.2.2.2.1,h.2.2.2.2.1,trivial⟩
    ·exact h.elim
  |[.p (.sl _ true (_ ::_)),_],h,_=>simp[a0E] at h
  |[.p (.sl _ false _),_],h,_=>simp[a0E] at h
  |[.p (.int _ _),_],h,_=>simp[a0E] at h
  |[.p (.bool _),_],h,_=>simp[a0E] at h
  |[.p (.str _),_],h,_=>simp[a0E] at h
  |[.p (.atom _),_],h,_=>simp[a0E] at h
  |[.p (.agg _),_],h,_=>simp[a0E] at h
  |[.p (.fn _ _),_],h,_=>simp[a0E] at h
  |[.p (.ptr _ _),_],h,_=>simp[a0E] at h
  |[.tup _,_],h,_=>simp[a0E] at h
  |[.addr _ _ _ _,_],h,_=>simp[a0E] at h
  |[.bs _ _ _ _ _,_],h,_=>simp[a0E] at h
  |[.fn _ _,_],h,_=>simp[a0E] at h
theorem a5W{κ:Kd}(hκ:a6l κ=true){vs:List DV}{b b':List (Option Box)}{v:DV}(h:a1q P κ vs b (fun v1 b1=>v1=v/\b1=b'))(b2:List (Option Box)) :
  a1q P κ vs b2 (fun v1 b1=>v1=v/\b1=b2):=by
 unfold a1q at h ⊢
 split at h
 ·cases hκ
 ·simp only[a6l,Bool.or_eq_true] at hκ
  rcases hκ with hκ|hκ
  ·exact⟨h.1,b2I hκ h.2 b2⟩
  ·exact⟨h.1,b9G hκ h.1 h.2 b2⟩
 ·rename_i n1 n2
  refine b2I ?_ h b2;cases κ<;>first|exact hκ|exact(n1 _ _ rfl).elim|exact(n2 _ rfl).elim
theorem b5Z{κ:Kd}(h:a6l κ=true):b7U κ=true:=by
 cases κ<;>first|exact h|rfl|(rename_i κ;cases κ<;>first|exact h|rfl|cases h)|cases h
def a8q:List (Option Box)->Nat->Option Box
 |[],_=>none
 |x ::_,0=>x
 |_ ::xs,n+1=>a8q xs n
theorem a1C:∀(l:List (Option Box)) (n:Nat),a1A l n=b2W (a8q l n)
 |[],_=>rfl
 |_ ::_,0=>rfl
 |_ ::xs,n+1=>a1C xs n
theorem b1q{l:List (Option Box)}{n:Nat}{bx:Box}(h:a1A l n=some bx):(a8q l n).isSome=true:=by
 rw[a1C] at h;rw[(a4i h).1];rfl
theorem a3K:∀(l:List (Option Box)) (n:Nat),a0I l n (a8q l n)=l
 |[],_=>rfl
 |x ::xs,0=>rfl
 |x ::xs,n+1=>by simp only[a0I,a8q];rw[a3K xs n]
theorem a1H:∀(l:List (Option Box)) (n m:Nat) (x:Option Box),n≠m->a8q (a0I l n x) m=a8q l m
 |[],_,_,_,_=>rfl
 |_ ::_,0,0,_,h=>(h rfl).elim
 |_ ::_,0,_+1,_,_=>rfl
 |_ ::_,_+1,0,_,_=>rfl
 |_ ::xs,n+1,m+1,x,h=>by simp only[a0I,a8q];exact a1H xs n m x (by omega)
theorem a2p:∀(l:List (Option Box)) (n:Nat) (x:Option Box),(a8q l n).isSome=true->a8q (a0I l n x) n=x
 |[],_,_,h=>by cases h
 |_ ::_,0,_,_=>rfl
 |_ ::xs,n+1,x,h=>by simp only[a0I,a8q] at h ⊢;exact a2p xs n x h
theorem a2Z:∀(l:List (Option Box)) (n m:Nat) (x y:Option Box),n≠m->a0I (a0I l n x) m y=a0I (a0I l m y) n x
 |[],_,_,_,_,_=>rfl
 |_ ::_,0,0,_,_,h=>(h rfl).elim
 |_ ::_,0,_+1,_,_,_=>rfl
 |_ ::_,_+1,0,_,_,_=>rfl
 |_ ::xs,n+1,m+1,x,y,h=>by simp only[a0I];rw[a2Z xs n m x y (by omega)]
def atk:Kd->Option Nat
 | .at k (.load _ _ _)=>some k
 | .at k (.store _)=>some k
 |_=>none
theorem a5f{κ:Kd}{k:Nat}(hκ:atk κ=some k){vs:List DV}{b b':List (Option Box)}{v:DV}(h:a1q P κ vs b (fun v1 b1=>v1=v/\b1=b')) :
  b'=a0I b k (a8q b' k)/\∀b2,a8q b2 k=a8q b k->a1q P κ vs b2 (fun v1 b1=>v1=v/\b1=a0I b2 k (a8q b' k)):=by
 unfold atk at hκ
 split at hκ
 ·rename_i k' n ag take
  injection hκ with hκ
  subst hκ;simp only[a1q] at h ⊢
  split at h
  ·obtain⟨rfl,h⟩:=h
   rename_i k2 sz r off rest
   cases rest with
   |cons _ _=>simp[a0E] at h
   |nil=>
    simp only[a0E] at h
    cases hb:a1A b k2 with
    |none=>simp[hb] at h
    |some bx=>
     simp only[hb] at h;obtain⟨h1,row,h2,h3,h4⟩:=h
     cases ag with
     |true=>
      simp only[if_true] at h4
      cases hp:a1I (a2o row off n) with
      |none=>simp[hp] at h4
      |some cs=>
       simp only[hp] at h4;obtain⟨h4,rfl⟩:=h4;refine⟨by rw[a3K],fun b2 h5=>⟨rfl,?_⟩⟩
       have h5':a1A b2 k2=some bx:=by rw[a1C,h5, <-a1C,hb]
       simp only[a0E,h5'];refine⟨h1,row,h2,h3,?_⟩;simp only[if_true,hp];exact⟨h4,by rw[<-h5,a3K]⟩
     |false=>
      simp only[Bool.false_eq_true,if_false] at h4;obtain⟨d,h5,h6,h7⟩:=h4
      cases take with
      |false=>
       simp only[Bool.false_eq_true,if_false] at h6 h7;subst h7;refine⟨by rw[a3K],fun b2 h8=>⟨rfl,?_⟩⟩
       have h8':a1A b2 k2=some bx:=by rw[a1C,h8, <-a1C,hb]
       simp only[a0E,h8'];refine⟨h1,row,h2,h3,?_⟩;simp only[Bool.false_eq_true,if_false];exact⟨d,h5,h6,by rw[<-h8,a3K]⟩
      |true=>
       simp only[if_true] at h6 h7;subst h7;rw[a2p b k2 _ (b1q hb)];refine⟨rfl,fun b2 h8=>⟨rfl,?_⟩⟩
       have h8':a1A b2 k2=some bx:=by rw[a1C,h8, <-a1C,hb]
       simp only[a0E,h8'];refine⟨h1,row,h2,h3,?_⟩;simp only[Bool.false_eq_true,if_false,if_true];exact⟨d,h5,h6,rfl⟩
  ·exact h.elim
 ·rename_i k' n
  injection hκ with hκ
  subst hκ;simp only[a1q] at h ⊢
  split at h
  ·obtain⟨rfl,h⟩:=h
   rename_i k2 sz r off rest
   match rest,h with
   |[],h=>simp[a0E] at h
   |_ ::_ ::_,h=>simp[a0E] at h
   |[y],h=>
    simp only[a0E] at h
    cases hb:a1A b k2 with
    |none=>simp[hb] at h
    |some bx=>
     cases hc:a0G y with
     |none=>simp[hb,hc] at h
     |some cs=>
      simp only[hb,hc] at h;obtain⟨h1,h2,h3,row,h4,h5,h6,h7⟩:=h;subst h7;rw[a2p b k2 _ (b1q hb)];refine⟨rfl,fun b2 h8=>⟨rfl,?_⟩⟩
      have h8':a1A b2 k2=some bx:=by rw[a1C,h8, <-a1C,hb]
      simp only[a0E,h8',hc];exact⟨h1,h2,h3,row,h4,h5,h6,rfl⟩
  ·exact h.elim
 ·cases hκ
theorem a4Q:∀(l:List DV) (n:Nat),a0I l n (a0W l n)=l
 |[],_=>rfl
 |x ::xs,0=>rfl
 |x ::xs,n+1=>by simp only[a0I,a0W];rw[a4Q xs n]
def a8c:Kd->List O->Option Nat
 | .mov true,[.t n]=>some n
 | .app _ _,.t n ::_=>some n
 | .store _,[_,.t n]=>some n
 | .ext _,[.t n]=>some n
 |_,_=>none
def b6I:Kd->DV->DV
 | .ext j,d=>match d with
  | .tup ds=>match ds[j]? with
   |some x=>.tup (a0I ds j x.copy)
   |none=>d
  |_=>d
 |_,d=>d.copy
theorem b9H(κ:Kd)(xs:List O)(t:List DV):a4e κ xs t=match a8c κ xs with
  |some n=>a0I t n (b6I κ (a0W t n))
  |none=>t:=by
 unfold a4e a8c
 split
 ·rfl
 ·rfl
 ·rfl
 ·rename_i j n
  simp only[b6I]
  cases e:a0W t n with
  |tup ds=>
   simp only
   cases e2:ds[j]? with
   |none=>simp only;rw[<-e,a4Q]
   |some d=>rfl
  |_=>simp only;rw[<-e,a4Q]
 ·rename_i h1 h2 h3 h4
  split
  ·rename_i n heq
   exfalso
   split at heq
   ·exact h1 _ rfl rfl
   ·exact h2 _ _ _ _ rfl rfl
   ·exact h3 _ _ _ rfl rfl
   ·exact h4 _ _ rfl rfl
   ·cases heq
  ·rfl
def U(i:Ins)(v:DV)(t:List DV):List DV:=a0K (a4e i.k.core i.xs t) i.d v
theorem a6N(i:Ins)(v:DV)(t:List DV)(n:Nat):(U i v t)[n]?=if i.d=some n then t[n]?.map (fun _=>v) else if a8c i.k.core i.xs=some n then t[n]?.map (b6I i.k.core) else t[n]?:=by
 unfold U a0K;rw[b9H]
 have base:(match a8c i.k.core i.xs with|some n=>a0I t n (b6I i.k.core (a0W t n))|none=>t)[n]?=if a8c i.k.core i.xs=some n then t[n]?.map (b6I i.k.core) else t[n]?:=by
  cases hd:a8c i.k.core i.xs with
  |none=>simp
  |some m=>
   simp only[getElem?_setL,sIj]
   by_cases hm:n=m
   ·subst hm
    rw[if_pos rfl,if_pos rfl,a0s];cases t[n]?<;>rfl
   ·rw[if_neg hm,if_neg (fun h=>hm h.symm)]
 cases hdd:i.d with
 |none=>simpa using base
 |some d=>
  simp only[getElem?_setL,sIj]
  by_cases hm:n=d
  ·subst hm
   rw[if_pos rfl,if_pos rfl,base]
   split
   ·cases t[n]?<;>rfl
   ·rfl
  ·rw[if_neg hm,if_neg (fun h=>hm h.symm),base]
def a2n:List O->List Nat
 |[]=>[]
 | .t n ::os=>n ::a2n os
 |_ ::os=>a2n os
def looks(i:Ins):List Nat :=
 match i.g with
 |some (j,_)=>j ::a2n i.xs
 |none=>a2n i.xs
theorem a4X{κ:Kd}{xs:List O}{n:Nat}(h:a8c κ xs=some n):n∈a2n xs:=by
 unfold a8c at h
 split at h<;>simp at h<;>subst h
 ·simp[a2n]
 ·simp[a2n]
 ·rename_i o n;cases o<;>simp[a2n]
 ·simp[a2n]
def b1m(i j:Ins):Bool :=
 (match i.d with
  |some d => !(looks j).contains d&&i.d !=j.d
  |none=>true) &&
 ((match j.d with
  |some d => !(looks i).contains d
  |none=>true) &&
 ((match a8c i.k.core i.xs with
  |some n => !(looks j).contains n
  |none=>true) &&
 (match a8c j.k.core j.xs with
  |some n => !(looks i).contains n
  |none=>true)))
structure Apart (i j:Ins):Prop where
 d1:∀d,i.d=some d->d∉looks j/\i.d≠j.d
 d2:∀d,j.d=some d->d∉looks i/\j.d≠i.d
 g1:∀n,a8c i.k.core i.xs=some n->n∉looks j
 g2:∀n,a8c j.k.core j.xs=some n->n∉looks i
theorem Apart.symm{i j:Ins}(h:Apart i j):Apart j i:=⟨h.d2,h.d1,h.g2,h.g1⟩
theorem a9m{i j:Ins}(h:b1m i j=true):Apart i j:=by
 simp only[b1m,bAt] at h;obtain⟨h1,h2,h3,h4⟩:=h;refine⟨fun d hd=>?_,fun d hd=>?_,fun n hn=>?_,fun n hn=>?_⟩
 ·rw[hd] at h1;simpa [hd] using h1
 ·rw[hd] at h2
  refine⟨by simpa using h2,fun e=>?_⟩
  rw[hd] at e;rw[<-e] at h1;simp[hd] at h1
 ·rw[hn] at h3;simpa using h3
 ·rw[hn] at h4;simpa using h4
theorem Apart.get{i j:Ins}(h:Apart i j)(v:DV)(t:List DV){n:Nat}(hn:n∈looks j):a0W (U i v t) n=a0W t n:=by
 rw[a0s,a0s,a6N];rw[if_neg (fun e=>(h.d1 n e).1 hn),if_neg (fun e=>h.g1 n e hn)]
theorem a2f{i:Ins}{n:Nat}(h:n∈a2n i.xs):n∈looks i:=by
 unfold looks
 cases i.g with
 |none=>exact h
 |some g=>exact List.mem_cons_of_mem _ h
theorem a7X{xs:List O}{n:Nat}(h:.t n∈xs):n∈a2n xs:=by
 induction xs with
 |nil=>simp at h
 |cons x xs ih=>
  cases x with
  |t m=>
   simp only[a2n];rcases List.mem_cons.1 h with e|h
   ·injection e with e;subst e;exact List.mem_cons_self
   ·exact List.mem_cons_of_mem _ (ih h)
  |c d=>
   rcases List.mem_cons.1 h with e|h
   ·cases e
   ·exact ih h
theorem Apart.vals{i j:Ins}(h:Apart i j)(v:DV)(t:List DV):j.xs.map (O.val (U i v t))=j.xs.map (O.val t):=by
 refine List.map_congr_left fun x hx=>?_
 cases x with
 |c d=>rfl
 |t n=>exact h.get v t (a2f (a7X hx))
theorem Apart.comm{i j:Ins}(h:Apart i j)(v u:DV)(t:List DV):U j u (U i v t)=U i v (U j u t):=by
 apply List.ext_getElem?
 intro n;rw[a6N,a6N,a6N,a6N];have a1:i.d=some n->j.d≠some n:=fun e e'=>(h.d1 n e).2 (e.trans e'.symm)
 have a2:i.d=some n->a8c j.k.core j.xs≠some n:=fun e e'=>(h.d1 n e).1 (a2f (a4X e'))
 have a3:j.d=some n->a8c i.k.core i.xs≠some n:=fun e e'=>(h.d2 n e).1 (a2f (a4X e'))
 have a4:a8c i.k.core i.xs=some n->a8c j.k.core j.xs≠some n:=fun e e'=>h.g1 n e (a2f (a4X e'))
 by_cases e1:i.d=some n
 ·simp[e1,a1 e1,a2 e1]
 ·by_cases e2:j.d=some n
  ·simp[e1,e2,a3 e2]
  ·by_cases e3:a8c i.k.core i.xs=some n
   ·simp[e1,e2,e3,a4 e3]
   ·simp[e1,e2,e3]
theorem Apart.top{i j:Ins}(h:Apart i j)(u:DV)(t:List DV):U j u (a0K t i.d (.tup []))=a0K (U j u t) i.d (.tup []):=by
 apply List.ext_getElem?
 intro n
 cases hd:i.d with
 |none=>rfl
 |some d=>
  simp only[a0K];rw[a6N,getElem?_setL,getElem?_setL,a6N]
  by_cases e:n=d
  ·subst e
   have a1:j.d≠some n:=fun e'=>(h.d1 n hd).2 (hd.trans e'.symm)
   have a2:a8c j.k.core j.xs≠some n:=fun e'=>(h.d1 n hd).1 (a2f (a4X e'))
   simp[a1,a2]
  ·simp[e]
theorem Apart.topget{i j:Ins}(h:Apart i j)(t:List DV){n:Nat}(hn:n∈looks j):a0W (a0K t i.d (.tup [])) n=a0W t n:=by
 cases hd:i.d with
 |none=>rfl
 |some d=>
  simp only[a0K];rw[a0s,a0s,getElem?_setL,if_neg (fun e=>(h.d1 d hd).1 (by subst e;exact hn))]
def b8e(P:Program)(i:Ins)(s s':St):Prop:=∃v,a1q P i.k (i.xs.map (O.val s.t)) s.b (fun v1 b1=>v1=v/\b1=s'.b)/\s'.t=U i v s.t
def b7G(P:Program)(i:Ins)(s s':St):Prop :=
 match i.g with
 |none=>b8e P i s s'
 |some (j,want)=>(∃c,a0W s.t j=.p (.bool c)/\(c=want->b8e P i s s')/\(c=(!want)->s'=⟨a0K s.t i.d (.tup []),s.b⟩))\/(a0W s.t j=.tup []/\s'=⟨a0K s.t i.d (.tup []),s.b⟩)
theorem a8T{i:Ins}(hn:a2L i.k=none)(hl:a4d i.k.core=true){s:St}{K:St->Prop}:b1K P i s K↔∃s',b8e P i s s'/\K s':=by
 constructor
 ·rintro⟨_,h⟩
  obtain⟨v,b',h1,h2⟩:=b7H hl h;exact⟨⟨U i v s.t,b'⟩,⟨v,h1,rfl⟩,h2⟩
 ·rintro⟨⟨t',b'⟩,⟨v,h1,h2⟩,h3⟩
  simp only at h2;subst h2;refine⟨by unfold fresh;rw[hn,b6b hl];trivial,a3F (fun v1 b1 ⟨e1,e2⟩=>?_) h1⟩
  subst e1;subst e2;exact h3
theorem a3L{i:Ins}(hn:a2L i.k=none)(hl:a4d i.k.core=true){s:St}{K:St->Prop}:a0U P i s K↔∃s',b7G P i s s'/\K s':=by
 unfold a0U b7G
 cases hg:i.g with
 |none=>exact a8T hn hl
 |some g=>
  obtain⟨j,want⟩:=g;simp only
  cases hv:a0W s.t j with
  |p z=>
   cases z with
   |bool c=>
    simp only;have es:a0I s.t j (.p (.bool c))=s.t:=by rw[<-hv];exact a4Q _ _
    by_cases hc:c=want
    ·subst hc
     rw[es]
     constructor
     ·rintro⟨h1,_⟩
      obtain⟨s',h2,h3⟩:=(a8T hn hl).1 (h1 rfl);exact⟨s',.inl ⟨c,rfl,fun _=>h2,fun h=>by cases c<;>cases h⟩,h3⟩
     ·rintro⟨s',⟨c',e,h1,_⟩|⟨e,_⟩,h3⟩
      ·injection e with e
       injection e with e
       subst e;exact⟨fun _=>(a8T hn hl).2 ⟨s',h1 rfl,h3⟩,fun h=>by cases c<;>cases h⟩
      ·cases e
    ·have hc':c = !want:=by cases c<;>cases want<;>simp at hc ⊢
     subst hc';rw[es]
     constructor
     ·rintro⟨_,h2⟩
      exact⟨_,.inl ⟨!want,rfl,fun h=>absurd h hc,fun _=>rfl⟩,h2 rfl⟩
     ·rintro⟨s',⟨c',e,_,h2⟩|⟨e,_⟩,h3⟩
      ·injection e with e
       injection e with e
       subst e;rw[h2 rfl] at h3;exact⟨fun h=>absurd h hc,fun _=>h3⟩
      ·cases e
   |_=>simp
  |tup ds=>
   cases ds with
   |nil=>
    simp only
    constructor
    ·exact fun h=>⟨_,.inr ⟨trivial,rfl⟩,h⟩
    ·rintro⟨s',⟨c',e,_⟩|⟨_,e⟩,h3⟩
     ·cases e
     ·rw[e] at h3;exact h3
   |cons _ _=>simp
  |_=>simp
def a8J(i j:Ins):Bool :=
 b1m i j&&((a2L i.k).isNone&&((a2L j.k).isNone&&(a4d i.k.core&&(a4d j.k.core&&((b7U i.k&&b7U j.k)||((a6l i.k||a6l j.k)||(match atk i.k,atk j.k with|some k1,some k2=>k1 !=k2|_,_=>false)))))))
def gOK(i:Ins)(t:List DV):Prop :=
 match i.g with
 |none=>True
 |some (j,w)=>a0W t j=.p (.bool w)
def gNo(i:Ins)(t:List DV):Prop :=
 match i.g with
 |none=>False
 |some (j,w)=>a0W t j=.p (.bool (!w))\/a0W t j=.tup []
inductive StepK (P:Program) (i:Ins) (s s':St):Prop
 |ex (v:DV) (g:gOK i s.t) (h:a1q P i.k (i.xs.map (O.val s.t)) s.b (fun v1 b1=>v1=v/\b1=s'.b)) (ht:s'.t=U i v s.t)
 |sk (g:gNo i s.t) (e:s'=⟨a0K s.t i.d (.tup []),s.b⟩)
theorem a2I{i:Ins}{s s':St}:b7G P i s s'↔StepK P i s s':=by
 unfold b7G
 cases hg:i.g with
 |none=>
  constructor
  ·rintro⟨v,h1,h2⟩;exact .ex v (by unfold gOK;rw[hg];trivial) h1 h2
  ·rintro(⟨v,_,h1,h2⟩|⟨g,_⟩)
   ·exact⟨v,h1,h2⟩
   ·unfold gNo at g;rw[hg] at g;exact g.elim
 |some g=>
  obtain⟨j,w⟩:=g;simp only
  constructor
  ·rintro(⟨c,e,h1,h2⟩|⟨e,h2⟩)
   ·by_cases hc:c=w
    ·obtain⟨v,h3,h4⟩:=h1 hc
     exact .ex v (by unfold gOK;rw[hg];subst hc;exact e) h3 h4
    ·have hc':c = !w:=by cases c<;>cases w<;>simp at hc ⊢
     exact .sk (by unfold gNo;rw[hg];subst hc';exact .inl e) (h2 hc')
   ·exact .sk (by unfold gNo;rw[hg];exact .inr e) h2
  ·rintro(⟨v,g,h1,h2⟩|⟨g,e⟩)
   ·unfold gOK at g;rw[hg] at g
    exact .inl ⟨w,g,fun _=>⟨v,h1,h2⟩,(fun h=>by cases w<;>cases h)⟩
   ·unfold gNo at g;rw[hg] at g
    rcases g with g|g
    ·exact .inl ⟨!w,g,(fun h=>by cases w<;>cases h),fun _=>e⟩
    ·exact .inr ⟨g,e⟩
theorem a6d{i:Ins}{j:Nat}{w:Bool}(h:i.g=some (j,w)):j∈looks i:=by unfold looks;rw[h];exact List.mem_cons_self
theorem a2H{i:Ins}{t t':List DV}(h:∀n,n∈looks i->a0W t' n=a0W t n):gOK i t'↔gOK i t:=by
 unfold gOK
 cases hg:i.g with
 |none=>rfl
 |some g=>obtain⟨j,w⟩:=g;simp only;rw[h j (a6d hg)]
theorem a2N{i:Ins}{t t':List DV}(h:∀n,n∈looks i->a0W t' n=a0W t n):gNo i t'↔gNo i t:=by
 unfold gNo
 cases hg:i.g with
 |none=>rfl
 |some g=>obtain⟨j,w⟩:=g;simp only;rw[h j (a6d hg)]
theorem a1P{i:Ins}{t t':List DV}(h:∀n,n∈looks i->a0W t' n=a0W t n):i.xs.map (O.val t')=i.xs.map (O.val t):=by
 refine List.map_congr_left fun x hx=>?_
 cases x with
 |c d=>rfl
 |t n=>exact h n (a2f (a7X hx))
theorem b3s{i j:Ins}(h:Apart i j)(t:List DV):a0K (a0K t i.d (.tup [])) j.d (.tup [])=a0K (a0K t j.d (.tup [])) i.d (.tup []):=by
 cases hi:i.d with
 |none=>cases j.d<;>rfl
 |some d=>
  cases hj:j.d with
  |none=>rfl
  |some e=>
   have hne:d≠e:=fun h'=>(h.d1 d hi).2 (by rw[hi,hj,h'])
   simp only[a0K]
   apply List.ext_getElem?
   intro n;simp only[getElem?_setL]
   by_cases h1:n=d
   ·subst h1;simp[hne]
   ·by_cases h2:n=e
    ·subst h2;simp[h1]
    ·simp[h1,h2]
theorem c3H{i j:Ins}(h:a8J i j=true){s s1 s2:St}(h1:StepK P i s s1)(h2:StepK P j s1 s2):∃s',StepK P j s s'/\StepK P i s' s2:=by
 simp only[a8J,bAt] at h;obtain⟨ha,_,_,_,_,hcl⟩:=h;have hap:=a9m ha;obtain⟨t,b⟩:=s;obtain⟨t1,b1⟩:=s1;obtain⟨t2,b2⟩:=s2
 cases h1 with
 |ex v g1 m1 e1=>
  simp only at g1 m1 e1;subst e1;have lj:∀n,n∈looks j->a0W (U i v t) n=a0W t n:=fun n hn=>hap.get v t hn
  cases h2 with
  |ex u g2 m2 e2=>
   simp only at g2 m2 e2;subst e2;rw[a2H lj] at g2;rw[a1P lj] at m2;have li:∀n,n∈looks i->a0W (U j u t) n=a0W t n:=fun n hn=>hap.symm.get u t hn
   have key:∃b',a1q P j.k (j.xs.map (O.val t)) b (fun v1 b1=>v1=u/\b1=b')/\a1q P i.k (i.xs.map (O.val t)) b' (fun v1 b1=>v1=v/\b1=b2):=by
    simp only[Bool.or_eq_true,bAt] at hcl;rcases hcl with ⟨c1,c2⟩|(c1|c2)|c3
    ·have k1:=a1p c1 m1
     subst k1;have k2:=a1p c2 m2;subst k2;exact⟨_,m2,m1⟩
    ·have k1:=a1p (b5Z c1) m1
     subst k1;exact⟨_,m2,a5W c1 m1 _⟩
    ·have k2:=a1p (b5Z c2) m2
     subst k2;exact⟨b,a5W c2 m2 _,m1⟩
    ·cases ei:atk i.k with
     |none=>simp[ei] at c3
     |some k1=>
      cases ej:atk j.k with
      |none=>simp[ei,ej] at c3
      |some k2=>
       simp only[ei,ej,bne_iff_ne,ne_eq] at c3;obtain⟨l1,l2⟩:=a5f ei m1;obtain⟨l3,l4⟩:=a5f ej m2;have q1:a8q b k2=a8q b1 k2:=by rw[l1,a1H _ _ _ _ c3]
       refine⟨_,l4 b q1,?_⟩;have q2:=l2 (a0I b k2 (a8q b2 k2)) (a1H _ _ _ _ (fun e=>c3 e.symm))
       rw[a2Z _ _ _ _ _ (fun e=>c3 e.symm), <-l1, <-l3] at q2
       exact q2
   obtain⟨b',k1,k2⟩:=key;refine⟨⟨U j u t,b'⟩,.ex u g2 k1 rfl,.ex v ((a2H li).2 g1) (by rw[a1P li];exact k2) (hap.comm v u t)⟩
  |sk g2 e2=>
   simp only at g2;injection e2 with e2 e3
   subst e2;subst e3;rw[a2N lj] at g2;have li:∀n,n∈looks i->a0W (a0K t j.d (.tup [])) n=a0W t n:=fun n hn=>hap.symm.topget t hn
   exact⟨⟨a0K t j.d (.tup []),b⟩,.sk g2 rfl,.ex v ((a2H li).2 g1) (by rw[a1P li];exact m1) (hap.symm.top v t).symm⟩
 |sk g1 e1=>
  simp only at g1;injection e1 with e1 e3
  subst e1;subst e3;have lj:∀n,n∈looks j->a0W (a0K t i.d (.tup [])) n=a0W t n:=fun n hn=>hap.topget t hn
  cases h2 with
  |ex u g2 m2 e2=>
   simp only at g2 m2 e2;subst e2;rw[a2H lj] at g2;rw[a1P lj] at m2;have li:∀n,n∈looks i->a0W (U j u t) n=a0W t n:=fun n hn=>hap.symm.get u t hn
   refine⟨⟨U j u t,b2⟩,.ex u g2 m2 rfl,.sk ((a2N li).2 g1) ?_⟩;rw[hap.top u t]
  |sk g2 e2=>
   simp only at g2;injection e2 with e2 e3
   subst e2;subst e3;rw[a2N lj] at g2;have li:∀n,n∈looks i->a0W (a0K t j.d (.tup [])) n=a0W t n:=fun n hn=>hap.symm.topget t hn
   refine⟨⟨a0K t j.d (.tup []),_⟩,.sk g2 rfl,.sk ((a2N li).2 g1) ?_⟩;rw[b3s hap t]
theorem swap{i j:Ins}(h:a8J i j=true){s:St}{K:St->Prop}(hx:a0U P i s (fun s=>a0U P j s K)):a0U P j s (fun s=>a0U P i s K):=by
 have h':=h;simp only[a8J,bAt,Option.isNone_iff_eq_none] at h';obtain⟨_,n1,n2,l1,l2,_⟩:=h';rw[a3L n1 l1] at hx;obtain⟨s1,h1,hx⟩:=hx;rw[a3L n2 l2] at hx;obtain⟨s2,h2,hK⟩:=hx;obtain⟨s',k1,k2⟩:=c3H h (a2I.1 h1) (a2I.1 h2);rw[a3L n2 l2];refine⟨s',a2I.2 k1,?_⟩;rw[a3L n1 l1];exact⟨s2,a2I.2 k2,hK⟩
end Go.Proofs.YtnjphclbpgajpaaGreatDoor.Vc
