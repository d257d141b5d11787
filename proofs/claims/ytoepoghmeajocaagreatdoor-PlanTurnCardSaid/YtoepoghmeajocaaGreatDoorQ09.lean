/- Part of a proof over a Go program: VcAny, VcAl, VcCode, VcFn, VcOfn. No condition. -/
import Derived.Test.YtoepoghmeajocaaGreatDoorQ08
import Derived.LoopN
import Derived.Test.YtoepoghmeajocaaGreatDoorQ05
set_option linter.unnecessarySimpa false
set_option linter.unusedSectionVars false
set_option linter.unusedSimpArgs false
set_option linter.unusedVariables false
namespace Go.Proofs.YtoepoghmeajocaaGreatDoor.Vc
open Go.RowKit
variable {P : Program}
theorem op_ok {G : Gl} {ops : Array Oper} {Q : Exit → Act → World → Prop} {K : St → Prop} {q : Nat} {o : Oper} {i : Ins} (ho' : ops[q]? = some o) (ti : TrI P ops o i)
  {s : St} {X : Cx} {a : Act} (h : Rel G X s a) (hK : execG P i s K) : wpOp P ops Q q (Post G K) a X.w := by
 simp only [wpOp, ho']
 obtain ⟨id, ig, ik, ixs⟩ := i
 have hd := ti.d
 have htr' := ti.tr
 have hg := ti.g
 simp only at hd htr' hg
 subst hd
 simp only [execG] at hK
 have go : ∀ {s : St}, Rel G X s a → exec P ⟨o.dst, ig, ik, ixs⟩ s K → o.wp P a X.w (Post G K) Q := fun h hK => execJ_ok h htr' hK
 cases hog : o.guard with
 | none =>
  rw [hog] at hg
  cases ig with
  | some _ => exact hg.elim
  | none =>
   have hw : Region.wanted o (yielded ops a.tmps) = true := by simp [Region.wanted, hog]
   rw [if_pos hw]
   exact .inl (go h hK)
 | some jw =>
  obtain ⟨j, want⟩ := jw
  rw [hog] at hg
  cases ig with
  | none => exact hg.elim
  | some tw =>
   obtain ⟨t, want'⟩ := tw
   obtain ⟨rfl, hj⟩ := hg
   simp only at hK
   have hv := h.get t
   generalize hgt : getT s.t t = dv at *
   cases dv with
   | p z =>
    cases z with
    | bool c =>
     simp only at hK
     have hlt : t < a.tmps.size := by
      rw [h.size]
      rcases Nat.lt_or_ge t s.t.length with h0 | h0
      ·exact h0
      ·rw [getT_eq, List.getElem?_eq_none h0] at hgt; cases hgt
     have hb := Flat.boolv hv
     have hy : yielded ops a.tmps j = some c := yielded_of hj hlt hb
     have hweak : Rel G X ⟨setL s.t t (.p (.bool c)), s.b⟩ a := h.weak t _ hv
     by_cases hcw : c = want
     ·subst hcw
      rw [if_pos (by simp [Region.wanted, hog, hy])]
      exact .inl (go hweak (hK.1 rfl))
     ·rw [if_neg (by simp [Region.wanted, hog, hy, hcw])]
      have e : c = !want := by cases c <;> cases want <;> simp at hcw ⊢
      have hKK := hK.2 e
      rw [e] at hweak
      exact ⟨_, _, hweak.put (d := o.dst) (v := .tup []) (fun _ _ => undef_tup), rfl, hKK⟩
    | _ => exact hK.elim
   | tup ds =>
    cases ds with
    | nil =>
     have hy := yielded_tup (ops := ops) hj hv
     rw [if_neg (by simp [Region.wanted, hog, hy])]
     exact ⟨_, _, h.put (d := o.dst) (v := .tup []) (fun _ _ => undef_tup), rfl, hK⟩
    | cons _ _ => exact hK.elim
   | _ => exact hK.elim
theorem execG_mono {i : Ins} {s : St} {K K' : St → Prop} (hk : ∀ s, K s → K' s) (h : execG P i s K) : execG P i s K' := by
 have ex : ∀ {s : St}, exec P i s K → exec P i s K' := fun ⟨h1, h2⟩ => ⟨h1, semJ_mono (fun v b h => hk _ h) h2⟩
 unfold execG at h ⊢
 split at h
 ·exact ex h
 ·split at h
  ·exact ⟨fun hc => ex (h.1 hc), fun hc => hk _ (h.2 hc)⟩
  ·exact hk _ h
  ·exact h
theorem swapFront {i : Ins} {K : St → Prop} {post : List Ins} : ∀ {pre : List Ins}, (∀ j, j ∈ pre → indep j i = true) → ∀ {s : St}, execs P (pre ++ i :: post) s K → execG P i s (fun s => execs P (pre ++ post) s K)
 | [], _, _, h => h
 | p :: pre, hp, s, h => by
  have h1 : execG P p s (fun s' => execG P i s' (fun s'' => execs P (pre ++ post) s'' K)) :=
   execG_mono (fun s' hs' => swapFront (fun j hj => hp j (List.mem_cons_of_mem _ hj)) hs') h
  exact swap (hp p List.mem_cons_self) h1
def DownC (ops : Array Oper) (listed : Array Bool) : Prop :=
 ∀ (k : Nat) (o : Oper), listed.getD k false = true → ops[k]? = some o → ∀ e, e ∈ o.after → Region.binds .any e = true → listed.getD e.on false = true
def clEdges (acc : List Nat) : List Edge → Nat
 | [] => 0
 | e :: es => if Region.binds .any e then (2 ^ e.on ||| acc.getD e.on 0) ||| clEdges acc es else clEdges acc es
def clos : List Oper → List Nat → List Nat
 | [], acc => acc
 | o :: os, acc => clos os (acc ++ [clEdges acc o.after.toList])
theorem clEdges_bit {acc : List Nat} {j : Nat} : ∀ {es : List Edge}, (clEdges acc es).testBit j = true → ∃ e, e ∈ es ∧ Region.binds .any e = true ∧ (j = e.on ∨ (acc.getD e.on 0).testBit j = true)
 | [], h => by simp [clEdges] at h
 | e :: es, h => by
  simp only [clEdges] at h
  split at h
  ·rename_i hb
   rw [Nat.testBit_or, Nat.testBit_or, Bool.or_eq_true, Bool.or_eq_true] at h
   rcases h with (h | h) | h
   ·rw [Nat.testBit_two_pow] at h
    exact ⟨e, List.mem_cons_self, hb, .inl (by simpa [eq_comm] using h)⟩
   ·exact ⟨e, List.mem_cons_self, hb, .inr h⟩
   ·obtain ⟨e', h1, h2⟩ := clEdges_bit h
    exact ⟨e', List.mem_cons_of_mem _ h1, h2⟩
  ·obtain ⟨e', h1, h2⟩ := clEdges_bit h
   exact ⟨e', List.mem_cons_of_mem _ h1, h2⟩
def RowsOK (ops : Array Oper) (rows : List Nat) : Prop :=
 ∀ (k : Nat) (r : Nat) (o : Oper), rows[k]? = some r → ops[k]? = some o → ∀ j, r.testBit j = true → ∀ listed, DownC ops listed → (∀ e, e ∈ o.after → Region.binds .any e = true → listed.getD e.on false = true) → listed.getD j false = true
theorem clos_ok {ops : Array Oper} : ∀ (os pre : List Oper) (acc : List Nat), pre ++ os = ops.toList → acc.length = pre.length → RowsOK ops acc → RowsOK ops (clos os acc)
 | [], _, _, _, _, h => h
 | o :: os, pre, acc, he, hl, h => by
  refine clos_ok os (pre ++ [o]) _ (by simpa using he) (by simp [hl]) fun k r o' hr ho j hj listed hd ha => ?_
  rw [List.getElem?_append] at hr
  by_cases hk : k < acc.length
  ·rw [if_pos hk] at hr
   exact h k r o' hr ho j hj listed hd ha
  ·rw [if_neg hk] at hr
   have hk0 : k - acc.length = 0 := by
    have := (List.getElem?_eq_some_iff.1 hr).1
    simp at this; exact this
   rw [hk0] at hr
   simp at hr
   subst hr
   have hke : k = pre.length := by omega
   have ho2 : o' = o := by
    have : ops.toList[k]? = some o' := by simpa using ho
    rw [← he, hke] at this
    simp at this
    exact this.symm
   subst ho2
   obtain ⟨e, h1, h2, h3⟩ := clEdges_bit hj
   have he' : e ∈ o'.after := by simpa using h1
   have hon := ha e he' h2
   rcases h3 with rfl | h3
   ·exact hon
   ·rw [List.getD_eq_getElem?_getD] at h3
    cases hrr : acc[e.on]? with
    | none => rw [hrr] at h3; simp at h3
    | some r' =>
     rw [hrr] at h3
     have hlt : e.on < ops.size := by
      have h1 := (List.getElem?_eq_some_iff.1 hrr).1
      have h2 : ops.size = pre.length + (os.length + 1) := by rw [← Array.length_toList, ← he]; simp
      omega
     exact h e.on r' ops[e.on] hrr (by simp [hlt]) j (by simpa using h3) listed hd (hd e.on ops[e.on] hon (by simp [hlt]))
def pairsW (ind : Ins → Ins → Bool) (ops : Array Oper) (is : List Ins) : Bool :=
 let rows := clos ops.toList []
 (List.range is.length).all fun i => (match ops[i]? with
   | some o => o.after.all fun e => !Region.binds .any e || decide (e.on < i)
   | none => false) &&
  (List.range i).all fun j => match is[j]?, is[i]?, rows[i]? with
   | some a, some b, some r => r.testBit j || ind a b
   | _, _, _ => false
def pairsB (ops : Array Oper) (is : List Ins) : Bool := pairsW indep ops is
theorem any_ok {ind : Ins → Ins → Bool} {Inv : List Ins → St → Prop} {K : St → Prop}
  (hsw : ∀ (pre : List Ins) (i : Ins) (post : List Ins) (s : St), (∀ j, j ∈ pre → ind j i = true) → Inv (pre ++ i :: post) s → execs P (pre ++ i :: post) s K → execG P i s (fun s' => execs P (pre ++ post) s' K ∧ Inv (pre ++ post) s'))
  {G : Gl} {ops : Array Oper} {is : List Ins} {Q : Exit → Act → World → Prop} (hl : ops.size = is.length)
  (htr : ∀ (k : Nat) i, is[k]? = some i → ∃ o, ops[k]? = some o ∧ TrI P ops o i) (hp : pairsW ind ops is = true) (hQ : ∀ s X a, Rel G X s a → K s → Q .normal a X.w) :
  ∀ (n : Nat) (rem : List (Nat × Ins)) (listed : Array Bool), rem.length = n → listed.size = ops.size → DownC ops listed → (∀ p, p ∈ rem → is[p.1]? = some p.2) → (rem.map (·.1)).Pairwise (· < ·) →
   (∀ j, j < ops.size → (listed.getD j true = false ↔ j ∈ rem.map (·.1))) →
   ∀ {s : St} {X : Cx} {a : Act}, Rel G X s a → Inv (rem.map (·.2)) s → execs P (rem.map (·.2)) s K → wpAny P .any ops Q n listed a X.w := by
 have hrows : RowsOK ops (clos ops.toList []) := clos_ok ops.toList [] [] rfl rfl (fun k r o h => by simp at h)
 have hback : ∀ (i : Nat) (o : Oper), ops[i]? = some o → ∀ e, e ∈ o.after → Region.binds .any e = true → e.on < i := by
  intro i o ho e he hb
  have hi : i < is.length := by rw [← hl]; exact (Array.getElem?_eq_some_iff.1 ho).1
  have := List.all_eq_true.1 hp i (by simpa using hi)
  simp only [Bool.and_eq_true, ho] at this
  have := Array.all_eq_true_iff_forall_mem.1 this.1 e he
  simpa [hb] using this
 intro n
 induction n with
 | zero =>
  intro rem listed hn hsz hd hmem hsort hun s X a h hI hK
  have : rem = [] := List.eq_nil_of_length_eq_zero hn
  subst this
  refine ⟨?_, hQ s X a h hK⟩
  refine List.eq_nil_iff_forall_not_mem.2 fun j hj => ?_
  obtain ⟨h1, o, h2, _⟩ := mem_ready.1 hj
  have := (hun j (Array.getElem?_eq_some_iff.1 h2).1).1 h1
  simp at this
 | succ n ih =>
  intro rem listed hn hsz hd hmem hsort hun s X a h hI hK
  have lis : ∀ j, j < ops.size → listed.getD j true = true → listed.getD j false = true := by
   intro j hj h1
   have hj' : j < listed.size := by omega
   simp [hj'] at h1 ⊢; exact h1
  have unl : ∀ j, j < ops.size → j ∈ rem.map (·.1) → listed.getD j false = false := by
   intro j hj h1
   have := (hun j hj).2 h1
   have hj' : j < listed.size := by omega
   simp [hj'] at this ⊢; exact this
  refine ⟨fun hr => ?_, fun i hi => ?_⟩
  ·exfalso
   cases rem with
   | nil => simp at hn
   | cons p rem =>
    obtain ⟨j, ins⟩ := p
    have hj : is[j]? = some ins := hmem (j, ins) List.mem_cons_self
    obtain ⟨o, ho, _⟩ := htr j ins hj
    have hjlt := (Array.getElem?_eq_some_iff.1 ho).1
    have : j ∈ Region.ready .any ops listed := by
     refine mem_ready.2 ⟨(hun j hjlt).2 (by simp), o, ho, fun e he hb => ?_⟩
     have hlt := hback j o ho e he hb
     have hlt2 : e.on < ops.size := by omega
     refine lis e.on hlt2 ?_
     cases hc : listed.getD e.on true with
     | true => rfl
     | false =>
      have hin := (hun e.on hlt2).1 hc
      simp only [List.map_cons, List.mem_cons] at hin
      rw [List.map_cons, List.pairwise_cons] at hsort
      rcases hin with hin | hin
      ·omega
      ·have := hsort.1 _ hin; omega
    rw [hr] at this
    cases this
  ·obtain ⟨h1, o, ho, hall⟩ := mem_ready.1 hi
   have hilt := (Array.getElem?_eq_some_iff.1 ho).1
   have hin := (hun i hilt).1 h1
   obtain ⟨p, hpm, hpi⟩ := List.mem_map.1 hin
   obtain ⟨pre, post, hsp⟩ := List.append_of_mem hpm
   obtain ⟨i', ins⟩ := p
   simp only at hpi
   subst hpi
   subst hsp
   have hins : is[i']? = some ins := hmem (i', ins) (by simp)
   obtain ⟨o', ho', ti⟩ := htr i' ins hins
   have hind : ∀ j, j ∈ pre.map (·.2) → ind j ins = true := by
    intro j hj
    obtain ⟨q, hq, rfl⟩ := List.mem_map.1 hj
    have hqs := hmem q (by simp [hq])
    have hqlt : q.1 < i' := by
     rw [List.map_append, List.map_cons, List.pairwise_append] at hsort
     exact hsort.2.2 q.1 (List.mem_map_of_mem hq) i' (by simp)
    have hq2 : q.1 < ops.size := by omega
    have hc := List.all_eq_true.1 hp i' (by simpa [← hl] using hilt)
    simp only [Bool.and_eq_true] at hc
    have hc := List.all_eq_true.1 hc.2 q.1 (by simpa using hqlt)
    rw [hqs, hins] at hc
    cases hr : (clos ops.toList [])[i']? with
    | none => simp [hr] at hc
    | some r =>
     simp only [hr, Bool.or_eq_true] at hc
     rcases hc with hc | hc
     ·exfalso
      have t1 := hrows i' r o hr ho q.1 hc listed hd hall
      rw [unl q.1 hq2 (by simp; exact .inl ⟨q.2, hq⟩)] at t1
      cases t1
     ·exact hc
   have hK' : execG P ins s (fun s => execs P (pre.map (·.2) ++ post.map (·.2)) s K ∧ Inv (pre.map (·.2) ++ post.map (·.2)) s) := by
    rw [List.map_append, List.map_cons] at hK hI
    exact hsw _ _ _ _ hind hI hK
   refine wpOp_mono (fun a' w' ⟨s', X', h', e', k', i''⟩ => ?_) (op_ok ho' ti h hK')
   subst e'
   refine ih (pre ++ post) _ (by simp at hn ⊢; omega) (by simp [hsz]) ?_ (fun p hp => hmem p (by
    rcases List.mem_append.1 hp with hp | hp
    ·simp [hp]
    ·simp [hp])) ?_ ?_ h' (by rw [List.map_append]; exact i'') (by rw [List.map_append]; exact k')
   ·intro k ok hk hok e he hb
    by_cases hki : k = i'
    ·subst hki
     rw [ho] at hok
     injection hok with hok
     subst hok
     exact getD_set_true (hall e he hb)
    ·rw [getD_set_ne false (fun h => hki h.symm)] at hk
     exact getD_set_true (hd k ok hk hok e he hb)
   ·rw [List.map_append, List.map_cons, List.pairwise_append] at hsort
    rw [List.map_append, List.pairwise_append]
    refine ⟨hsort.1, (List.pairwise_cons.1 hsort.2.1).2, fun x hx y hy => hsort.2.2 x hx y (List.mem_cons_of_mem _ hy)⟩
   ·intro j hj
    have hnd : i' ∉ (pre ++ post).map (·.1) := by
     rw [List.map_append, List.map_cons, List.pairwise_append] at hsort
     rw [List.map_append]
     intro hm
     rcases List.mem_append.1 hm with hm | hm
     ·exact Nat.lt_irrefl _ (hsort.2.2 i' hm i' (by simp))
     ·exact Nat.lt_irrefl _ ((List.pairwise_cons.1 hsort.2.1).1 i' hm)
    by_cases hji : j = i'
    ·subst hji
     have : j < listed.size := by omega
     constructor
     ·intro hc; simp [this] at hc
     ·intro hc; exact absurd hc hnd
    ·rw [getD_set_ne true (fun h => hji h.symm), hun j hj]
     simp [hji]
theorem execs_drawW {ind : Ins → Ins → Bool} {Inv : List Ins → St → Prop} {K : St → Prop}
  (hsw : ∀ (pre : List Ins) (i : Ins) (post : List Ins) (s : St), (∀ j, j ∈ pre → ind j i = true) → Inv (pre ++ i :: post) s → execs P (pre ++ i :: post) s K → execG P i s (fun s' => execs P (pre ++ post) s' K ∧ Inv (pre ++ post) s'))
  {G : Gl} {id : Nat} {ops : Array Oper} {is : List Ins} {Q : Exit → Act → World → Prop} (hm : P.follows .mixedOrders = true) (hl : ops.size = is.length)
  (htr : ∀ (k : Nat) i, is[k]? = some i → ∃ o, ops[k]? = some o ∧ TrI P ops o i) (hp : pairsW ind ops is = true) (hQ : ∀ s X a, Rel G X s a → K s → Q .normal a X.w) {s : St} {X : Cx} {a : Act} (h : Rel G X s a) (hI : Inv is s) (hK : execs P is s K) :
  (Code.region id ops true).wp P Q a X.w := by
 refine wp_region_any hm ?_
 have hX : Rel G { X with w := { X.w with drawn := X.w.drawn + 1 } } s a := by
  have hcell : ∀ b o, World.cell? { X.w with drawn := X.w.drawn + 1 } ⟨b, o, none⟩ = X.w.cell? ⟨b, o, none⟩ := fun b o => World.cell?_of_block rfl
  refine h.change (fun _ => True) (fun _ _ h => h) ⟨fun b o v hM hc => ⟨(hcell b o).trans hc, hM⟩, fun g L hg _ _ => ⟨hg, rfl, fun _ h => h⟩, rfl, fun _ => .of rfl⟩ (fun i d hd => .inl ⟨trivial, fun _ _ => rfl⟩)
   (fun k bx hk => .inl ⟨trivial, fun _ _ => trivial, rfl, fun _ _ _ _ _ _ => rfl⟩) ⟨rfl, rfl, rfl, Nat.le_refl _, fun _ _ => rfl⟩ (fun b _ o => Iff.rfl)
 refine any_ok hsw (X := { X with w := { X.w with drawn := X.w.drawn + 1 } }) hl htr hp hQ ops.size (is.zipIdx.map fun p => (p.2, p.1)) _ (by simp [hl]) (by simp) ?_ ?_ ?_ ?_ hX ?_ ?_
 ·intro k o hk
  by_cases hlt : k < ops.size
  ·simp [hlt] at hk
  ·simp [hlt] at hk
 ·intro p hpm
  obtain ⟨q, hq, rfl⟩ := List.mem_map.1 hpm
  have := List.mem_zipIdx hq
  simp at this
  simp only
  rw [List.getElem?_eq_getElem (by omega)]
  simp [this.2]
 ·have : (is.zipIdx.map fun p => (p.2, p.1)).map (·.1) = List.range is.length := by
   rw [List.map_map]
   have e : ((fun x => x.1) ∘ fun (p : Ins × Nat) => (p.2, p.1)) = Prod.snd := rfl
   rw [e, List.zipIdx_map_snd, List.range_eq_range']
  rw [this]
  exact List.pairwise_lt_range
 ·intro j hj
  have : (is.zipIdx.map fun p => (p.2, p.1)).map (·.1) = List.range is.length := by
   rw [List.map_map]
   have e : ((fun x => x.1) ∘ fun (p : Ins × Nat) => (p.2, p.1)) = Prod.snd := rfl
   rw [e, List.zipIdx_map_snd, List.range_eq_range']
  rw [this]
  simp [hj, ← hl]
 ·have : (is.zipIdx.map fun p => (p.2, p.1)).map (·.2) = is := by
   rw [List.map_map]
   have e : ((fun x => x.2) ∘ fun (p : Ins × Nat) => (p.2, p.1)) = Prod.fst := rfl
   rw [e, List.zipIdx_map_fst]
  rw [this]; exact hI
 ·have : (is.zipIdx.map fun p => (p.2, p.1)).map (·.2) = is := by
   rw [List.map_map]
   have e : ((fun x => x.2) ∘ fun (p : Ins × Nat) => (p.2, p.1)) = Prod.fst := rfl
   rw [e, List.zipIdx_map_fst]
  rw [this]; exact hK
theorem execs_draw {G : Gl} {id : Nat} {ops : Array Oper} {is : List Ins} {Q : Exit → Act → World → Prop} {K : St → Prop} (hm : P.follows .mixedOrders = true) (hl : ops.size = is.length)
  (htr : ∀ (k : Nat) i, is[k]? = some i → ∃ o, ops[k]? = some o ∧ TrI P ops o i) (hp : pairsB ops is = true) (hQ : ∀ s X a, Rel G X s a → K s → Q .normal a X.w) {s : St} {X : Cx} {a : Act} (h : Rel G X s a) (hK : execs P is s K) :
  (Code.region id ops true).wp P Q a X.w :=
 execs_drawW (ind := indep) (Inv := fun _ _ => True) (fun pre i post s hind _ hK => execG_mono (fun s h => ⟨h, trivial⟩) (swapFront hind hK)) hm hl htr hp hQ h trivial hK
abbrev OpT := Nat × Ins × List Nat
def inT (j : Nat) : List OpT → Bool
 | [] => false
 | p :: l => Nat.beq p.1 j || inT j l
def readyT (rem : List OpT) : List Nat → Bool
 | [] => true
 | j :: l => !inT j rem && readyT rem l
def dropT (j : Nat) : List OpT → List OpT
 | [] => []
 | p :: l => if Nat.beq p.1 j then dropT j l else p :: dropT j l
mutual
def anyT (P : Program) : Nat → List OpT → St → (St → Prop) → Prop
 | 0, _, _, _ => False
 | _ + 1, [], s, K => K s
 | n + 1, p :: rem, s, K => anyS P n (p :: rem) (p :: rem) s K
termination_by n _ _ _ => (n, 0)
def anyS (P : Program) : Nat → List OpT → List OpT → St → (St → Prop) → Prop
 | _, _, [], _, _ => True
 | n, rem, p :: ps, s, K => (readyT rem p.2.2 = true → execG P p.2.1 s (fun s' => anyT P n (dropT p.1 rem) s' K)) ∧ anyS P n rem ps s K
termination_by n _ ps _ _ => (n, ps.length + 1)
end
theorem inT_iff {j : Nat} : ∀ {l : List OpT}, inT j l = true ↔ j ∈ l.map (·.1)
 | [] => by simp [inT]
 | p :: l => by
  simp only [inT, Bool.or_eq_true, List.map_cons, List.mem_cons, inT_iff (l := l)]
  exact ⟨fun h => h.elim (fun h => .inl (Nat.eq_of_beq_eq_true h).symm) .inr, fun h => h.elim (fun h => .inl (by subst h; simp)) .inr⟩
theorem readyT_iff {rem : List OpT} : ∀ {l : List Nat}, readyT rem l = true ↔ ∀ j, j ∈ l → j ∉ rem.map (·.1)
 | [] => by simp [readyT]
 | j :: l => by
  simp only [readyT, Bool.and_eq_true, Bool.not_eq_true', readyT_iff (l := l)]
  constructor
  ·rintro ⟨h1, h2⟩ q hq
   rcases List.mem_cons.1 hq with rfl | hq
   ·exact fun hm => by rw [inT_iff.2 hm] at h1; cases h1
   ·exact h2 q hq
  ·refine fun h => ⟨?_, fun q hq => h q (by simp [hq])⟩
   cases hc : inT j rem with
   | false => rfl
   | true => exact absurd (inT_iff.1 hc) (h j (by simp))
theorem dropT_mem {j : Nat} {p : OpT} : ∀ {l : List OpT}, p ∈ dropT j l ↔ p ∈ l ∧ p.1 ≠ j
 | [] => by simp [dropT]
 | q :: l => by
  simp only [dropT]
  by_cases h : q.1 = j
  ·rw [if_pos (by simp [h]), dropT_mem (l := l), List.mem_cons]
   exact ⟨fun ⟨a, b⟩ => ⟨.inr a, b⟩, fun ⟨a, b⟩ => ⟨a.elim (fun e => absurd (by rw [e]; exact h) b) id, b⟩⟩
  ·rw [if_neg (fun hh => h (Nat.eq_of_beq_eq_true hh)), List.mem_cons, dropT_mem (l := l), List.mem_cons]
   exact ⟨fun hh => hh.elim (fun e => ⟨.inl e, by rw [e]; exact h⟩) (fun ⟨a, b⟩ => ⟨.inr a, b⟩), fun ⟨a, b⟩ => a.elim .inl (fun a => .inr ⟨a, b⟩)⟩
theorem anyS_mem {n : Nat} {rem : List OpT} {s : St} {K : St → Prop} : ∀ {ps : List OpT}, anyS P n rem ps s K → ∀ p, p ∈ ps → readyT rem p.2.2 = true → execG P p.2.1 s (fun s' => anyT P n (dropT p.1 rem) s' K)
 | [], _, p, hp, _ => by simp at hp
 | q :: ps, h, p, hp, hr => by
  rw [anyS] at h
  rcases List.mem_cons.1 hp with rfl | hp
  ·exact h.1 hr
  ·exact anyS_mem h.2 p hp hr
def edgesB (o : Oper) (i : Nat) (pre : List Nat) : Bool := (o.after.all fun e => !Region.binds .any e || decide (e.on < i)) && pre.all fun j => o.after.any fun e => Region.binds .any e && decide (e.on = j)
theorem anyT_ok {G : Gl} {ops : Array Oper} {l : List (Ins × List Nat)} {Q : Exit → Act → World → Prop} {K : St → Prop} (hl : ops.size = l.length)
  (htr : ∀ (k : Nat) p, l[k]? = some p → ∃ o, ops[k]? = some o ∧ TrI P ops o p.1 ∧ edgesB o k p.2 = true) (hQ : ∀ s X a, Rel G X s a → K s → Q .normal a X.w) :
  ∀ (n m : Nat) (rem : List OpT) (listed : Array Bool), listed.size = ops.size → (∀ p, p ∈ rem → l[p.1]? = some p.2) →
   (∀ j, j < ops.size → (listed.getD j true = false ↔ j ∈ rem.map (·.1))) → (listed.toList.count false = n) →
   ∀ {s : St} {X : Cx} {a : Act}, Rel G X s a → anyT P m rem s K → wpAny P .any ops Q n listed a X.w := by
 have hback : ∀ (i : Nat) (o : Oper), ops[i]? = some o → ∀ e, e ∈ o.after → Region.binds .any e = true → e.on < i := by
  intro i o ho e he hb
  have hi : i < l.length := by rw [← hl]; exact (Array.getElem?_eq_some_iff.1 ho).1
  obtain ⟨o', ho', _, h3⟩ := htr i l[i] (by simp [hi])
  rw [ho] at ho'
  injection ho' with ho'
  subst ho'
  simp only [edgesB, Bool.and_eq_true] at h3
  have := Array.all_eq_true_iff_forall_mem.1 h3.1 e he
  simpa [hb] using this
 intro n
 induction n with
 | zero =>
  intro m rem listed hsz hmem hun hc s X a h hK
  have hnone : ∀ j, j < ops.size → listed.getD j true = true := by
   intro j hj
   cases hg : listed.getD j true with
   | true => rfl
   | false =>
    exfalso
    have hj' : j < listed.size := by omega
    have : listed[j] = false := by simpa [hj'] using hg
    have hm : false ∈ listed.toList := by rw [← this]; simp
    have := List.count_pos_iff.2 hm
    omega
  have hrem : rem = [] := by
   refine List.eq_nil_iff_forall_not_mem.2 fun p hp => ?_
   have hlt : p.1 < ops.size := by rw [hl]; exact (List.getElem?_eq_some_iff.1 (hmem p hp)).1
   have := (hun p.1 hlt).2 (List.mem_map_of_mem hp)
   rw [hnone p.1 hlt] at this; cases this
  subst hrem
  refine ⟨?_, ?_⟩
  ·refine List.eq_nil_iff_forall_not_mem.2 fun j hj => ?_
   obtain ⟨h1, o, h2, _⟩ := mem_ready.1 hj
   have := (hun j (Array.getElem?_eq_some_iff.1 h2).1).1 h1
   simp at this
  ·cases m with
   | zero => rw [anyT] at hK; exact hK.elim
   | succ m => rw [anyT] at hK; exact hQ s X a h hK
 | succ n ih =>
  intro m rem listed hsz hmem hun hc s X a h hK
  have lis : ∀ j, j < ops.size → listed.getD j true = true → listed.getD j false = true := by
   intro j hj h1
   have hj' : j < listed.size := by omega
   simp [hj'] at h1 ⊢; exact h1
  refine ⟨fun hr => ?_, fun i hi => ?_⟩
  ·exfalso
   have hex : ∃ j, j < ops.size ∧ listed.getD j true = false := by
    have : 0 < listed.toList.count false := by omega
    obtain ⟨j, hj⟩ := List.getElem?_of_mem (List.count_pos_iff.1 this)
    have hjl := (List.getElem?_eq_some_iff.1 hj).1
    simp at hjl
    refine ⟨j, by omega, ?_⟩
    have := (List.getElem?_eq_some_iff.1 hj).2
    simp [hjl]; simpa using this
   obtain ⟨j, hj1, hj2, hj3⟩ : ∃ j, j < ops.size ∧ listed.getD j true = false ∧ ∀ q, q < j → listed.getD q true = true := by
    obtain ⟨j, hj⟩ := hex
    induction j using Nat.strongRecOn with
    | _ j ih2 =>
     by_cases hq : ∃ q, q < j ∧ listed.getD q true = false
     ·obtain ⟨q, hq1, hq2⟩ := hq
      exact ih2 q hq1 ⟨by omega, hq2⟩
     ·refine ⟨j, hj.1, hj.2, fun q hqj => ?_⟩
      cases hg : listed.getD q true with
      | true => rfl
      | false => exact absurd ⟨q, hqj, hg⟩ hq
   have hj : j < l.length := by omega
   obtain ⟨o, ho, _, _⟩ := htr j l[j] (by simp [hj])
   have : j ∈ Region.ready .any ops listed := mem_ready.2 ⟨hj2, o, ho, fun e he hb => by
    have hlt := hback j o ho e he hb
    exact lis e.on (by omega) (hj3 e.on hlt)⟩
   rw [hr] at this
   cases this
  ·obtain ⟨h1, o, ho, hall⟩ := mem_ready.1 hi
   have hilt := (Array.getElem?_eq_some_iff.1 ho).1
   obtain ⟨p, hpm, hpi⟩ := List.mem_map.1 ((hun i hilt).1 h1)
   subst hpi
   have hlp := hmem p hpm
   obtain ⟨o', ho', ti, hed⟩ := htr p.1 p.2 hlp
   rw [ho] at ho'
   injection ho' with ho'
   subst ho'
   have hrdy : readyT rem p.2.2 = true := readyT_iff.2 fun j hj hm => by
    simp only [edgesB, Bool.and_eq_true] at hed
    have hje := List.all_eq_true.1 hed.2 j hj
    obtain ⟨k, hk, hk2⟩ := Array.any_eq_true.1 hje
    simp only [Bool.and_eq_true, decide_eq_true_eq] at hk2
    have he : o.after[k] ∈ o.after := Array.getElem_mem hk
    have hlis := hall _ he hk2.1
    rw [hk2.2] at hlis
    have hjlt : j < ops.size := by have := hback p.1 o ho _ he hk2.1; omega
    have := (hun j hjlt).2 hm
    have hj' : j < listed.size := by omega
    simp [hj'] at this hlis
    rw [this] at hlis; cases hlis
   cases m with
   | zero => rw [anyT] at hK; exact hK.elim
   | succ m =>
    cases rem with
    | nil => simp at hpm
    | cons q rem' =>
     rw [anyT] at hK
     have hK' := anyS_mem hK p hpm hrdy
     refine wpOp_mono (fun a' w' ⟨s', X', h', e', k'⟩ => ?_) (op_ok ho ti h hK')
     subst e'
     refine ih m _ _ (by simp [hsz]) (fun r hr => hmem r (dropT_mem.1 hr).1) (fun j hj => ?_) ?_ h' k'
     ·by_cases hji : j = p.1
      ·subst hji
       have : p.1 < listed.size := by omega
       constructor
       ·intro hc; simp [this] at hc
       ·intro hc
        obtain ⟨r, hr, e⟩ := List.mem_map.1 hc
        exact absurd e (dropT_mem.1 hr).2
      ·rw [getD_set_ne true (fun h => hji h.symm), hun j hj]
       constructor
       ·intro hm
        obtain ⟨r, hr, e⟩ := List.mem_map.1 hm
        exact List.mem_map.2 ⟨r, dropT_mem.2 ⟨hr, by rw [e]; exact hji⟩, e⟩
       ·intro hm
        obtain ⟨r, hr, e⟩ := List.mem_map.1 hm
        exact List.mem_map.2 ⟨r, (dropT_mem.1 hr).1, e⟩
     ·have hp1 : p.1 < listed.toList.length := by simp; omega
      have hlf : listed.toList[p.1] = false := by
       have hp2 : p.1 < listed.size := by omega
       simpa [hp2] using h1
      simp only [Array.set!_eq_setIfInBounds, Array.toList_setIfInBounds]
      rw [List.count_set hp1, hlf, hc]
      simp
def idxX : Nat → List (Ins × List Nat) → List OpT
 | _, [] => []
 | k, p :: l => (k, p) :: idxX (k + 1) l
theorem idxX_mem {l : List (Ins × List Nat)} : ∀ {k : Nat} {p : OpT}, p ∈ idxX k l → k ≤ p.1 ∧ l[p.1 - k]? = some p.2 := by
 induction l with
 | nil => intro k p h; simp [idxX] at h
 | cons e l ih =>
  intro k p h
  rcases List.mem_cons.1 h with rfl | h
  ·simp
  ·obtain ⟨h1, h2⟩ := ih h
   refine ⟨by omega, ?_⟩
   rw [show p.1 - k = (p.1 - (k + 1)) + 1 by omega]
   simpa using h2
theorem idxX_fst {l : List (Ins × List Nat)} : ∀ {k j : Nat}, j ∈ (idxX k l).map (·.1) ↔ k ≤ j ∧ j < k + l.length := by
 induction l with
 | nil => intro k j; simp [idxX]
 | cons e l ih =>
  intro k j
  simp only [idxX, List.map_cons, List.mem_cons, ih, List.length_cons]
  omega
theorem execs_tiny {G : Gl} {id : Nat} {ops : Array Oper} {l : List (Ins × List Nat)} {Q : Exit → Act → World → Prop} {K : St → Prop} (hm : P.follows .mixedOrders = true) (hl : ops.size = l.length)
  (htr : ∀ (k : Nat) p, l[k]? = some p → ∃ o, ops[k]? = some o ∧ TrI P ops o p.1 ∧ edgesB o k p.2 = true) (hQ : ∀ s X a, Rel G X s a → K s → Q .normal a X.w) {s : St} {X : Cx} {a : Act} (h : Rel G X s a)
  (hK : anyT P (l.length + 1) (idxX 0 l) s K) : (Code.region id ops true).wp P Q a X.w := by
 refine wp_region_any hm ?_
 have hX : Rel G { X with w := { X.w with drawn := X.w.drawn + 1 } } s a := by
  have hcell : ∀ b o, World.cell? { X.w with drawn := X.w.drawn + 1 } ⟨b, o, none⟩ = X.w.cell? ⟨b, o, none⟩ := fun b o => World.cell?_of_block rfl
  refine h.change (fun _ => True) (fun _ _ h => h) ⟨fun b o v hM hc => ⟨(hcell b o).trans hc, hM⟩, fun g L hg _ _ => ⟨hg, rfl, fun _ h => h⟩, rfl, fun _ => .of rfl⟩ (fun i d hd => .inl ⟨trivial, fun _ _ => rfl⟩)
   (fun k bx hk => .inl ⟨trivial, fun _ _ => trivial, rfl, fun _ _ _ _ _ _ => rfl⟩) ⟨rfl, rfl, rfl, Nat.le_refl _, fun _ _ => rfl⟩ (fun b _ o => Iff.rfl)
 refine anyT_ok (X := { X with w := { X.w with drawn := X.w.drawn + 1 } }) hl htr hQ ops.size (l.length + 1) (idxX 0 l) _ (by simp) (fun p hp => by simpa using (idxX_mem hp).2) (fun j hj => ?_) (by simp) hX hK
 rw [idxX_fst]
 simp [hj, ← hl]
end Go.Proofs.YtoepoghmeajocaaGreatDoor.Vc
namespace Go.Proofs.YtoepoghmeajocaaGreatDoor.Vc
open Go.RowKit
variable {P : Program}
def zeroB : List DV → Bool
 | [] => true
 | .p _ :: ds | .ow _ _ _ :: ds | .top :: ds => zeroB ds
 | _ => false
theorem zeroB_ok {k : Nat} : ∀ {ds : List DV}, zeroB ds = true → ∀ d, d ∈ ds → d.ment k = false
 | [], _, d, hd => by simp at hd
 | .p x :: ds, h, d, hd => by
  rcases List.mem_cons.1 hd with hd | hd
  ·subst hd; rfl
  ·exact zeroB_ok (by simpa [zeroB] using h) d hd
 | .ow a b c :: ds, h, d, hd => by
  rcases List.mem_cons.1 hd with hd | hd
  ·subst hd; rfl
  ·exact zeroB_ok (by simpa [zeroB] using h) d hd
 | .top :: ds, h, d, hd => by
  rcases List.mem_cons.1 hd with hd | hd
  ·subst hd; rfl
  ·exact zeroB_ok (by simpa [zeroB] using h) d hd
 | .tup _ :: _, h, _, _ => by simp [zeroB] at h
 | .addr _ _ _ _ :: _, h, _, _ => by simp [zeroB] at h
 | .bs _ _ _ _ _ :: _, h, _, _ => by simp [zeroB] at h
 | .fn _ _ :: _, h, _, _ => by simp [zeroB] at h
structure Al (i : Ins) (k size d : Nat) (zero : List DV) : Prop where
 k : i.k = .alloc k size zero
 g : i.g = none
 x : i.xs = []
 d : i.d = some d
 z : zeroB zero = true
def alB (i : Ins) : Option (Nat × Nat × Nat × List DV) :=
 match i with
 | ⟨some d, none, .alloc k size zero, []⟩ => if zeroB zero then some (k, size, d, zero) else none
 | _ => none
theorem alB_ok {i : Ins} {k size d : Nat} {zero : List DV} (h : alB i = some (k, size, d, zero)) : Al i k size d zero := by
 unfold alB at h
 split at h
 ·split at h
  ·rename_i hz
   simp at h
   obtain ⟨rfl, rfl, rfl, rfl⟩ := h
   exact ⟨rfl, rfl, rfl, rfl, hz⟩
  ·cases h
 ·cases h
def okI (i : Ins) : Bool := (alB i).isSome || tame i
def indepA (p i : Ins) : Bool :=
 match alB p, alB i with
 | none, none => indep p i
 | some (_, _, d, _), none => !(looks i).contains d && i.d != some d
 | none, some (_, _, d, _) => !(looks p).contains d && p.d != some d
 | some (k, _, d, _), some (k', _, d', _) => k != k' && d != d'
structure InvA (l : List Ins) (s : St) : Prop where
 ok : ∀ i, i ∈ l → okI i = true
 dis : (l.filterMap fun i => (alB i).map (·.1)).Nodup
 no : ∀ i, i ∈ l → ∀ k size d zero, alB i = some (k, size, d, zero) → NoK k s ∧ k < s.b.length
theorem tame_of {i : Ins} (h : okI i = true) (ha : alB i = none) : tame i = true := by simpa [okI, ha] using h
theorem tame_iff {i : Ins} (h : tame i = true) {s : St} {K : St → Prop} : execG P i s K ↔ ∃ s', StepK P i s s' ∧ K s' := by
 simp only [tame, Bool.and_eq_true, Option.isNone_iff_eq_none] at h
 rw [execG_iff h.2.1 h.2.2.1]
 exact ⟨fun ⟨s', a, b⟩ => ⟨s', stepI_iff.1 a, b⟩, fun ⟨s', a, b⟩ => ⟨s', stepI_iff.2 a, b⟩⟩
theorem al_iff {i : Ins} {k size d : Nat} {zero : List DV} (h : Al i k size d zero) {s : St} (hN : NoK k s) (hlt : k < s.b.length) {K : St → Prop} : execG P i s K ↔ (zero.length = size ∧ K (al k size d zero s)) :=
 execG_al h.k h.g h.x h.d hN hlt
theorem InvA.step {x : Ins} {l1 l2 : List Ins} {s : St} {K : St → Prop} (hI : InvA (l1 ++ x :: l2) s) (h : execG P x s K) : execG P x s (fun s' => K s' ∧ InvA (l1 ++ l2) s') := by
 have hx : x ∈ l1 ++ x :: l2 := by simp
 have hsub : ∀ i, i ∈ l1 ++ l2 → i ∈ l1 ++ x :: l2 := by
  intro i hi
  rcases List.mem_append.1 hi with hi | hi
  ·simp [hi]
  ·simp [hi]
 have hdis : ((l1 ++ l2).filterMap fun i => (alB i).map (·.1)).Nodup := by
  refine hI.dis.sublist (List.Sublist.filterMap _ ?_)
  exact List.Sublist.append (List.Sublist.refl _) (List.sublist_cons_self _ _)
 cases ha : alB x with
 | none =>
  have ht := tame_of (hI.ok x hx) ha
  obtain ⟨s', h1, h2⟩ := (tame_iff ht).1 h
  refine (tame_iff ht).2 ⟨s', h1, h2, fun i hi => hI.ok i (hsub i hi), hdis, fun i hi k size d zero hk => ?_⟩
  obtain ⟨n1, n2⟩ := hI.no i (hsub i hi) k size d zero hk
  obtain ⟨m1, m2⟩ := n1.step ht h1
  exact ⟨m1, by rw [m2]; exact n2⟩
 | some q =>
  obtain ⟨k, size, d, zero⟩ := q
  have hA := alB_ok ha
  obtain ⟨n1, n2⟩ := hI.no x hx k size d zero ha
  rw [al_iff hA n1 n2] at h ⊢
  refine ⟨h.1, h.2, fun i hi => hI.ok i (hsub i hi), hdis, fun i hi k' size' d' zero' hk => ?_⟩
  obtain ⟨m1, m2⟩ := hI.no i (hsub i hi) k' size' d' zero' hk
  have hne : k ≠ k' := by
   intro e
   subst e
   have hd := hI.dis
   rw [List.filterMap_append, List.filterMap_cons, ha] at hd
   simp only [Option.map_some] at hd
   rw [List.nodup_append] at hd
   rcases List.mem_append.1 hi with hi | hi
   ·exact hd.2.2 k (List.mem_filterMap.2 ⟨i, hi, by rw [hk]; rfl⟩) k (by simp) rfl
   ·exact (List.nodup_cons.1 hd.2.1).1 (List.mem_filterMap.2 ⟨i, hi, by rw [hk]; rfl⟩)
  exact ⟨m1.al hne (zeroB_ok hA.z), by simp [al, setL_length]; exact m2⟩
theorem swapA {p i : Ins} (h : indepA p i = true) {l1 l2 l3 : List Ins} {s : St} {K : St → Prop} (hI : InvA (l1 ++ p :: (l2 ++ i :: l3)) s) (hx : execG P p s (fun s => execG P i s K)) : execG P i s (fun s => execG P p s K) := by
 have mp : p ∈ l1 ++ p :: (l2 ++ i :: l3) := by simp
 have mi : i ∈ l1 ++ p :: (l2 ++ i :: l3) := by simp
 unfold indepA at h
 cases hp : alB p with
 | none =>
  have tp := tame_of (hI.ok p mp) hp
  cases hi : alB i with
  | none => rw [hp, hi] at h; exact swap h hx
  | some q =>
   obtain ⟨k, size, d, zero⟩ := q
   rw [hp, hi] at h
   simp only [Bool.and_eq_true, Bool.not_eq_true', bne_iff_ne, ne_eq] at h
   have hA := alB_ok hi
   obtain ⟨n1, n2⟩ := hI.no i mi k size d zero hi
   obtain ⟨s1, h1, h2⟩ := (tame_iff tp).1 hx
   obtain ⟨m1, m2⟩ := n1.step tp h1
   rw [al_iff hA m1 (by rw [m2]; exact n2)] at h2
   rw [al_iff hA n1 n2]
   exact ⟨h2.1, (tame_iff tp).2 ⟨_, al_right tp (by simpa using h.1) h.2 n1 h1, h2.2⟩⟩
 | some q =>
  obtain ⟨k, size, d, zero⟩ := q
  have hA := alB_ok hp
  obtain ⟨n1, n2⟩ := hI.no p mp k size d zero hp
  rw [al_iff hA n1 n2] at hx
  cases hi : alB i with
  | none =>
   have ti := tame_of (hI.ok i mi) hi
   rw [hp, hi] at h
   simp only [Bool.and_eq_true, Bool.not_eq_true', bne_iff_ne, ne_eq] at h
   obtain ⟨s2, h1, h2⟩ := (tame_iff ti).1 hx.2
   obtain ⟨s', h3, h4⟩ := al_left ti (by simpa using h.1) h.2 n1 h1
   subst h4
   obtain ⟨m1, m2⟩ := n1.step ti h3
   refine (tame_iff ti).2 ⟨s', h3, ?_⟩
   rw [al_iff hA m1 (by rw [m2]; exact n2)]
   exact ⟨hx.1, h2⟩
  | some q' =>
   obtain ⟨k', size', d', zero'⟩ := q'
   have hA' := alB_ok hi
   rw [hp, hi] at h
   simp only [Bool.and_eq_true, bne_iff_ne, ne_eq] at h
   obtain ⟨n1', n2'⟩ := hI.no i mi k' size' d' zero' hi
   have hx2 := hx.2
   rw [al_iff hA' (n1'.al h.1 (zeroB_ok hA.z)) (by simp [al, setL_length]; exact n2')] at hx2
   rw [al_iff hA' n1' n2']
   refine ⟨hx2.1, ?_⟩
   rw [al_iff hA (n1.al (fun e => h.1 e.symm) (zeroB_ok hA'.z)) (by simp [al, setL_length]; exact n2)]
   refine ⟨hx.1, ?_⟩
   rw [al_al h.1 h.2]; exact hx2.2
theorem swapFrontA {i : Ins} {K : St → Prop} {post : List Ins} : ∀ {pre : List Ins}, (∀ j, j ∈ pre → indepA j i = true) → ∀ {s : St}, InvA (pre ++ i :: post) s → execs P (pre ++ i :: post) s K → execG P i s (fun s => execs P (pre ++ post) s K)
 | [], _, _, _, h => h
 | p :: pre, hp, s, hI, h => by
  have h0 : execG P p s (fun s' => execs P (pre ++ i :: post) s' K ∧ InvA (pre ++ i :: post) s') := InvA.step (l1 := []) hI h
  have h1 : execG P p s (fun s' => execG P i s' (fun s'' => execs P (pre ++ post) s'' K)) :=
   execG_mono (fun s' hs' => swapFrontA (fun j hj => hp j (List.mem_cons_of_mem _ hj)) hs'.2 hs'.1) h0
  exact swapA (l1 := []) (hp p List.mem_cons_self) hI h1
theorem execs_drawA {G : Gl} {id : Nat} {ops : Array Oper} {is : List Ins} {Q : Exit → Act → World → Prop} {K : St → Prop} (hm : P.follows .mixedOrders = true) (hl : ops.size = is.length)
  (htr : ∀ (k : Nat) i, is[k]? = some i → ∃ o, ops[k]? = some o ∧ TrI P ops o i) (hp : pairsW indepA ops is = true) (hQ : ∀ s X a, Rel G X s a → K s → Q .normal a X.w) {s : St} {X : Cx} {a : Act} (h : Rel G X s a) (hI : InvA is s) (hK : execs P is s K) :
  (Code.region id ops true).wp P Q a X.w :=
 execs_drawW (ind := indepA) (Inv := InvA) (fun _ _ _ _ hind hI hK => hI.step (swapFrontA hind hI hK)) hm hl htr hp hQ h hI hK
def invB (is : List Ins) (s : St) : Bool :=
 is.all fun i => match alB i with
  | some (k, _, _, _) => decide (k < s.b.length) && (noRefT k s.t && noRefB k 0 s.b)
  | none => true
def stB (is : List Ins) : Bool := is.all okI && decide (is.filterMap fun i => (alB i).map (·.1)).Nodup
theorem invA_of {is : List Ins} {s : St} (h1 : stB is = true) (h2 : invB is s = true) : InvA is s := by
 simp only [stB, Bool.and_eq_true, decide_eq_true_eq, List.all_eq_true] at h1
 refine ⟨h1.1, h1.2, fun i hi k size d zero hk => ?_⟩
 have := List.all_eq_true.1 h2 i hi
 rw [hk] at this
 simp only [Bool.and_eq_true, decide_eq_true_eq] at this
 obtain ⟨t1, t2, t3⟩ := this
 refine ⟨⟨noRefT_iff.1 t2, fun j bx hj hne r hr x hx => ?_⟩, t1⟩
 exact noRefR_iff.1 (noRefB_iff.1 t3 j bx hj (by simpa using hne)) r hr x hx
end Go.Proofs.YtoepoghmeajocaaGreatDoor.Vc
namespace Go.Proofs.YtoepoghmeajocaaGreatDoor.Vc
open Go.RowKit
variable {P : Program}
inductive C where
 | stuck
 | skip
 | reg (ops : List Ins)
 | regd (ops : List Ins)
 | rega (ops : List Ins)
 | seq (a b : C)
 | cond (c : O) (a b : C)
 | block (id : Nat) (c : C)
 | loop (fs ds : List Nat) (c : C)
 | exit (id : Nat)
 | ret
 | pre (fs zs ds : List Nat) (c : C)
 | own (i k : Nat) (ag : Bool) (c : C)
 | regx (ops : List (Ins × List Nat))
def forget (t : List DV) : List Nat → List DV
 | [] => t
 | n :: ns => forget (setL t n .top) ns
def dropB (b : List (Option Box)) : List Nat → List (Option Box)
 | [] => b
 | k :: ks => dropB (setL b k none) ks
def fixB (b : List (Option Box)) (zs : List Nat) (K : List (Option Box) → Prop) : Prop :=
 match zs with
 | [] => K b
 | k :: ks => match getB b k with
  | some bx => allPR (copiesR bx.rows) = true ∧ fixB (setL b k (some ⟨false, bx.size, copiesR bx.rows, bx.old⟩)) ks K
  | none => fixB b ks K
def PV.scal : PV → Bool
 | .int _ _ | .bool _ | .str _ => true
 | .fn _ [] => true
 | _ => false
def DV.scal : DV → Bool
 | .top | .tup [] | .addr _ _ _ _ | .bs _ _ _ _ _ => true
 | .p x => x.scal
 | .fn _ caps => caps.all fun | .addr _ _ _ _ => true | .p x => x.scal
 | _ => false
def scalT (i : Nat) : Nat → List DV → Bool
 | _, [] => true
 | j, d :: ds => (j == i || d.scal) && scalT i (j + 1) ds
def scalR : List (List DV) → Bool
 | [] => true
 | r :: rs => r.all DV.scal && scalR rs
def scalB (k : Nat) : Nat → List (Option Box) → Bool
 | _, [] => true
 | j, x :: xs => (j == k || match x with | some bx => scalR bx.rows | none => true) && scalB k (j + 1) xs
def ownRows : List PV → List (List DV)
 | [] => []
 | x :: xs => (rowCells x).map DV.p :: ownRows xs
def iter (f : St → (St → Prop) → Prop) : Nat → St → Prop
 | 0, _ => False
 | n + 1, s => f s (iter f n)
def vc (P : Program) : C → St → (St → Prop) → (Nat → St → Prop) → (St → Prop) → Prop
 | .stuck, _, _, _, _ => False
 | .skip, s, n, _, _ => n s
 | .reg ops, s, n, _, _ => execs P ops s n
 | .regd ops, s, n, _, _ => execs P ops s n
 | .rega ops, s, n, _, _ => invB ops s = true ∧ execs P ops s n
 | .seq a b, s, n, x, r => vc P a s (fun s' => vc P b s' n x r) x r
 | .cond c a b, s, n, x, r => match c, c.val s.t with
  | .t j, .p (.bool t) => (t = true → vc P a ⟨setL s.t j (.p (.bool true)), s.b⟩ n x r) ∧ (t = false → vc P b ⟨setL s.t j (.p (.bool false)), s.b⟩ n x r)
  | .c _, .p (.bool t) => (t = true → vc P a s n x r) ∧ (t = false → vc P b s n x r)
  | _, _ => False
 | .block id c, s, n, x, r => vc P c s n (fun j s' => if j = id then n s' else x j s') r
 | .loop fs ds c, s, _, x, r => ∃ k, iter (fun s' N => vc P c s' (fun s2 => N ⟨forget s2.t fs, dropB s2.b ds⟩) x r) k ⟨forget s.t fs, dropB s.b ds⟩
 | .exit id, s, _, x, _ => x id s
 | .ret, s, _, _, r => r s
 | .pre fs zs ds c, s, n, x, r => fixB s.b zs fun b => vc P c ⟨forget s.t fs, dropB b ds⟩ n x r
 | .own i k ag c, s, n, x, r => match getT s.t i with
  | .ow size _ rows => (decide (size ≠ 0) && (decide (k < s.b.length) && (noRefT k s.t && (noRefB k 0 s.b && (scalT i 0 s.t && scalB k 0 s.b))))) = true ∧ rows ≠ [] ∧ scalR (ownRows rows) = true ∧ vc P c ⟨setL s.t i (.bs k size ag 0 rows.length), setL s.b k (some ⟨true, size, ownRows rows, false⟩)⟩ n x r
  | _ => False
 | .regx ops, s, n, _, _ => anyT P (ops.length + 1) (idxX 0 ops) s n
inductive TrC (P : Program) : C → Code → Prop
 | stuck (x : Code) : TrC P .stuck x
 | skip : TrC P .skip .skip
 | reg (id : Nat) (ops : Array Oper) (is : List Ins) (hl : ops.size = is.length) (h : ∀ (k : Nat) i, is[k]? = some i → ∃ o, ops[k]? = some o ∧ TrI P ops o i) : TrC P (.reg is) (.region id ops false)
 | regd (id : Nat) (ops : Array Oper) (is : List Ins) (hm : P.follows .mixedOrders = true) (hl : ops.size = is.length) (h : ∀ (k : Nat) i, is[k]? = some i → ∃ o, ops[k]? = some o ∧ TrI P ops o i) (hp : pairsB ops is = true) : TrC P (.regd is) (.region id ops true)
 | rega (id : Nat) (ops : Array Oper) (is : List Ins) (hm : P.follows .mixedOrders = true) (hl : ops.size = is.length) (h : ∀ (k : Nat) i, is[k]? = some i → ∃ o, ops[k]? = some o ∧ TrI P ops o i) (hs : stB is = true) (hp : pairsW indepA ops is = true) : TrC P (.rega is) (.region id ops true)
 | seq (a b : C) (x y : Code) (ha : TrC P a x) (hb : TrC P b y) : TrC P (.seq a b) (.seq x y)
 | cond (o : O) (c : Operand) (a b : C) (x y : Code) (ho : OT c o) (ha : TrC P a x) (hb : TrC P b y) : TrC P (.cond o a b) (.cond c x y)
 | block (id : Nat) (a : C) (x : Code) (ha : TrC P a x) : TrC P (.block id a) (.block id x)
 | loop (fs ds : List Nat) (a : C) (x : Code) (ha : TrC P a x) : TrC P (.loop fs ds a) (.loop x)
 | exit (id : Nat) : TrC P (.exit id) (.exit id)
 | ret : TrC P .ret .ret
 | pre (fs zs ds : List Nat) (a : C) (x : Code) (ha : TrC P a x) : TrC P (.pre fs zs ds a) x
 | own (i k : Nat) (ag : Bool) (a : C) (x : Code) (ha : TrC P a x) : TrC P (.own i k ag a) x
 | regx (id : Nat) (ops : Array Oper) (l : List (Ins × List Nat)) (hm : P.follows .mixedOrders = true) (hl : ops.size = l.length) (h : ∀ (k : Nat) p, l[k]? = some p → ∃ o, ops[k]? = some o ∧ TrI P ops o p.1 ∧ edgesB o k p.2 = true) : TrC P (.regx l) (.region id ops true)
def QOf (G : Gl) (n : St → Prop) (x : Nat → St → Prop) (r : St → Prop) : Exit → Act → World → Prop
 | .normal, a, w => Post G n a w
 | .exit j, a, w => Post G (x j) a w
 | .ret, a, w => Post G r a w
 | _, _, _ => False
theorem Rel.forget {G : Gl} {X : Cx} {a : Act} (fs : List Nat) : ∀ {t : List DV} {b : List (Option Box)}, Rel G X ⟨t, b⟩ a → Rel G X ⟨Vc.forget t fs, b⟩ a := by
 induction fs with
 | nil => exact fun h => h
 | cons f fs ih => exact fun h => ih (h.weak f .top trivial)
theorem Rel.dropB {G : Gl} {X : Cx} {a : Act} (ds : List Nat) : ∀ {t : List DV} {b : List (Option Box)}, Rel G X ⟨t, b⟩ a → Rel G X ⟨t, Vc.dropB b ds⟩ a := by
 induction ds with
 | nil => exact fun h => h
 | cons k ks ih =>
  intro t b h
  refine ih (b := setL b k none) ⟨h.defers, h.size, h.tmps, fun j bx hj => ?_, h.below, h.hb, h.mold⟩
  simp only [getElem?_setL] at hj
  split at hj
  ·cases hb : b[j]? <;> rw [hb] at hj <;> simp at hj
  ·exact h.boxes j bx hj
theorem copiesR_eq (rs : List (List DV)) : copiesR rs = rs.map copies := by induction rs with | nil => rfl | cons r rs ih => simp [copiesR, ih]
theorem Rel.fix {G : Gl} {X : Cx} {t : List DV} {b : List (Option Box)} {a : Act} (h : Rel G X ⟨t, b⟩ a) {k : Nat} {bx : Box} (hk : getB b k = some bx) (hp : allPR (copiesR bx.rows) = true) :
  ∃ X', X'.w = X.w ∧ Rel G X' ⟨t, setL b k (some ⟨false, bx.size, copiesR bx.rows, bx.old⟩)⟩ a := by
 obtain ⟨blk, cs, ty, hb⟩ := h.cbox (getB_some hk) (getB_ne hk)
 generalize hX : ({ X with M := fun c o => X.M c o ∧ c ≠ blk } : Cx) = X'
 have eM : ∀ c o, X'.M c o ↔ X.M c o ∧ c ≠ blk := by subst hX; exact fun _ _ => Iff.rfl
 have ew : X'.w = X.w := by subst hX; rfl
 have eo : X'.own = X.own := by subst hX; rfl
 have eρ : X'.ρ = X.ρ := by subst hX; rfl
 have eex : X'.ex = X.ex := by subst hX; rfl
 have hev : Ev (fun L => L ≠ .box k) X X' := by
  refine ⟨fun c o v hM hc => ⟨by rw [ew]; exact hc, fun h => hM ((eM c o).1 h).1⟩, fun g L hg hS _ => ⟨by rw [eo]; exact hg, by rw [ew], fun o hM => (eM g o).2 ⟨hM, fun e => ?_⟩⟩, eex, fun g => by rw [ew]; exact .refl _ _⟩
  subst e
  rw [hb.own] at hg
  injection hg with hg
  exact hS hg.symm
 refine ⟨X', ew, h.defers, h.size, fun i d hd => (h.tmps i d hd).mono (fun _ _ _ h => by cases h) hev (by simp) fun _ _ => by rw [eρ], ?_, by rw [ew]; exact h.below, by rw [ew]; exact h.hb, eex.trans h.mold.1, fun c hc hx o => ?_⟩
 ·intro j bx' hj
  rcases setB_get hj with ⟨rfl, rfl⟩ | ⟨hne, hj⟩
  ·refine BX.cell (blk := blk) (cs := cs) (ty := ty) (show bx.size ≠ 0 from getB_ne hk) ⟨by rw [eρ]; exact hb.ρ, by rw [eo]; exact hb.own, by rw [eex]; exact hb.hbase, by rw [ew]; exact hb.heap, by simpa [copiesR_eq] using hb.size, ?_, ?_, (fun hl => by cases hl), fun _ => ⟨fun o _ hM => ((eM blk o).1 hM).2 rfl, fun row hrow d hd => allP_get (allPR_get hp hrow) hd⟩⟩
   ·intro row hrow
    rw [copiesR_eq] at hrow
    obtain ⟨row0, hr0, rfl⟩ := List.mem_map.1 hrow
    rw [copies_eq, List.length_map]
    exact hb.width row0 hr0
   ·intro r o row d u hrow hd hu
    rw [copiesR_eq, List.getElem?_map] at hrow
    cases hr0 : bx.rows[r]? with
    | none => rw [hr0] at hrow; simp at hrow
    | some row0 =>
     rw [hr0] at hrow
     simp at hrow
     subst hrow
     rw [copies_eq, List.getElem?_map] at hd
     cases hd0 : row0[o]? with
     | none => rw [hd0] at hd; simp at hd
     | some d0 =>
      rw [hd0] at hd
      simp at hd
      subst hd
      obtain ⟨f1, f2⟩ := hb.cells r o row0 d0 u hr0 hd0 hu
      exact ⟨(f1.copy (.cell j r o)).mono (fun _ _ _ h => by cases h) hev (by simp) fun _ _ => by rw [eρ], f2⟩
  ·exact (h.boxes j bx' hj).mono (fun _ _ _ h => by cases h) hev (by simp [hne]) (fun _ _ => by simp) (by rw [eρ]) fun _ _ _ _ _ _ => by rw [eρ]
 ·rw [eM]
  exact ⟨fun h' => (h.mold.2 c hc hx o).1 h'.1, fun h' => ⟨(h.mold.2 c hc hx o).2 h', fun e => by subst e; exact hb.hbase.1.elim (fun h => by omega) (fun ⟨j', h'⟩ => hx _ (by rw [← h.mold.1]; exact h'))⟩⟩
theorem Rel.fixes {G : Gl} {a : Act} {K : List (Option Box) → Prop} (zs : List Nat) : ∀ {X : Cx} {t : List DV} {b : List (Option Box)}, Rel G X ⟨t, b⟩ a → fixB b zs K → ∃ X' b', X'.w = X.w ∧ Rel G X' ⟨t, b'⟩ a ∧ K b' := by
 induction zs with
 | nil => exact fun {X t b} h hK => ⟨X, b, rfl, h, hK⟩
 | cons k ks ih =>
  intro X t b h hK
  simp only [fixB] at hK
  cases hb : getB b k with
  | none => simp only [hb] at hK; exact ih h hK
  | some bx =>
   simp only [hb] at hK
   obtain ⟨X1, e1, h1⟩ := h.fix hb hK.1
   obtain ⟨X2, b2, e2, h2, hK2⟩ := ih h1 hK.2
   exact ⟨X2, b2, e2.trans e1, h2, hK2⟩
theorem scal_any {X X' : Cx} {base : Nat} {L L' : Loc} {d : DV} (hz : ∀ g, SzAt X.w X'.w g) (hρ : ∀ k b, d.ment k = true → X.ρ k = some b → X'.ρ k = some b) (hd : d.scal = true) {v : Value} (h : VRel X base L d v) : VRel X' base L' d v := by
 have pv : ∀ {x : PV} {v : Value}, x.scal = true → Flat X.M X.w x v → Flat X'.M X'.w x v := by
  intro x v hx hf
  cases hf with
  | int k n => exact .int k n
  | bool b => exact .bool b
  | str s => exact .str s
  | fn f caps vs hl hh =>
   cases caps with
   | nil => exact .fn f [] vs hl (fun i c v hc => by simp at hc)
   | cons c cs => simp [PV.scal] at hx
  | _ => simp [PV.scal] at hx
 cases d with
 | top => trivial
 | tup ds =>
  cases ds with
  | nil => obtain ⟨vs, h1, h2, _⟩ := h; exact ⟨vs, h1, h2, fun j d u hd => by simp at hd⟩
  | cons _ _ => simp [DV.scal] at hd
 | p x => exact pv hd h
 | addr k sz r off => obtain ⟨b, h1, h2⟩ := h; exact ⟨b, hρ _ _ (by simp [DV.ment]) h1, h2⟩
 | bs k sz ag lo n => obtain ⟨b, cap, h1, h2, h3, ⟨cs, ty, h4, h5⟩, h6⟩ := h; obtain ⟨cs2, ty2, g1, g2⟩ := hz b cs ty h4; exact ⟨b, cap, hρ _ _ (by simp [DV.ment]) h1, h2, h3, ⟨cs2, ty2, g1, by rw [g2]; exact h5⟩, h6⟩
 | fn f caps =>
  obtain ⟨vs, h1, h2, h3⟩ := h
  refine ⟨vs, h1, h2, fun j c u hc hu => ?_⟩
  have hcs := List.all_eq_true.1 hd c (List.mem_of_getElem? hc)
  have := h3 j c u hc hu
  cases c with
  | p x => exact pv hcs this
  | addr k sz r off =>
   obtain ⟨b, h1, h2⟩ := this
   exact ⟨b, hρ _ _ (by simp only [DV.ment, List.any_eq_true]; exact ⟨_, List.mem_of_getElem? hc, by simp⟩) h1, h2⟩
 | _ => simp [DV.scal] at hd
theorem scalT_get {i : Nat} : ∀ {t : List DV} {j0 j : Nat} {d : DV}, scalT i j0 t = true → t[j]? = some d → j0 + j ≠ i → d.scal = true := by
 intro t
 induction t with
 | nil => intro j0 j d _ h; simp at h
 | cons e es ih =>
  intro j0 j d h hd hne
  simp only [scalT, Bool.and_eq_true, Bool.or_eq_true, beq_iff_eq] at h
  cases j with
  | zero => simp at hd; subst hd; exact h.1.resolve_left (by omega)
  | succ j => exact ih h.2 (by simpa using hd) (by omega)
theorem scalR_get {rs : List (List DV)} (h : scalR rs = true) {r : List DV} (hr : r ∈ rs) {d : DV} (hd : d ∈ r) : d.scal = true := by
 induction rs with
 | nil => simp at hr
 | cons e es ih =>
  simp only [scalR, Bool.and_eq_true, List.all_eq_true] at h
  rcases List.mem_cons.1 hr with rfl | hr
  ·exact h.1 d hd
  ·exact ih h.2 hr
theorem scalB_get {k : Nat} : ∀ {b : List (Option Box)} {j0 j : Nat} {bx : Box}, scalB k j0 b = true → b[j]? = some (some bx) → j0 + j ≠ k → scalR bx.rows = true := by
 intro t
 induction t with
 | nil => intro j0 j d _ h; simp at h
 | cons e es ih =>
  intro j0 j d h hd hne
  simp only [scalB, Bool.and_eq_true, Bool.or_eq_true, beq_iff_eq] at h
  cases j with
  | zero => simp at hd; subst hd; exact h.1.resolve_left (by omega)
  | succ j => exact ih h.2 (by simpa using hd) (by omega)
theorem ownRows_eq (rows : List PV) : ownRows rows = rows.map fun x => (rowCells x).map DV.p := by induction rows with | nil => rfl | cons x xs ih => simp [ownRows, ih]
theorem Rel.own {G : Gl} {X : Cx} {s : St} {a : Act} (h : Rel G X s a) {i k size : Nat} {nl ag : Bool} {rows : List PV} (hi : getT s.t i = .ow size nl rows)
  (hc : (decide (size ≠ 0) && (decide (k < s.b.length) && (noRefT k s.t && (noRefB k 0 s.b && (scalT i 0 s.t && scalB k 0 s.b))))) = true) (hne : rows ≠ []) (hrs : scalR (ownRows rows) = true) :
  ∃ X', X'.w = X.w ∧ Rel G X' ⟨setL s.t i (.bs k size ag 0 rows.length), setL s.b k (some ⟨true, size, ownRows rows, false⟩)⟩ a := by
 simp only [Bool.and_eq_true, decide_eq_true_eq] at hc
 obtain ⟨hsz0, hkl, hT, hB, hsT, hsB⟩ := hc
 have hv := h.get i
 rw [hi] at hv
 rcases hv with ⟨h0, _⟩ | ⟨h0, g, cap, cur, ty, g0, g1, g2, g3, g4, g5, g6⟩
 ·exact absurd h0 hne
 ·have hilt : i < s.t.length := by
   refine Nat.lt_of_not_le fun hle => ?_
   rw [getT_eq, List.getElem?_eq_none hle] at hi
   cases hi
  have hglt : g < X.w.heap.size := (Array.getElem?_eq_some_iff.1 g3).1
  generalize hX : ({ X with ρ := (fun j => if j = k then some g else X.ρ j), own := (fun q => if q = g then some (.box k) else X.own q), M := fun b o => X.M b o ∨ b = g } : Cx) = X'
  have ew : X'.w = X.w := by subst hX; rfl
  have eex : X'.ex = X.ex := by subst hX; rfl
  have eρk : X'.ρ k = some g := by subst hX; simp
  have eρ : ∀ j, j ≠ k → X'.ρ j = X.ρ j := by subst hX; intro j hj; simp [hj]
  have eog : X'.own g = some (.box k) := by subst hX; simp
  have eo : ∀ q, q ≠ g → X'.own q = X.own q := by subst hX; intro j hj; simp [hj]
  have eM : ∀ b o, X'.M b o ↔ X.M b o ∨ b = g := by subst hX; exact fun _ _ => Iff.rfl
  have hzA : ∀ g, SzAt X.w X'.w g := fun g => by rw [ew]; exact .refl _ _
  rw [g0] at g5
  have hcells : ∀ (r o : Nat) row c u, rows[r]? = some row → (rowCells row)[o]? = some c → cur[r * size + o]? = some u → Flat X.M X.w c u ∧ c.one = true ∧ (rowCells row).length = size := by
   intro r o row c u hr hcc hu
   cases g5 with
   | sl _ _ b off cap' cv hcap hmax hcv hs h1 hr' =>
    have hrl := (List.getElem?_eq_some_iff.1 hr).1
    have hol := (List.getElem?_eq_some_iff.1 hcc).1
    have hsz := hs row (List.mem_of_getElem? hr)
    have hlt : r * size + o < rows.length * size := by
     have : (r + 1) * size ≤ rows.length * size := Nat.mul_le_mul_right _ hrl
     rw [Nat.add_mul] at this; omega
    have := (hcv (r * size + o) hlt).1
    rw [Nat.zero_add, heap_cell g3, hu] at this
    injection this with this
    rw [this]
    exact ⟨hr' r o row c hr hcc, h1 row (List.mem_of_getElem? hr) c (List.mem_of_getElem? hcc), hsz⟩
   | sl0 => simp at hr
  have hrow : ∀ row, row ∈ rows → (rowCells row).length = size := by
   cases g5 with
   | sl _ _ b off cap' cv hcap hmax hcv hs h1 hr' => exact hs
   | sl0 => intro row hr; simp at hr
  have hrsc : ∀ x, x ∈ rows → ∀ c, c ∈ rowCells x → c.scal = true := fun x hx c hc => by
   rw [ownRows_eq] at hrs
   exact scalR_get hrs (List.mem_map.2 ⟨x, hx, rfl⟩) (d := .p c) (List.mem_map.2 ⟨c, hc, rfl⟩)
  have hcapm : rows.length ≤ cap ∧ cap ≤ maxLen := by
   cases g5 with
   | sl _ _ b off cap' cv hcap hmax hcv hs h1 hr' => exact ⟨hcap, hmax⟩
   | sl0 => exact ⟨Nat.zero_le _, Nat.zero_le _⟩
  refine ⟨X', ew, h.defers, by simpa [setL_length] using h.size, ?_, ?_, by rw [ew]; exact h.below, by rw [ew]; exact h.hb, eex.trans h.mold.1, fun b hb hx o => ?_⟩
  ·intro j d hd
   simp only [getElem?_setL] at hd
   split at hd
   ·rename_i e
    subst e
    rw [List.getElem?_eq_getElem hilt] at hd
    simp only [Option.map_some, Option.some.injEq] at hd
    subst hd
    exact ⟨g, cap, eρk, hcapm.1, hcapm.2, ⟨cur, ty, by rw [ew]; exact g3, by rw [g4]; simp⟩, by simpa using g0⟩
   ·rename_i hne'
    have hm := noRefT_get hT hd
    exact scal_any hzA (fun k' b hk' hb => (eρ k' (fun e => by rw [e, hm] at hk'; cases hk')).trans hb) (scalT_get hsT hd (by omega)) (h.tmps j d hd)
  ·intro j bx hj
   rcases setB_get hj with ⟨rfl, rfl⟩ | ⟨hne', hj⟩
   ·refine BX.cell (blk := g) (cs := cur) (ty := ty) hsz0 ⟨eρk, eog, ⟨.inl g2, fun h => by cases h⟩, by rw [ew]; exact g3, ?_, fun row hrow' => ?_, fun r o row d u hr hd hu => ?_, fun _ o => (eM g o).2 (.inr rfl), fun hl => by cases hl⟩
    ·rw [g4, ownRows_eq, List.length_map]; exact Nat.mul_le_mul_right _ hcapm.1
    ·simp only [ownRows_eq] at hrow'
     obtain ⟨x, hx, rfl⟩ := List.mem_map.1 hrow'
     simpa using hrow x hx
    ·simp only [ownRows_eq, List.getElem?_map] at hr
     cases hx : rows[r]? with
     | none => rw [hx] at hr; simp at hr
     | some x =>
      rw [hx] at hr
      simp only [Option.map_some, Option.some.injEq] at hr
      subst hr
      rw [List.getElem?_map] at hd
      cases hc : (rowCells x)[o]? with
      | none => rw [hc] at hd; simp at hd
      | some c =>
       rw [hc] at hd
       simp only [Option.map_some, Option.some.injEq] at hd
       subst hd
       obtain ⟨f1, f2, _⟩ := hcells r o x c u hx hc hu
       have hsc := hrsc x (List.mem_of_getElem? hx) c (List.mem_of_getElem? hc)
       exact ⟨scal_any (X := X) (base := G.base) (L := .tmp 0) (d := .p c) hzA (fun _ _ hm => by simp [DV.ment] at hm) hsc f1, Flat.oneCell f1 f2⟩
   ·have hnr := noRefB_get hB hj (by omega)
    have hsr := scalB_get hsB hj (by omega)
    have hBX := h.boxes j bx hj
    unfold BX at hBX ⊢
    split
    ·rename_i hs0
     rw [if_pos hs0] at hBX
     obtain ⟨blk, es, clock, m1, m2, m3, m4, m5, m6, m0, m7⟩ := hBX
     have hbg : blk ≠ g := fun e => by rw [e, g1] at m2; cases m2
     refine ⟨blk, es, clock, by rw [eρ j hne']; exact m1, (eo blk hbg).trans m2, by rw [eex]; exact m3, by rw [ew]; exact m4, m5, fun o => (eM blk o).2 (.inl (m6 o)), m0, fun i row e hi he => ?_⟩
     obtain ⟨q0, n0, d0, f1, f2, f3⟩ := m7 i row e hi he
     have hsc := scalR_get hsr (List.mem_of_getElem? hi) (d := d0) (by rw [f1]; simp)
     have hm := noRefR_get hnr (List.mem_of_getElem? hi) (d := d0) (by rw [f1]; simp)
     exact ⟨q0, n0, d0, f1, f2, scal_any hzA (fun k' b hk' hb => (eρ k' (fun e => by rw [e, hm] at hk'; cases hk')).trans hb) hsc f3⟩
    ·rename_i hs0
     rw [if_neg hs0] at hBX
     obtain ⟨blk, cs, ty', hb⟩ := hBX
     have hbg : blk ≠ g := fun e => by have := hb.own; rw [e, g1] at this; cases this
     refine ⟨blk, cs, ty', by rw [eρ j hne']; exact hb.ρ, (eo blk hbg).trans hb.own, by rw [eex]; exact hb.hbase, by rw [ew]; exact hb.heap, hb.size, hb.width, fun r o row d u hr hd hu => ?_, fun hl o => (eM blk o).2 (.inl (hb.live hl o)), fun hl => ?_⟩
     ·obtain ⟨f1, f2⟩ := hb.cells r o row d u hr hd hu
      have hm := noRefR_get hnr (List.mem_of_getElem? hr) (List.mem_of_getElem? hd)
      exact ⟨scal_any hzA (fun k' b hk' hb => (eρ k' (fun e => by rw [e, hm] at hk'; cases hk')).trans hb) (scalR_get hsr (List.mem_of_getElem? hr) (List.mem_of_getElem? hd)) f1, f2⟩
     ·obtain ⟨f1, f2⟩ := hb.fixed hl
      exact ⟨fun o ho hM => ((eM blk o).1 hM).elim (f1 o ho) hbg, f2⟩
  ·rw [eM]
   exact ⟨fun h' => h'.elim (h.mold.2 b hb hx o).1 (fun e => by omega), fun h' => .inl ((h.mold.2 b hb hx o).2 h')⟩
theorem vc_ok {G : Gl} {c : C} {x : Code} (ht : TrC P c x) : ∀ {n : St → Prop} {xx : Nat → St → Prop} {r : St → Prop} {s : St} {X : Cx} {a : Act}, Rel G X s a → vc P c s n xx r → x.wp P (QOf G n xx r) a X.w := by
 induction ht with
 | stuck x => exact fun {n xx r s X a} h hK => hK.elim
 | skip => exact fun {n xx r s X a} h hK => wp_skip ⟨s, X, h, rfl, hK⟩
 | reg id ops is hl htr => exact fun {n xx r s X a} h hK => execs_region hl htr (fun s X a h hk => ⟨s, X, h, rfl, hk⟩) h hK
 | regd id ops is hm hl htr hp => exact fun {n xx r s X a} h hK => execs_draw hm hl htr hp (fun s X a h hk => ⟨s, X, h, rfl, hk⟩) h hK
 | regx id ops l hm hl htr => exact fun {n xx r s X a} h hK => execs_tiny hm hl htr (fun s X a h hk => ⟨s, X, h, rfl, hk⟩) h hK
 | rega id ops is hm hl htr hs hp => exact fun {n xx r s X a} h hK => execs_drawA hm hl htr hp (fun s X a h hk => ⟨s, X, h, rfl, hk⟩) h (invA_of hs hK.1) hK.2
 | seq a b x y _ _ iha ihb =>
  intro n xx r s X a h hK
  refine wp_seq (wp_mono (iha h hK) fun e a' w' hq => ?_)
  cases e with
  | normal =>
   obtain ⟨s', X', h', e', k'⟩ := hq
   subst e'
   exact ihb h' k'
  | _ => exact hq
 | cond o c a b x y ho _ _ iha ihb =>
  intro n xx r s X a h hK
  obtain ⟨L, hv⟩ := h.opnd ho
  simp only [vc] at hK
  cases o with
  | t j =>
   simp only [O.val] at hv hK
   generalize hg : getT s.t j = dv at *
   cases dv with
   | p z =>
    cases z with
    | bool t =>
     simp only at hK
     have hb := Flat.boolv hv
     refine wp_cond_split hb (fun e => ?_) (fun e => ?_)
     ·subst e
      have hc : c = .tmp j := by cases ho; rfl
      subst hc
      exact iha (h.weak j (.p (.bool true)) hv) (hK.1 rfl)
     ·subst e
      have hc : c = .tmp j := by cases ho; rfl
      subst hc
      exact ihb (h.weak j (.p (.bool false)) hv) (hK.2 rfl)
    | _ => exact hK.elim
   | _ => exact hK.elim
  | c d =>
   simp only [O.val] at hv hK
   cases d with
   | p z =>
    cases z with
    | bool t =>
     simp only at hK
     have hb := Flat.boolv hv
     exact wp_cond_split hb (fun e => iha h (hK.1 e)) (fun e => ihb h (hK.2 e))
    | _ => exact hK.elim
   | _ => exact hK.elim
 | block id a x _ iha =>
  intro n xx r s X a h hK
  refine wp_block (wp_mono (iha h hK) fun e a' w' hq => ?_)
  cases e with
  | exit j =>
   obtain ⟨s', X', h', e', k'⟩ := hq
   simp only [Exit.inBlock]
   by_cases hj : j = id
   ·subst hj
    rw [if_pos rfl] at k' ⊢
    exact ⟨s', X', h', e', k'⟩
   ·rw [if_neg hj] at k' ⊢
    exact ⟨s', X', h', e', k'⟩
  | _ => exact hq
 | loop fs ds c x _ ih =>
  intro n xx r s X a h hK
  obtain ⟨k, hK⟩ := hK
  have h' := (h.forget fs (t := s.t) (b := s.b)).dropB ds
  refine wp_loop_rounds k ?_
  clear h
  generalize (⟨Vc.forget s.t fs, Vc.dropB s.b ds⟩ : St) = s0 at *
  induction k generalizing s0 X a with
  | zero => exact hK.elim
  | succ k ihk =>
   rw [rounds_succ]
   refine wp_mono (ih h' hK) fun e a' w' hq => ?_
   cases e with
   | normal =>
    obtain ⟨s', X', h', e', k'⟩ := hq
    subst e'
    exact ihk _ k' ((h'.forget fs (t := s'.t) (b := s'.b)).dropB ds)
   | _ => exact hq
 | exit id => exact fun {n xx r s X a} h hK => wp_exit ⟨s, X, h, rfl, hK⟩
 | ret => exact fun {n xx r s X a} h hK => wp_ret ⟨s, X, h, rfl, hK⟩
 | own i k ag c x _ iha =>
  intro n xx r s X a h hK
  simp only [vc] at hK
  generalize hg : getT s.t i = dv at *
  cases dv with
  | ow size nl rows =>
   obtain ⟨h1, h2, h3, hK⟩ := hK
   obtain ⟨X', e', h'⟩ := h.own hg h1 h2 h3
   rw [← e']
   exact iha h' hK
  | _ => exact hK.elim
 | pre fs zs ds a x _ iha =>
  intro n xx r s X a h hK
  obtain ⟨X', b', e', h', k'⟩ := Rel.fixes zs (t := s.t) (b := s.b) h hK
  rw [← e']
  exact iha ((h'.forget fs).dropB ds) k'
end Go.Proofs.YtoepoghmeajocaaGreatDoor.Vc
namespace Go.Proofs.YtoepoghmeajocaaGreatDoor.Vc
open Go.RowKit
variable {P : Program}
inductive RV where
 | tmp (t : Nat)
 | cell (t n : Nat)
def dvT (b : List (Option Box)) (K : TV → Prop) : DV → Prop
 | .p x => K (.p x)
 | .ow size n rows => K (.ow size n rows)
 | d => match d.frz b with
  | some x => K (.p x)
  | none => False
def ret1 (s : St) (K : TV → Prop) : RV → Prop
 | .tmp t => dvT s.b K (getT s.t t)
 | .cell t n => match getT s.t t with
  | .addr k sz r off => match getB s.b k with
   | some bx => sz = bx.size ∧ ∃ row, bx.rows[r]? = some row ∧ off + n ≤ row.length ∧ match pvsOf (takeD row off n) with
    | some cs => K (.p (.agg cs))
    | none => False
   | none => False
  | _ => False
def rets (s : St) : List RV → (List TV → Prop) → Prop
 | [], K => K []
 | r :: rs, K => ret1 s (fun x => rets s rs fun xs => K (x :: xs)) r
def resOf : List TV → DV
 | [x] => x.dv
 | xs => .tup xs
def St0 (n nb : Nat) (args : List PV) : St := ⟨args.map .p ++ List.replicate (n - args.length) .top, List.replicate nb none⟩
inductive RVs (P : Program) : List ResultVar → List RV → Prop
 | nil : RVs P [] []
 | tmp (t : Nat) (rs : List ResultVar) (l : List RV) (h : RVs P rs l) : RVs P (.tmp t :: rs) (.tmp t :: l)
 | cell (t n : Nat) (ty : TypeId) (rs : List ResultVar) (l : List RV) (ht : TyIs P ty n true) (h : RVs P rs l) : RVs P (.cell t ty :: rs) (.cell t n :: l)
def locOf : RV → Loc
 | .tmp t => .tmp t
 | .cell t _ => .comp (.tmp t) 0
theorem box_agg {G : Gl} {X : Cx} {s : St} {a : Act} (h : Rel G X s a) {t : TypeId} {n : Nat} (ht : TyIs P t n true) {v : Value} {k sz r off : Nat} {L0 : Loc} (rx : VRel X G.base L0 (.addr k sz r off) v)
  {bx : Box} (hbk : getB s.b k = some bx) (hsz : sz = bx.size) {row : List DV} (hr : bx.rows[r]? = some row) (hle : off + n ≤ row.length) {xs : List PV} (hp : pvsOf (takeD row off n) = some xs) :
  ∃ u, (do loadVar t (← asAddr v) : Sem Value).run P X.w = .ok u X.w ∧ Flat X.M X.w (.agg xs) u := by
 obtain ⟨blk, hρ, ev⟩ := rx
 subst hsz
 have hbk' := getB_some hbk
 obtain ⟨blk', cs, ty, hb⟩ := h.cbox hbk' (getB_ne hbk)
 have : blk' = blk := by have := hb.ρ; rw [hρ] at this; injection this with h; exact h.symm
 subst this
 obtain ⟨e1, e2⟩ := pvsOf_get hp
 have hcell : ∀ j, j < n → ∃ u, X.w.cell? ⟨blk', r * bx.size + off + j, none⟩ = some u ∧ VRel X G.base (.cell k r (off + j)) (row[off + j]?.getD .top) u ∧ u.oneCell' = true := by
  intro j hj
  obtain ⟨u, _, h2, h3, h4⟩ := hb.cell hr (i := off + j) (by omega)
  refine ⟨u, by rw [Nat.add_assoc]; exact h2, ?_, h4⟩
  rw [List.getElem?_eq_getElem (by omega)]
  exact h3
 have hf : ∃ f : Nat → Value, ∀ j, j < n → X.w.cell? ⟨blk', r * bx.size + off + j, none⟩ = some (f j) ∧ VRel X G.base (.cell k r (off + j)) (row[off + j]?.getD .top) (f j) ∧ (f j).oneCell' = true := by
  refine ⟨fun j => if hj : j < n then (hcell j hj).choose else undef, fun j hj => ?_⟩
  simp only [dif_pos hj]
  exact (hcell j hj).choose_spec
 obtain ⟨f, hf⟩ := hf
 have hlen : xs.length = n := by rw [e1, takeD_eq]; simp; omega
 have hcs : ∀ (i : Nat) c, xs[i]? = some c → i < n ∧ Flat X.M X.w c (f i) ∧ c.one = true := by
  intro i c hc
  have hin : i < n := by rw [← hlen]; exact (List.getElem?_eq_some_iff.1 hc).1
  have hd : (takeD row off n)[i]? = some (row[off + i]?.getD .top) := by
   rw [takeD_eq, List.getElem?_take, if_pos hin, List.getElem?_drop, List.getElem?_eq_getElem (by omega)]; rfl
  have hpv := e2 i _ c hd hc
  have := pv_of (hf i hin).2.1 hpv
  exact ⟨hin, this, this.one_of_cell (hf i hin).2.2⟩
 have run := run_loadCells (P := P) X.w ⟨blk', r * bx.size + off, none⟩ n f (fun j hj => by rw [Addr.add_lit]; exact (hf j hj).1)
 refine ⟨.agg ((List.range n).map f).toArray, ?_, .agg _ _ (by simp [hlen]) ?_ ?_⟩
 ·subst ev
  simp [asAddr, loadVar, ht.run_isAgg, ht.run_sizeOf, run]
 ·intro c hc
  obtain ⟨i, hi⟩ := List.getElem?_of_mem hc
  exact (hcs i c hi).2.2
 ·intro i c u hc hu
  obtain ⟨hin, h1, _⟩ := hcs i c hc
  have : u = f i := by simpa [hin, eq_comm] using hu
  subst this
  exact h1
theorem rets_ok {G : Gl} {X : Cx} {s : St} {a : Act} (h : Rel G X s a) {rs : List ResultVar} {l : List RV} (hr : RVs P rs l) : ∀ {K : List TV → Prop}, rets s l K →
  ∃ xs : List TV, ∃ vs : List Value, K xs ∧ xs.length = l.length ∧ vs.length = l.length ∧
   (∀ f : ResultVar → Sem Value, (∀ u, f (.tmp u) = pure (a.tmps.getD u undef)) → (∀ p t, f (.cell p t) = (do loadVar t (← asAddr (a.tmps.getD p undef)))) → (rs.mapM f).run P X.w = .ok vs X.w) ∧
   ∀ (j : Nat) d u rv, xs[j]? = some d → vs[j]? = some u → l[j]? = some rv → TRel X G.base (locOf rv) d u := by
 induction hr with
 | nil => exact fun {K} hK => ⟨[], [], hK, rfl, rfl, fun f _ _ => by simp, fun j d u rv hd => by simp at hd⟩
 | tmp t rs l _ ih =>
  intro K hK
  simp only [rets, ret1] at hK
  obtain ⟨hv⟩ : Nonempty (VRel X G.base (.tmp t) (getT s.t t) (a.tmps.getD t undef)) := ⟨h.get t⟩
  have key : ∃ d : TV, TRel X G.base (.tmp t) d (a.tmps.getD t undef) ∧ rets s l (fun xs => K (d :: xs)) := by
   generalize hg : getT s.t t = dv at *
   have other : ∀ {dv : DV}, VRel X G.base (.tmp t) dv (a.tmps.getD t undef) → (match dv.frz s.b with | some x => rets s l (fun xs => K (.p x :: xs)) | none => False) → ∃ d : TV, TRel X G.base (.tmp t) d (a.tmps.getD t undef) ∧ rets s l (fun xs => K (d :: xs)) := by
    intro dv hv hm
    cases hf : dv.frz s.b with
    | none => rw [hf] at hm; exact hm.elim
    | some x => rw [hf] at hm; exact ⟨.p x, frz h hv hf, hm⟩
   cases dv with
   | p x => exact ⟨.p x, hv, hK⟩
   | ow size n rows => exact ⟨.ow size n rows, hv, hK⟩
   | top => exact other hv hK
   | tup ds => exact other hv hK
   | addr k size r off => exact other hv hK
   | bs k size ag lo n => exact other hv hK
   | mh k => exact other hv hK
   | ob T => exact other hv hK
   | agd cs => exact other hv hK
   | fn f caps => exact other hv hK
  obtain ⟨d, hd, hK⟩ := key
  obtain ⟨xs, vs, k1, k2, k3, k4, k5⟩ := ih hK
  refine ⟨d :: xs, a.tmps.getD t undef :: vs, k1, by simp [k2], by simp [k3], fun f h1 h2 => by simp [List.mapM_cons, h1, k4 f h1 h2], fun j e u rv he hu hrv => ?_⟩
  cases j with
  | zero => simp only [List.getElem?_cons_zero, Option.some.injEq] at he hu hrv; subst he; subst hu; subst hrv; exact hd
  | succ j => exact k5 j e u rv (by simpa using he) (by simpa using hu) (by simpa using hrv)
 | cell t n ty rs l ht _ ih =>
  intro K hK
  simp only [rets, ret1] at hK
  have hv := h.get t
  generalize hg : getT s.t t = dv at *
  cases dv with
  | addr k sz r off =>
   simp only at hK
   cases hbk : getB s.b k with
   | none => simp [hbk] at hK
   | some bx =>
    simp only [hbk] at hK
    obtain ⟨hsz, row, hrow, hle, hK⟩ := hK
    cases hp : pvsOf (takeD row off n) with
    | none => simp [hp] at hK
    | some cs =>
     simp only [hp] at hK
     obtain ⟨u, e1, e2⟩ := box_agg h ht hv hbk hsz hrow hle hp
     obtain ⟨xs, vs, k1, k2, k3, k4, k5⟩ := ih hK
     refine ⟨.p (.agg cs) :: xs, u :: vs, k1, by simp [k2], by simp [k3], fun f h1 h2 => ?_, fun j e v rv he hu hrv => ?_⟩
     ·rw [List.mapM_cons, h2, Sem.run_bind, e1]
      simp [k4 f h1 h2]
     ·cases j with
      | zero => simp at he hu hrv; subst he; subst hu; subst hrv; exact e2
      | succ j => exact k5 j e v rv (by simpa using he) (by simpa using hu) (by simpa using hrv)
  | _ => exact hK.elim
def handOver (ls : List Loc) (X : Cx) : Cx :=
 {X with own := fun g => match X.own g with
   | some L => (ls.idxOf? L).map fun j => if ls.length = 1 then .tmp 0 else .comp (.tmp 0) j
   | none => none }
theorem idxOf?_get {ls : List Loc} (hn : ls.Nodup) {j : Nat} {L : Loc} (h : ls[j]? = some L) : ls.idxOf? L = some j := by
 induction ls generalizing j with
 | nil => simp at h
 | cons x xs ih =>
  rw [List.nodup_cons] at hn
  cases j with
  | zero => simp at h; subst h; simp [List.idxOf?_cons]
  | succ j =>
   simp at h
   have hx : x ≠ L := by intro e; subst e; exact hn.1 (List.mem_of_getElem? h)
   simp [List.idxOf?_cons, hx, ih hn.2 h]
theorem TRel.handOver {X : Cx} {base : Nat} {ls : List Loc} (hn : ls.Nodup) {j : Nat} {L : Loc} (hj : ls[j]? = some L) {d : TV} {v : Value} (h : TRel X base L d v) :
  TRel (Vc.handOver ls X) base (if ls.length = 1 then .tmp 0 else .comp (.tmp 0) j) d v := by
 cases d with
 | p x => exact h
 | ow size n rows =>
  rcases h with h | ⟨h0, g, cap, cur, ty, g0, g1, g2, g3, g4, g5, g6⟩
  ·exact .inl h
  ·refine .inr ⟨h0, g, cap, cur, ty, g0, ?_, g2, g3, g4, g5, g6⟩
   show (match X.own g with | some L => _ | none => none) = _
   rw [g1]
   simp only
   rw [idxOf?_get hn hj]; rfl
theorem dv_rel {X : Cx} {base : Nat} {L : Loc} {d : TV} {v : Value} (h : TRel X base L d v) : VRel X base L d.dv v := by cases d <;> exact h
theorem args_get {n : Nat} (args : Array Value) (i : Nat) : (args ++ Array.replicate (n - args.size) undef).getD i undef = if h : i < args.size then args[i] else undef := by
 by_cases h : i < args.size
 ·rw [dif_pos h]; simp [Array.getD, Array.getElem_append, h]; omega
 ·rw [dif_neg h]
  simp [Array.getD, Array.getElem_append, h]
theorem pure_of_vc {f : FuncId} {fn : Func} {code : Code} {c : C} {nb : Nat} {args : List PV} {r : DV} {rvs : List RV} (hf : P.funcs[f]? = some fn) (hb : fn.body = some code) (hn : fn.name ≠ "runtime.NumGoroutine")
  (ht : TrC P c code) (hr : RVs P fn.results.toList rvs) (hnd : (rvs.map locOf).Nodup) (hrp : r.plain = true)
  (hv : vc P c (St0 fn.ntmps nb args) (fun s => rets s rvs fun xs => resOf xs = r) (fun _ _ => False) (fun s => rets s rvs fun xs => resOf xs = r)) : PureCall P f args r := by
 refine ⟨hrp, fun M0 w cargs hl hc => .inl ⟨⟨fn, hf, by rw [hb]; rfl, hn⟩, ?_⟩⟩
 ·refine calls_of_wp hf hb ?_
  generalize hX : ({ ρ := fun _ => none, own := fun _ => none, M := M0, w := w, ex := fun _ => none } : Cx) = X
  have hrel : Rel ⟨w.heap.size, M0, w, fun _ => none⟩ X (St0 fn.ntmps nb args) { tmps := cargs ++ Array.replicate (fn.ntmps - cargs.size) undef, defers := [] } := by
   subst hX
   refine ⟨rfl, ?_, fun i d hd => ?_, fun k bx hk => ?_, BelowX.refl _ _ _, Nat.le_refl _, rfl, fun b _ _ o => Iff.rfl⟩
   ·simp [St0, hl]
   ·simp only [args_get]
    simp only [St0] at hd
    rw [List.getElem?_append] at hd
    simp only [List.length_map] at hd
    by_cases hi : i < args.length
    ·rw [if_pos hi, List.getElem?_map] at hd
     rw [dif_pos (by omega)]
     cases hx : args[i]? with
     | none => rw [hx] at hd; simp at hd
     | some x =>
      rw [hx] at hd
      simp at hd
      subst hd
      exact hc i x _ hx (by simp [hl, hi])
    ·rw [if_neg hi] at hd
     have := List.mem_of_getElem? hd
     simp at this
     rw [this.2]; trivial
   ·simp only [St0] at hk
    have := List.mem_of_getElem? hk
    simp at this
  have fin : ∀ a w', Post ⟨w.heap.size, M0, w, fun _ => none⟩ (fun s => rets s rvs fun xs => resOf xs = r) a w' → bodyPost P fn (fun e w' => ∃ v X, e = .returned v ∧ X.w = w' ∧ VRel X w.heap.size (.tmp 0) r v ∧ (∀ b, b < w.heap.size → ∀ o, X.M b o ↔ M0 b o) ∧ Below w.heap.size w w') .ret a w' := by
   intro a w' ⟨s, X', h', e', hK⟩
   subst e'
   obtain ⟨xs, vs, k1, k2, k3, k4, k5⟩ := rets_ok h' hr hK
   subst k1
   have hres : (results fn a.tmps).run P X'.w = .ok (if h : vs.toArray.size = 1 then vs.toArray[0] else .tuple vs.toArray) X'.w := by
    unfold results
    rw [← Array.toArray_toList (xs := fn.results), List.mapM_toArray]
    simp only [Sem.run_bind, Sem.run_map]
    rw [k4 _ (fun _ => rfl) (fun _ _ => rfl)]
    rfl
   refine ⟨h'.defers, _, hres, _, handOver (rvs.map locOf) X', rfl, rfl, ?_, fun b hb o => h'.mold.2 b hb (fun _ h => by cases h) o, h'.below.below fun _ => rfl⟩
   have hloc : ∀ (j : Nat) d u, xs[j]? = some d → vs[j]? = some u → TRel (handOver (rvs.map locOf) X') w.heap.size (if (rvs.map locOf).length = 1 then .tmp 0 else .comp (.tmp 0) j) d u := by
    intro j d u hd hu
    have hj : j < rvs.length := by rw [← k2]; exact (List.getElem?_eq_some_iff.1 hd).1
    have hrv : rvs[j]? = some rvs[j] := by simp [hj]
    exact TRel.handOver hnd (j := j) (by rw [List.getElem?_map, hrv]; rfl) (k5 j d u _ hd hu hrv)
   match xs, vs, k2, k3, hloc with
   | [x], [v], k2, k3, hloc =>
    have := hloc 0 x v rfl rfl
    simp at k2
    rw [if_pos (by simp [← k2])] at this
    exact dv_rel this
   | [], [], k2, k3, hloc => exact ⟨#[], by simp, by simp, fun j d u hd => by simp at hd⟩
   | x :: y :: xs, vs, k2, k3, hloc =>
    have hvl : vs.length = xs.length + 2 := by rw [k3, ← k2]; rfl
    refine ⟨vs.toArray, by simp [hvl], by simp [hvl], fun j d u hd hu => ?_⟩
    have := hloc j d u hd (by simpa using hu)
    rw [if_neg (by simp [← k2])] at this
    exact this
   | [x], [], k2, k3, _ => simp at k2 k3; omega
   | [x], _ :: _ :: _, k2, k3, _ => simp at k2 k3; omega
   | [], _ :: _, k2, k3, _ => simp at k2 k3; omega
  have e0 : X.w = w := by subst hX; rfl
  have hwp := vc_ok ht hrel hv
  rw [e0] at hwp
  refine wp_mono hwp fun e a w' hq => ?_
  cases e with
  | normal => exact fin a w' hq
  | ret => exact fin a w' hq
  | exit j => obtain ⟨_, _, _, _, h⟩ := hq; exact h.elim
  | _ => exact hq.elim
def renD (nb : Nat) : DV → DV
 | .bs _ sz ag lo n => .bs nb sz ag lo n
 | .addr _ sz r o => .addr nb sz r o
 | d => d
def St1 (n nb : Nat) (args : List DV) (size : Nat) (rows : List (List DV)) : St :=
 ⟨args.map (renD nb) ++ List.replicate (n - args.length) .top, List.replicate nb none ++ [some ⟨true, size, rows, true⟩]⟩
def DV.arg : DV → Bool
 | .p _ => true
 | .bs k _ _ _ _ | .addr k _ _ _ => k == 0
 | _ => false
theorem mcall_of_vc {f : FuncId} {fn : Func} {code : Code} {c : C} {nb size : Nat} {args : List DV} {rows rows' : List (List DV)} {r : DV} {rvs : List RV} (hf : P.funcs[f]? = some fn) (hb : fn.body = some code) (hn : fn.name ≠ "runtime.NumGoroutine")
  (ht : TrC P c code) (hr : RVs P fn.results.toList rvs) (hnd : (rvs.map locOf).Nodup) (hrp : r.plain = true) (hrows : allPR rows = true) (hrows' : allPR rows' = true) (hargs : args.all DV.arg = true) (hsz0 : size ≠ 0)
  (hv : vc P c (St1 fn.ntmps nb args size rows) (fun s => getB s.b nb = some ⟨true, size, rows', true⟩ ∧ rets s rvs fun xs => resOf xs = r) (fun _ _ => False) (fun s => getB s.b nb = some ⟨true, size, rows', true⟩ ∧ rets s rvs fun xs => resOf xs = r)) : MCall P f size args rows rows' r := by
 refine ⟨⟨fn, hf, by rw [hb]; rfl, hn⟩, hrp, hrows', fun M0 w cargs blk cs ty hl hbx hc => ?_⟩
 ·refine calls_of_wp hf hb ?_
  have hlt : blk < w.heap.size := (Array.getElem?_eq_some_iff.1 hbx.heap).1
  generalize hX : ({ ρ := fun i => if i = nb then some blk else none, own := fun g => if g = blk then some (.box nb) else none, M := M0, w := w, ex := fun i => if i = nb then some blk else none } : Cx) = X
  have hXM : X.M = M0 := by subst hX; rfl
  have hXw : X.w = w := by subst hX; rfl
  have hXρ : X.ρ nb = some blk := by subst hX; simp
  have hpv : ∀ {L : Loc} {x : PV} {v : Value}, VRel (mcx M0 w blk) w.heap.size L (.p x) v → Flat M0 w x v := fun h => h
  have hrel : Rel ⟨w.heap.size, M0, w, fun i => if i = nb then some blk else none⟩ X (St1 fn.ntmps nb args size rows) { tmps := cargs ++ Array.replicate (fn.ntmps - cargs.size) undef, defers := [] } := by
   refine ⟨rfl, ?_, fun i d hd => ?_, fun k bx hk => ?_, by rw [hXw]; exact BelowX.refl _ _ _, by rw [hXw]; exact Nat.le_refl _, by subst hX; rfl, fun b _ _ o => by rw [hXM]⟩
   ·simp [St1, hl]
   ·simp only [args_get]
    simp only [St1] at hd
    rw [List.getElem?_append] at hd
    simp only [List.length_map] at hd
    by_cases hi : i < args.length
    ·rw [if_pos hi, List.getElem?_map] at hd
     rw [dif_pos (by omega)]
     cases hx : args[i]? with
     | none => rw [hx] at hd; simp at hd
     | some x =>
      rw [hx] at hd
      simp only [Option.map_some, Option.some.injEq] at hd
      subst hd
      have hv := hc i x cargs[i] hx (by simp [hl, hi])
      have ha := List.all_eq_true.1 hargs x (List.mem_of_getElem? hx)
      cases x with
      | p x => show Flat X.M X.w x _; rw [hXM, hXw]; exact hv
      | bs k sz ag lo n =>
       obtain ⟨b, cap, e1, e2, e3, e5, e4⟩ := hv
       simp only [DV.arg, beq_iff_eq] at ha
       subst ha
       simp only [mcx, if_pos, Option.some.injEq] at e1
       exact ⟨b, cap, by rw [hXρ, e1], e2, e3, by rw [hXw]; exact e5, e4⟩
      | addr k sz r o =>
       obtain ⟨b, e1, e2⟩ := hv
       simp only [DV.arg, beq_iff_eq] at ha
       subst ha
       simp only [mcx, if_pos, Option.some.injEq] at e1
       exact ⟨b, by rw [hXρ, e1], e2⟩
      | _ => simp [DV.arg] at ha
    ·rw [if_neg hi] at hd
     have := List.mem_of_getElem? hd
     simp at this
     rw [this.2]; trivial
   ·simp only [St1] at hk
    rw [List.getElem?_append] at hk
    split at hk
    ·have := List.mem_of_getElem? hk
     simp at this
    ·rename_i hk'
     simp only [List.length_replicate] at hk hk'
     have hk0 : k = nb := by
      have := (List.getElem?_eq_some_iff.1 hk).1
      simp at this; omega
     subst hk0
     simp only [Nat.sub_self, List.getElem?_cons_zero, Option.some.injEq] at hk
     subst hk
     refine BX.cell (blk := blk) (cs := cs) (ty := ty) hsz0 ⟨hXρ, by subst hX; simp, ⟨.inr ⟨k, by subst hX; simp⟩, fun _ => by subst hX; simp⟩, by rw [hXw]; exact hbx.heap, hbx.size, hbx.width, fun r o row d u h1 h2 h3 => ?_, fun _ o => by rw [hXM]; exact hbx.live rfl o, fun h => by cases h⟩
     obtain ⟨f1, f2⟩ := hbx.cells r o row d u h1 h2 h3
     have hdp := allP_get (allPR_get hrows (List.mem_of_getElem? h1)) (List.mem_of_getElem? h2)
     cases d with
     | p x => exact ⟨by show Flat X.M X.w x u; rw [hXM, hXw]; exact f1, f2⟩
     | _ => simp [DV.isP] at hdp
  have fin : ∀ a w', Post ⟨w.heap.size, M0, w, fun i => if i = nb then some blk else none⟩ (fun s => getB s.b nb = some ⟨true, size, rows', true⟩ ∧ rets s rvs fun xs => resOf xs = r) a w' → bodyPost P fn (fun e w' => ∃ v X cs' ty', e = .returned v ∧ X.w = w' ∧ VRel X w.heap.size (.tmp 0) r v ∧ BoxRel X w.heap.size 0 ⟨true, size, rows', true⟩ blk cs' ty' ∧
    (∀ b, b < w.heap.size → b ≠ blk → ∀ o, X.M b o ↔ M0 b o) ∧ BelowX (fun i => if i = 0 then some blk else none) w.heap.size w w') .ret a w' := by
   intro a w' ⟨s, X', h', e', hbx', hK⟩
   subst e'
   obtain ⟨xs, vs, k1, k2, k3, k4, k5⟩ := rets_ok h' hr hK
   subst k1
   have hres : (results fn a.tmps).run P X'.w = .ok (if h : vs.toArray.size = 1 then vs.toArray[0] else .tuple vs.toArray) X'.w := by
    unfold results
    rw [← Array.toArray_toList (xs := fn.results), List.mapM_toArray]
    simp only [Sem.run_bind, Sem.run_map]
    rw [k4 _ (fun _ => rfl) (fun _ _ => rfl)]
    rfl
   obtain ⟨blk', cs', ty', hb'⟩ := h'.cbox (getB_some hbx') hsz0
   have hblk : blk' = blk := by
    have h1 := hb'.hbase.2 rfl
    rw [h'.mold.1] at h1; simp only [if_pos, Option.some.injEq] at h1; exact h1.symm
   subst hblk
   generalize hY : handOver (rvs.map locOf) X' = Y
   have hYo : Y.own blk' = none := by
    subst hY
    show (match X'.own blk' with | some L => _ | none => none) = none
    rw [hb'.own]
    simp only
    have : (rvs.map locOf).idxOf? (.box nb) = none := by
     rw [List.idxOf?_eq_none_iff]
     intro hm
     obtain ⟨rv, _, e⟩ := List.mem_map.1 hm
     cases rv <;> simp [locOf] at e
    rw [this]; rfl
   have hYM : Y.M = X'.M := by subst hY; rfl
   have hYw : Y.w = X'.w := by subst hY; rfl
   generalize hZ : ({ Y with ρ := fun i => if i = 0 then some blk' else none, own := fun g => if g = blk' then some (.box 0) else Y.own g, ex := fun i => if i = 0 then some blk' else none } : Cx) = Z
   have hZM : Z.M = X'.M := by subst hZ; exact hYM
   have hZw : Z.w = X'.w := by subst hZ; exact hYw
   have hZo : ∀ g, g ≠ blk' → Z.own g = Y.own g := by subst hZ; intro g hg; simp [hg]
   refine ⟨h'.defers, _, hres, _, Z, cs', ty', rfl, hZw, ?_, ?_, fun b hb hne o => ?_, ?_⟩
   ·have trz : ∀ {L : Loc} {d : TV} {u : Value}, TRel Y w.heap.size L d u → TRel Z w.heap.size L d u := by
     intro L d u hu
     cases d with
     | p x => show Flat Z.M Z.w x u; rw [hZM, hZw, ← hYM, ← hYw]; exact hu
     | ow sz nl rws =>
      rcases hu with hu | ⟨h0, g, cap, cur, ty, g0, g1, g2, g3, g4, g5, g6⟩
      ·exact .inl hu
      ·have hgb : g ≠ blk' := fun e => by rw [e, hYo] at g1; cases g1
       exact .inr ⟨h0, g, cap, cur, ty, g0, (hZo g hgb).trans g1, g2, by rw [hZw, ← hYw]; exact g3, g4, by rw [hZM, hZw, ← hYM, ← hYw]; exact g5, fun o ho => by rw [hZM, ← hYM]; exact g6 o ho⟩
    have hloc : ∀ (j : Nat) d u, xs[j]? = some d → vs[j]? = some u → TRel Z w.heap.size (if (rvs.map locOf).length = 1 then .tmp 0 else .comp (.tmp 0) j) d u := by
     intro j d u hd hu
     have hj : j < rvs.length := by rw [← k2]; exact (List.getElem?_eq_some_iff.1 hd).1
     have hrv : rvs[j]? = some rvs[j] := by simp [hj]
     have := TRel.handOver hnd (j := j) (by rw [List.getElem?_map, hrv]; rfl) (k5 j d u _ hd hu hrv)
     rw [hY] at this
     exact trz this
    match xs, vs, k2, k3, hloc with
    | [x], [v], k2, k3, hloc =>
     have := hloc 0 x v rfl rfl
     simp at k2
     rw [if_pos (by simp [← k2])] at this
     exact dv_rel this
    | [], [], k2, k3, hloc => exact ⟨#[], by simp, by simp, fun j d u hd => by simp at hd⟩
    | x :: y :: xs, vs, k2, k3, hloc =>
     have hvl : vs.length = xs.length + 2 := by rw [k3, ← k2]; rfl
     refine ⟨vs.toArray, by simp [hvl], by simp [hvl], fun j d u hd hu => ?_⟩
     have := hloc j d u hd (by simpa using hu)
     rw [if_neg (by simp [← k2])] at this
     exact this
    | [x], [], k2, k3, _ => simp at k2 k3; omega
    | [x], _ :: _ :: _, k2, k3, _ => simp at k2 k3; omega
    | [], _ :: _, k2, k3, _ => simp at k2 k3; omega
   ·refine ⟨by subst hZ; simp, by subst hZ; simp, ⟨.inr ⟨0, by subst hZ; simp⟩, fun _ => by subst hZ; simp⟩, by rw [hZw]; exact hb'.heap, hb'.size, hb'.width, fun r o row d u h1 h2 h3 => ?_, fun _ o => by rw [hZM]; exact hb'.live rfl o, fun h => by cases h⟩
    obtain ⟨f1, f2⟩ := hb'.cells r o row d u h1 h2 h3
    have hdp := allP_get (allPR_get hrows' (List.mem_of_getElem? h1)) (List.mem_of_getElem? h2)
    cases d with
    | p x => exact ⟨by show Flat Z.M Z.w x u; rw [hZM, hZw]; exact f1, f2⟩
    | _ => simp [DV.isP] at hdp
   ·rw [hZM]
    refine h'.mold.2 b hb (fun j e => ?_) o
    simp only at e
    split at e
    ·injection e with e; exact hne e.symm
    ·cases e
   ·have hbl := h'.below
    refine ⟨hbl.os, hbl.tape, hbl.output, hbl.size, fun b hb hx => hbl.block b hb fun j e => ?_, hbl.sz⟩
    simp only at e
    split at e
    ·exact hx 0 (by simpa using e)
    ·cases e
  have hwp := vc_ok ht hrel hv
  rw [hXw] at hwp
  refine wp_mono hwp fun e a w' hq => ?_
  cases e with
  | normal => exact fin a w' hq
  | ret => exact fin a w' hq
  | exit j => obtain ⟨_, _, _, _, h⟩ := hq; exact h.elim
  | _ => exact hq.elim
end Go.Proofs.YtoepoghmeajocaaGreatDoor.Vc
namespace Go.Proofs.YtoepoghmeajocaaGreatDoor.Vc
open Go.RowKit
variable {P : Program}
def shL (nb : Nat) : Loc → Loc
 | .box i => .box (nb + i)
 | .cell i r o => .cell (nb + i) r o
 | .comp L j => .comp (shL nb L) j
 | L => L
def shX (X : Cx) (nb : Nat) : Cx :=
 {ρ := fun q => if q < nb then none else X.ρ (q - nb)
  own := fun g => (X.own g).map (shL nb)
  M := X.M
  w := X.w
  ex := fun q => if q < nb then none else X.ex (q - nb) }
theorem shX_rho (X : Cx) (nb j : Nat) : (shX X nb).ρ (nb + j) = X.ρ j := by
 show (if nb + j < nb then none else X.ρ (nb + j - nb)) = _
 rw [if_neg (by omega), show nb + j - nb = j by omega]
theorem shX_ex (X : Cx) (nb j : Nat) : (shX X nb).ex (nb + j) = X.ex j := by
 show (if nb + j < nb then none else X.ex (nb + j - nb)) = _
 rw [if_neg (by omega), show nb + j - nb = j by omega]
def shB (nb : Nat) : List Box → List (Option Box)
 | [] => []
 | bx :: l => some ⟨true, bx.size, handRs (fun i => some (nb + i)) bx.rows, true⟩ :: shB nb l
def StO (n nb : Nat) (args : List DV) (bs : List Box) : St :=
 ⟨handR (fun i => some (nb + i)) args ++ List.replicate (n - args.length) .top, List.replicate nb none ++ shB nb bs⟩
def liveO : List Box → Bool
 | [] => true
 | bx :: l => bx.live && (bx.old && liveO l)
theorem liveO_get {l : List Box} (h : liveO l = true) {bx : Box} (hb : bx ∈ l) : bx.live = true ∧ bx.old = true := by
 induction l with
 | nil => simp at hb
 | cons x xs ih =>
  simp only [liveO, Bool.and_eq_true] at h
  rcases List.mem_cons.1 hb with rfl | hb
  ·exact ⟨h.1, h.2.1⟩
  ·exact ih h.2.2 hb
theorem shB_get {nb : Nat} : ∀ {l : List Box} {i : Nat}, (shB nb l)[i]? = (l[i]?).map fun bx => some ⟨true, bx.size, handRs (fun i => some (nb + i)) bx.rows, true⟩
 | [], i => by simp [shB]
 | x :: l, 0 => by simp [shB]
 | x :: l, i + 1 => by simp only [shB, List.getElem?_cons_succ]; exact shB_get
theorem start_ok {X : Cx} {bs : List Box} (hh : Hand X bs) {nb n : Nat} {args : List DV} {cargs : Array Value} (hl : cargs.size = args.length) (hbs : liveO bs = true)
  (ha : ∀ (i : Nat) d v, args[i]? = some d → cargs[i]? = some v → VRel X X.w.heap.size (.tmp i) d v) :
  Rel ⟨X.w.heap.size, X.M, X.w, (shX X nb).ex⟩ (shX X nb) (StO n nb args bs) { tmps := cargs ++ Array.replicate (n - cargs.size) undef, defers := [] } := by
 have hown : ∀ g L L', L' = shL nb L → X.own g = some L → (X.w.heap.size ≤ g ∨ ∃ j, X.ex j = some g) → (∀ o, X.M g o) → g < X.w.heap.size → (shX X nb).own g = some L' ∧ (X.w.heap.size ≤ g ∨ ∃ j, (shX X nb).ex j = some g) ∧ ∀ o, (shX X nb).M g o := by
  intro g L L' e h1 h2 h3 _
  refine ⟨by simp [shX, h1, e], ?_, h3⟩
  rcases h2 with h2 | ⟨j, h2⟩
  ·exact .inl h2
  ·exact .inr ⟨nb + j, by rw [shX_ex]; exact h2⟩
 have hν : ∀ j j', (fun i => some (nb + i)) j = some j' → (shX X nb).ρ j' = X.ρ j := fun j j' e => by
  simp only [Option.some.injEq] at e
  subst e
  exact shX_rho X nb j
 refine ⟨rfl, ?_, fun i d hd => ?_, fun k bx hk => ?_, BelowX.refl _ _ _, Nat.le_refl _, rfl, fun b _ _ o => Iff.rfl⟩
 ·simp [StO, hl, handR_eq]
 ·simp only [args_get]
  simp only [StO, handR_eq] at hd
  rw [List.getElem?_append] at hd
  simp only [List.length_map] at hd
  by_cases hi : i < args.length
  ·rw [if_pos hi, List.getElem?_map] at hd
   rw [dif_pos (by omega)]
   cases hx : args[i]? with
   | none => rw [hx] at hd; simp at hd
   | some x =>
    rw [hx] at hd
    simp only [Option.map_some, Option.some.injEq] at hd
    subst hd
    exact VRel.tr (X := X) (X' := shX X nb) (fun L L' => L' = shL nb L) _ (fun L L' j e => by rw [e]; rfl) (Keeps.refl _ _) rfl hown (fun _ _ => rfl) hν (ha i x _ hx (by simp [hl, hi]))
  ·rw [if_neg hi] at hd
   have := List.mem_of_getElem? hd
   simp at this
   rw [this.2]; trivial
 ·simp only [StO] at hk
  rw [List.getElem?_append] at hk
  split at hk
  ·have := List.mem_of_getElem? hk
   simp at this
  ·rename_i hk'
   simp only [List.length_replicate] at hk hk'
   rw [shB_get] at hk
   cases hb : bs[k - nb]? with
   | none => rw [hb] at hk; simp at hk
   | some bx0 =>
    rw [hb] at hk
    simp only [Option.map_some, Option.some.injEq] at hk
    subst hk
    obtain ⟨h1, h2⟩ := liveO_get hbs (List.mem_of_getElem? hb)
    obtain ⟨blk0, e1, e2, e3, e4, e5, e6⟩ := BX.info (hh.boxes _ _ hb) h1
    have := BX.tr (X := X) (X' := shX X nb) (base := X.w.heap.size) (base' := X.w.heap.size) (i := k - nb) (i' := nb + (k - nb)) (bx := bx0) (fun L L' => L' = shL nb L) _ (fun L L' j e => by rw [e]; rfl) (Keeps.refl _ _) rfl hown rfl (fun _ _ => rfl)
     (shX_rho X nb _) hν true (fun _ blk hblk => by rw [shX_ex]; rw [e1] at hblk; injection hblk with hblk; subst hblk; exact e4 h2) h1 (hh.boxes _ _ hb)
    rw [show nb + (k - nb) = k by omega] at this
    exact this
def refR (b : List (Option Box)) (d : DV) : Bool := d.isRef && (d.frz b).isNone
def retsO (s : St) (rvs : List RV) (K : DV → Prop) : Prop :=
 match rvs with
 | [.tmp t] => if refR s.b (getT s.t t) = true then K (getT s.t t) else rets s [.tmp t] fun xs => K (resOf xs)
 | rvs => rets s rvs fun xs => K (resOf xs)
def rangeO : Nat → Nat → List Nat
 | _, 0 => []
 | k, m + 1 => k :: rangeO (k + 1) m
theorem rangeO_length : ∀ {m k : Nat}, (rangeO k m).length = m
 | 0, _ => rfl
 | m + 1, k => by simp [rangeO, rangeO_length]
theorem rangeO_get : ∀ {m k i : Nat}, i < m → (rangeO k m)[i]? = some (k + i)
 | m + 1, k, 0, _ => rfl
 | m + 1, k, i + 1, h => by simp only [rangeO, List.getElem?_cons_succ]; rw [rangeO_get (by omega)]; congr 1; omega
theorem rangeO_mem : ∀ {m k q : Nat}, q ∈ rangeO k m → k ≤ q ∧ q < k + m
 | m + 1, k, q, h => by
  simp only [rangeO] at h
  rcases List.mem_cons.1 h with rfl | h
  ·omega
  ·have := rangeO_mem h; omega
theorem rangeO_nodup : ∀ {m k : Nat}, (rangeO k m).Nodup
 | 0, _ => List.nodup_nil
 | m + 1, k => List.nodup_cons.2 ⟨fun h => by have := rangeO_mem h; omega, rangeO_nodup⟩
def aliveO (b : List (Option Box)) (nb m k : Nat) : Bool :=
 match getR b k with
 | some bx => bx.live && (bx.old || !(Nat.ble nb k && Nat.blt k (nb + m)))
 | none => false
def refsH (b : List (Option Box)) : List Nat → List Nat → List Nat
 | [], l => l
 | k :: ks, l => match getR b k with
  | some bx => if bx.live then (bif allPR bx.rows then refsH b ks l else refsRs bx.rows (refsH b ks l)) else refsH b ks l
  | none => refsH b ks l
def allO (b : List (Option Box)) (nb m : Nat) (r : DV) : List Nat := reachO b 4000 (refsH b (rangeO nb m) (refsD r [])) (rangeO nb m)
def nuF (b : List (Option Box)) (nb m : Nat) (all : List Nat) (k : Nat) : Option Nat := if elemN k all && aliveO b nb m k then some (numO k all 0) else none
def finB (b : List (Option Box)) (nb m : Nat) (ν : Nat → Option Nat) (k : Nat) : Option Box :=
 if aliveO b nb m k then match getR b k with
  | some bx => some ⟨true, bx.size, handRs ν bx.rows, false⟩
  | none => none
 else none
def finBs (b : List (Option Box)) (nb m : Nat) (ν : Nat → Option Nat) : List Nat → List (Option Box)
 | [] => []
 | k :: ks => finB b nb m ν k :: finBs b nb m ν ks
def finO (b : List (Option Box)) (nb m : Nat) (r : DV) : List (Option Box) × DV :=
 (finBs b nb m (nuF b nb m (allO b nb m r)) (allO b nb m r), resD (nuF b nb m (allO b nb m r)) r)
theorem finBs_get {b : List (Option Box)} {nb m : Nat} {ν : Nat → Option Nat} : ∀ {l : List Nat} {i : Nat}, (finBs b nb m ν l)[i]? = (l[i]?).map (finB b nb m ν)
 | [], i => by simp [finBs]
 | x :: l, 0 => by simp [finBs]
 | x :: l, i + 1 => by simp only [finBs, List.getElem?_cons_succ]; exact finBs_get
theorem resOf_plain (xs : List TV) : (resOf xs).plain = true := by
 unfold resOf
 split
 ·rename_i x; cases x <;> rfl
 ·rfl
theorem retsO_ok {G : Gl} {X : Cx} {s : St} {a : Act} (h : Rel G X s a) {fn : Func} {rvs : List RV} (hr : RVs P fn.results.toList rvs) (hnd : (rvs.map locOf).Nodup) {K : DV → Prop} (hK : retsO s rvs K) :
  ∃ r v, K r ∧ (results fn a.tmps).run P X.w = .ok v X.w ∧ ((r.isRef = true ∧ ∃ L, VRel X G.base L r v) ∨ (r.plain = true ∧ VRel (handOver (rvs.map locOf) X) G.base (.tmp 0) r v)) := by
 have gen : rets s rvs (fun xs => K (resOf xs)) → ∃ r v, K r ∧ (results fn a.tmps).run P X.w = .ok v X.w ∧ ((r.isRef = true ∧ ∃ L, VRel X G.base L r v) ∨ (r.plain = true ∧ VRel (handOver (rvs.map locOf) X) G.base (.tmp 0) r v)) := by
  intro hK
  obtain ⟨xs, vs, k1, k2, k3, k4, k5⟩ := rets_ok h hr hK
  have hres : (results fn a.tmps).run P X.w = .ok (if h : vs.toArray.size = 1 then vs.toArray[0] else .tuple vs.toArray) X.w := by
   unfold results
   rw [← Array.toArray_toList (xs := fn.results), List.mapM_toArray]
   simp only [Sem.run_bind, Sem.run_map]
   rw [k4 _ (fun _ => rfl) (fun _ _ => rfl)]
   rfl
  refine ⟨_, _, k1, hres, .inr ⟨resOf_plain _, ?_⟩⟩
  have hloc : ∀ (j : Nat) d u, xs[j]? = some d → vs[j]? = some u → TRel (handOver (rvs.map locOf) X) G.base (if (rvs.map locOf).length = 1 then .tmp 0 else .comp (.tmp 0) j) d u := by
   intro j d u hd hu
   have hj : j < rvs.length := by rw [← k2]; exact (List.getElem?_eq_some_iff.1 hd).1
   have hrv : rvs[j]? = some rvs[j] := by simp [hj]
   exact TRel.handOver hnd (j := j) (by rw [List.getElem?_map, hrv]; rfl) (k5 j d u _ hd hu hrv)
  match xs, vs, k2, k3, hloc with
  | [x], [v], k2, k3, hloc =>
   have := hloc 0 x v rfl rfl
   simp at k2
   rw [if_pos (by simp [← k2])] at this
   exact dv_rel this
  | [], [], k2, k3, hloc => exact ⟨#[], by simp, by simp, fun j d u hd => by simp at hd⟩
  | x :: y :: xs, vs, k2, k3, hloc =>
   have hvl : vs.length = xs.length + 2 := by rw [k3, ← k2]; rfl
   refine ⟨vs.toArray, by simp [hvl], by simp [hvl], fun j d u hd hu => ?_⟩
   have := hloc j d u hd (by simpa using hu)
   rw [if_neg (by simp [← k2])] at this
   exact this
  | [x], [], k2, k3, _ => simp at k2 k3; omega
  | [x], _ :: _ :: _, k2, k3, _ => simp at k2 k3; omega
  | [], _ :: _, k2, k3, _ => simp at k2 k3; omega
 unfold retsO at hK
 split at hK
 ·rename_i t
  split at hK
  ·rename_i hrf
   refine ⟨_, _, hK, ?_, .inl ⟨by simp only [refR, Bool.and_eq_true] at hrf; exact hrf.1, _, h.get t⟩⟩
   have e : fn.results.toList = [.tmp t] := by
    generalize fn.results.toList = l at hr
    cases hr with
    | tmp t rs l h => cases h; rfl
   unfold results
   rw [← Array.toArray_toList (xs := fn.results), List.mapM_toArray, e]
   simp
  ·exact gen hK
 ·exact gen hK
theorem handOver_own {ls : List Loc} {X : Cx} {g : Nat} {L' : Loc} (h : (handOver ls X).own g = some L') : ∃ L, X.own g = some L ∧ L ∈ ls := by
 simp only [handOver] at h
 split at h
 ·rename_i L hL
  cases hi : ls.idxOf? L with
  | none => rw [hi] at h; simp at h
  | some j =>
   refine ⟨L, hL, ?_⟩
   by_cases hm : L ∈ ls
   ·exact hm
   ·rw [List.idxOf?_eq_none_iff.2 hm] at hi; cases hi
 ·cases h
theorem VRel.plain_mono {X X' : Cx} {base : Nat} (hM : X'.M = X.M) (hw : X'.w = X.w) (ho : ∀ g L, X.own g = some L → X'.own g = some L) {L : Loc} {r : DV} (hr : r.plain = true) {v : Value} (h : VRel X base L r v) : VRel X' base L r v := by
 have ow : ∀ {L : Loc} {size : Nat} {nl : Bool} {rows : List PV} {u : Value}, OwRel X base L size nl rows u → OwRel X' base L size nl rows u := by
  intro L size nl rows u hu
  rcases hu with hu | ⟨h0, g, cap, cur, ty, g0, g1, g2, g3, g4, g5, g6⟩
  ·exact .inl hu
  ·exact .inr ⟨h0, g, cap, cur, ty, g0, ho g _ g1, g2, by rw [hw]; exact g3, g4, by rw [hM, hw]; exact g5, fun o ho => by rw [hM]; exact g6 o ho⟩
 cases r with
 | p x => show Flat X'.M X'.w x v; rw [hM, hw]; exact h
 | ow size nl rows => exact ow h
 | tup ds =>
  obtain ⟨vs, e1, e2, e3⟩ := h
  refine ⟨vs, e1, e2, fun j d u hd hu => ?_⟩
  have := e3 j d u hd hu
  cases d with
  | p x => show Flat X'.M X'.w x u; rw [hM, hw]; exact this
  | ow size nl rows => exact ow this
 | _ => simp [DV.plain] at hr
theorem ocall_of_vc {f : FuncId} {fn : Func} {code : Code} {c : C} {nb : Nat} {args : List DV} {bs : List Box} {bs' : List (Option Box)} {r : DV} {rvs : List RV} (hf : P.funcs[f]? = some fn) (hb : fn.body = some code) (hn : fn.name ≠ "runtime.NumGoroutine")
  (ht : TrC P c code) (hr : RVs P fn.results.toList rvs) (hnd : (rvs.map locOf).Nodup) (hrp : (r.plain || r.isRef) = true) (hbs : liveO bs = true) (hlen : Nat.ble bs.length bs'.length = true)
  (hv : vc P c (StO fn.ntmps nb args bs) (fun s => retsO s rvs fun r0 => finO s.b nb bs.length r0 = (bs', r)) (fun _ _ => False) (fun s => retsO s rvs fun r0 => finO s.b nb bs.length r0 = (bs', r))) : OCall P f args bs bs' r := by
 refine ⟨⟨fn, hf, by rw [hb]; rfl, hn⟩, by simpa using hrp, by simpa using hlen, fun X cargs hl hh ha => ?_⟩
 refine calls_of_wp hf hb ?_
 have hrel := start_ok hh (nb := nb) (n := fn.ntmps) hl hbs ha
 have fin : ∀ a w', Post ⟨X.w.heap.size, X.M, X.w, (shX X nb).ex⟩ (fun s => retsO s rvs fun r0 => finO s.b nb bs.length r0 = (bs', r)) a w' →
   bodyPost P fn (fun e w' => ∃ v X', e = .returned v ∧ X'.w = w' ∧ Back X X' bs.length bs' r v) .ret a w' := by
  intro a w' ⟨s, X', h', e', hK⟩
  subst e'
  obtain ⟨r0, v, k1, hres, k3⟩ := retsO_ok h' hr hnd hK
  generalize hall : allO s.b nb bs.length r0 = all at *
  obtain ⟨es, f1, f2, f3, f4⟩ := reachO_ok (b := s.b) (n := 4000) (ws := refsH s.b (rangeO nb bs.length) (refsD r0 [])) (ks := rangeO nb bs.length)
  have ea : all = rangeO nb bs.length ++ es := by rw [← hall]; exact f1
  have hnda : all.Nodup := by
   rw [ea, List.nodup_append]
   exact ⟨rangeO_nodup, f4, fun a ha b hb e => by subst e; exact f3 a hb ha⟩
  generalize hνd : nuF s.b nb bs.length all = ν at *
  have hfin : bs' = finBs s.b nb bs.length ν all ∧ r = resD ν r0 := by
   simp only [finO, hall, hνd, Prod.mk.injEq] at k1
   exact ⟨k1.1.symm, k1.2.symm⟩
  obtain ⟨e1, e2⟩ := hfin
  have hexe : X'.ex = (shX X nb).ex := h'.mold.1
  have hgood : ∀ k b1, s.b[k]? = some (some b1) → aliveO s.b nb bs.length k = true → ∀ i, all[i]? = some k → i < bs.length → X'.ρ k = X.ρ i := by
   intro k b1 hk hal i hi hilt
   have hki : k = nb + i := by
    rw [ea, List.getElem?_append, if_pos (by rw [rangeO_length]; exact hilt), rangeO_get hilt] at hi
    injection hi with hi; exact hi.symm
   have hold : b1.live = true ∧ b1.old = true := by
    simp only [aliveO, getR_some.2 hk, Bool.and_eq_true, Bool.or_eq_true, Bool.not_eq_true', Bool.and_eq_false_iff] at hal
    refine ⟨hal.1, hal.2.resolve_right fun hc => ?_⟩
    rcases hc with hc | hc
    ·have : ¬ nb ≤ k := fun hh => by rw [Nat.ble_eq_true_of_le hh] at hc; cases hc
     omega
    ·have : ¬ k < nb + bs.length := fun hh => by
      have e : Nat.blt k (nb + bs.length) = true := by simpa using hh
      rw [e] at hc; cases hc
     omega
   obtain ⟨blk, g1, g2, g3, g4, g5, g6⟩ := BX.info (h'.boxes k b1 hk) hold.1
   have g7 := g4 hold.2
   rw [hexe] at g7
   subst hki
   simp only [shX] at g7
   rw [if_neg (by omega), show nb + i - nb = i by omega] at g7
   have hbi : bs[i]? = some bs[i] := by simp [hilt]
   obtain ⟨l1, l2⟩ := liveO_get hbs (List.mem_of_getElem? hbi)
   obtain ⟨blk0, q1, q2, q3, q4, q5, q6⟩ := BX.info (hh.boxes i _ hbi) l1
   have q7 := q4 l2
   rw [g7] at q7
   injection q7 with q7
   rw [g1, q1, q7]
  generalize hX'' : ({ ρ := fun i => if i < bs.length then X.ρ i else (all[i]?).bind X'.ρ
                       own := fun g => match X'.own g with
                        | some L => match relO all L with
                         | some L' => some L'
                         | none => ((rvs.map locOf).idxOf? L).map fun j => if (rvs.map locOf).length = 1 then .tmp 0 else .comp (.tmp 0) j
                        | none => none
                       M := X'.M, w := X'.w, ex := X.ex } : Cx) = X''
  have ew : X''.w = X'.w := by subst hX''; rfl
  have eM : X''.M = X'.M := by subst hX''; rfl
  have eex : X''.ex = X.ex := by subst hX''; rfl
  have eρ1 : ∀ i, i < bs.length → X''.ρ i = X.ρ i := by subst hX''; intro i hi; simp [hi]
  have eρ2 : ∀ i, ¬ i < bs.length → X''.ρ i = (all[i]?).bind X'.ρ := by subst hX''; intro i hi; simp [hi]
  have eo1 : ∀ g L L', X'.own g = some L → relO all L = some L' → X''.own g = some L' := by subst hX''; intro g L L' h1 h2; simp [h1, h2]
  have eo2 : ∀ g L', (handOver (rvs.map locOf) X').own g = some L' → X''.own g = some L' := by
   intro g L' hg
   obtain ⟨L, h1, h2⟩ := handOver_own hg
   have hn : relO all L = none := by
    obtain ⟨rv, _, e⟩ := List.mem_map.1 h2
    cases rv <;> simp only [locOf] at e <;> subst e <;> rfl
   subst hX''
   simp only [handOver, h1] at hg
   simp only [h1, hn, hg]
  have hν : ∀ j j', ν j = some j' → X''.ρ j' = X'.ρ j := by
   intro j j' hj
   rw [← hνd] at hj
   simp only [nuF] at hj
   split at hj
   ·rename_i hc
    simp only [Bool.and_eq_true] at hc
    injection hj with hj
    have hm := numO_mem (elemN_iff.1 hc.1)
    rw [hj] at hm
    by_cases hlt : j' < bs.length
    ·rw [eρ1 _ hlt]
     obtain ⟨b1, hb1⟩ : ∃ b1, getR s.b j = some b1 := by
      have := hc.2
      unfold aliveO at this
      split at this
      ·exact ⟨_, by assumption⟩
      ·cases this
     exact (hgood j b1 (getR_some.1 hb1) hc.2 j' hm hlt).symm
    ·rw [eρ2 _ hlt, hm]; rfl
   ·cases hj
  refine ⟨h'.defers, v, hres, v, X'', rfl, ew, eex, ?_, fun i bx hi => ?_, fun i hi => eρ1 i hi, fun b hb hx o => ?_, ?_⟩
  ·rcases k3 with ⟨hrf, L, hvr⟩ | ⟨hpl, hvr⟩
   ·have e3 : r = handD ν r0 := by
     rw [e2]
     unfold resD
     rw [if_neg]
     cases r0 <;> simp [DV.isRef, DV.plain] at hrf ⊢
    rw [e3]
    exact VRel.tr (X := X') (X' := X'') (base := X.w.heap.size) (base' := X.w.heap.size) (fun _ _ => False) ν (fun _ _ _ h => h.elim) (by rw [eM, ew]; exact Keeps.refl _ _) ew (fun _ _ _ h => h.elim) (fun T e => by rw [e] at hrf; simp [DV.isRef] at hrf) hν hvr
   ·have e3 : r = r0 := by rw [e2]; unfold resD; rw [if_pos hpl]
    rw [e3]
    exact hvr.plain_mono (by rw [eM]; rfl) (by rw [ew]; rfl) eo2 hpl
  ·rw [e1, finBs_get] at hi
   cases hk : all[i]? with
   | none => rw [hk] at hi; simp at hi
   | some k =>
    rw [hk] at hi
    simp only [Option.map_some, Option.some.injEq] at hi
    unfold finB at hi
    split at hi
    ·rename_i hal
     split at hi
     ·rename_i b1 hb1
      injection hi with hi
      subst hi
      refine ⟨rfl, ?_⟩
      have hkm : k ∈ all := List.mem_of_getElem? hk
      have hki : numO k all 0 = i := numO_get hnda hk
      have hlive : b1.live = true := by
       simp only [aliveO, hb1, Bool.and_eq_true] at hal; exact hal.1
      refine BX.tr (X := X') (X' := X'') (base := X.w.heap.size) (base' := X.w.heap.size) (i := k) (i' := i) (fun L L' => relO all L = some L') ν (fun L L' j e => by simp only [relO]; rw [e]; rfl) (by rw [eM, ew]; exact Keeps.refl _ _) ew
       (fun g L L' hL h1 h2 h3 _ => ⟨eo1 g L L' h1 hL, ?_, by rw [eM]; exact h3⟩) (by simp only [relO]; rw [if_pos hkm, hki]) (fun r o => by simp only [relO]; rw [if_pos hkm, hki])
       (hν k i (by rw [← hνd]; simp only [nuF]; rw [if_pos (by simp [elemN_iff.2 hkm, hal]), hki])) hν false (fun h => by cases h) hlive (h'.boxes k b1 (getR_some.1 hb1))
      rcases h2 with h2 | ⟨j, h2⟩
      ·exact .inl h2
      ·rw [hexe] at h2
       simp only [shX] at h2
       split at h2
       ·cases h2
       ·exact .inr ⟨_, by rw [eex]; exact h2⟩
     ·cases hi
    ·cases hi
  ·rw [eM]
   refine h'.mold.2 b hb (fun j e => ?_) o
   simp only [shX] at e
   split at e
   ·cases e
   ·exact hx _ e
  ·rw [ew]
   have hbl := h'.below
   refine ⟨hbl.os, hbl.tape, hbl.output, hbl.size, fun b hb hx => hbl.block b hb fun j e => ?_, hbl.sz⟩
   simp only [shX] at e
   split at e
   ·cases e
   ·exact hx _ e
 have hwp := vc_ok ht hrel hv
 refine wp_mono hwp fun e a w' hq => ?_
 cases e with
 | normal => exact fin a w' hq
 | ret => exact fin a w' hq
 | exit j => obtain ⟨_, _, _, _, h⟩ := hq; exact h.elim
 | _ => exact hq.elim
end Go.Proofs.YtoepoghmeajocaaGreatDoor.Vc
