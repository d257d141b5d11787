/- Part of a proof over a Go program: VcAny, VcAl, VcGh, VcCode. No condition. -/
import Derived.Test.YtnjphclbpgajpaaGreatDoorQ08
import Derived.Test.YtnjphclbpgajpaaGreatDoorQ04
import Derived.LoopN
set_option linter.unnecessarySimpa false
set_option linter.unusedSectionVars false
set_option linter.unusedSimpArgs false
set_option linter.unusedVariables false
namespace Go.Proofs.YtnjphclbpgajpaaGreatDoor.Vc
open Go.RowKit
variable {P : Program}
theorem op_ok {G : Gl} {ops : Array Oper} {Q : Exit → Act → World → Prop} {K : St → Prop} {q : Nat} {o : Oper} {i : Ins} (ho' : ops[q]? = some o) (ti : TrI P ops o i)
  {s : St} {X : Cx} {a : Act} (h : Rel G X s a) (hK : execG P i s K) : wpOp P ops Q q (Post G K) a X.w := by
 simp only [wpOp, ho']
 obtain ⟨id, ig, ik, ixs⟩ := i
 have hd := ti.d
 have htr' := ti.tr
 have hg := ti.g
 simp only at hd htr' hg
 subst hd
 simp only [execG] at hK
 have go : ∀ {s : St}, Rel G X s a → exec P ⟨o.dst, ig, ik, ixs⟩ s K → o.wp P a X.w (Post G K) Q := fun h hK => execJ_ok h htr' hK
 cases hog : o.guard with
 | none =>
  rw [hog] at hg
  cases ig with
  | some _ => exact hg.elim
  | none =>
   have hw : Region.wanted o (yielded ops a.tmps) = true := by simp [Region.wanted, hog]
   rw [if_pos hw]
   exact .inl (go h hK)
 | some jw =>
  obtain ⟨j, want⟩ := jw
  rw [hog] at hg
  cases ig with
  | none => exact hg.elim
  | some tw =>
   obtain ⟨t, want'⟩ := tw
   obtain ⟨rfl, hj⟩ := hg
   simp only at hK
   have hv := h.get t
   generalize hgt : getT s.t t = dv at *
   cases dv with
   | p z =>
    cases z with
    | bool c =>
     simp only at hK
     have hlt : t < a.tmps.size := by
      rw [h.size]
      rcases Nat.lt_or_ge t s.t.length with h0 | h0
      ·exact h0
      ·rw [getT_eq, List.getElem?_eq_none h0] at hgt; cases hgt
     have hb := Flat.boolv hv
     have hy : yielded ops a.tmps j = some c := yielded_of hj hlt hb
     have hweak : Rel G X ⟨setL s.t t (.p (.bool c)), s.b⟩ a := h.weak t _ hv
     by_cases hcw : c = want
     ·subst hcw
      rw [if_pos (by simp [Region.wanted, hog, hy])]
      exact .inl (go hweak (hK.1 rfl))
     ·rw [if_neg (by simp [Region.wanted, hog, hy, hcw])]
      have e : c = !want := by cases c <;> cases want <;> simp at hcw ⊢
      have hKK := hK.2 e
      rw [e] at hweak
      exact ⟨_, _, hweak.put (d := o.dst) (v := .tup []) (fun _ _ => undef_tup), rfl, hKK⟩
    | _ => exact hK.elim
   | tup ds =>
    cases ds with
    | nil =>
     have hy := yielded_tup (ops := ops) hj hv
     rw [if_neg (by simp [Region.wanted, hog, hy])]
     exact ⟨_, _, h.put (d := o.dst) (v := .tup []) (fun _ _ => undef_tup), rfl, hK⟩
    | cons _ _ => exact hK.elim
   | _ => exact hK.elim
theorem execG_mono {i : Ins} {s : St} {K K' : St → Prop} (hk : ∀ s, K s → K' s) (h : execG P i s K) : execG P i s K' := by
 have ex : ∀ {s : St}, exec P i s K → exec P i s K' := fun ⟨h1, h2⟩ => ⟨h1, semJ_mono (fun v b h => hk _ h) h2⟩
 unfold execG at h ⊢
 split at h
 ·exact ex h
 ·split at h
  ·exact ⟨fun hc => ex (h.1 hc), fun hc => hk _ (h.2 hc)⟩
  ·exact hk _ h
  ·exact h
theorem swapFront {i : Ins} {K : St → Prop} {post : List Ins} : ∀ {pre : List Ins}, (∀ j, j ∈ pre → indep j i = true) → ∀ {s : St}, execs P (pre ++ i :: post) s K → execG P i s (fun s => execs P (pre ++ post) s K)
 | [], _, _, h => h
 | p :: pre, hp, s, h => by
  have h1 : execG P p s (fun s' => execG P i s' (fun s'' => execs P (pre ++ post) s'' K)) :=
   execG_mono (fun s' hs' => swapFront (fun j hj => hp j (List.mem_cons_of_mem _ hj)) hs') h
  exact swap (hp p List.mem_cons_self) h1
def DownC (ops : Array Oper) (listed : Array Bool) : Prop :=
 ∀ (k : Nat) (o : Oper), listed.getD k false = true → ops[k]? = some o → ∀ e, e ∈ o.after → Region.binds .any e = true → listed.getD e.on false = true
def clEdges (acc : List Nat) : List Edge → Nat
 | [] => 0
 | e :: es => if Region.binds .any e then (2 ^ e.on ||| acc.getD e.on 0) ||| clEdges acc es else clEdges acc es
def clos : List Oper → List Nat → List Nat
 | [], acc => acc
 | o :: os, acc => clos os (acc ++ [clEdges acc o.after.toList])
theorem clEdges_bit {acc : List Nat} {j : Nat} : ∀ {es : List Edge}, (clEdges acc es).testBit j = true → ∃ e, e ∈ es ∧ Region.binds .any e = true ∧ (j = e.on ∨ (acc.getD e.on 0).testBit j = true)
 | [], h => by simp [clEdges] at h
 | e :: es, h => by
  simp only [clEdges] at h
  split at h
  ·rename_i hb
   rw [Nat.testBit_or, Nat.testBit_or, Bool.or_eq_true, Bool.or_eq_true] at h
   rcases h with (h | h) | h
   ·rw [Nat.testBit_two_pow] at h
    exact ⟨e, List.mem_cons_self, hb, .inl (by simpa [eq_comm] using h)⟩
   ·exact ⟨e, List.mem_cons_self, hb, .inr h⟩
   ·obtain ⟨e', h1, h2⟩ := clEdges_bit h
    exact ⟨e', List.mem_cons_of_mem _ h1, h2⟩
  ·obtain ⟨e', h1, h2⟩ := clEdges_bit h
   exact ⟨e', List.mem_cons_of_mem _ h1, h2⟩
def RowsOK (ops : Array Oper) (rows : List Nat) : Prop :=
 ∀ (k : Nat) (r : Nat) (o : Oper), rows[k]? = some r → ops[k]? = some o → ∀ j, r.testBit j = true → ∀ listed, DownC ops listed → (∀ e, e ∈ o.after → Region.binds .any e = true → listed.getD e.on false = true) → listed.getD j false = true
theorem clos_ok {ops : Array Oper} : ∀ (os pre : List Oper) (acc : List Nat), pre ++ os = ops.toList → acc.length = pre.length → RowsOK ops acc → RowsOK ops (clos os acc)
 | [], _, _, _, _, h => h
 | o :: os, pre, acc, he, hl, h => by
  refine clos_ok os (pre ++ [o]) _ (by simpa using he) (by simp [hl]) fun k r o' hr ho j hj listed hd ha => ?_
  rw [List.getElem?_append] at hr
  by_cases hk : k < acc.length
  ·rw [if_pos hk] at hr
   exact h k r o' hr ho j hj listed hd ha
  ·rw [if_neg hk] at hr
   have hk0 : k - acc.length = 0 := by
    have := (List.getElem?_eq_some_iff.1 hr).1
    simp at this; exact this
   rw [hk0] at hr
   simp at hr
   subst hr
   have hke : k = pre.length := by omega
   have ho2 : o' = o := by
    have : ops.toList[k]? = some o' := by simpa using ho
    rw [← he, hke] at this
    simp at this
    exact this.symm
   subst ho2
   obtain ⟨e, h1, h2, h3⟩ := clEdges_bit hj
   have he' : e ∈ o'.after := by simpa using h1
   have hon := ha e he' h2
   rcases h3 with rfl | h3
   ·exact hon
   ·rw [List.getD_eq_getElem?_getD] at h3
    cases hrr : acc[e.on]? with
    | none => rw [hrr] at h3; simp at h3
    | some r' =>
     rw [hrr] at h3
     have hlt : e.on < ops.size := by
      have h1 := (List.getElem?_eq_some_iff.1 hrr).1
      have h2 : ops.size = pre.length + (os.length + 1) := by rw [← Array.length_toList, ← he]; simp
      omega
     exact h e.on r' ops[e.on] hrr (by simp [hlt]) j (by simpa using h3) listed hd (hd e.on ops[e.on] hon (by simp [hlt]))
def pairsW (ind : Ins → Ins → Bool) (ops : Array Oper) (is : List Ins) : Bool :=
 let rows := clos ops.toList []
 (List.range is.length).all fun i => (match ops[i]? with
   | some o => o.after.all fun e => !Region.binds .any e || decide (e.on < i)
   | none => false) &&
  (List.range i).all fun j => match is[j]?, is[i]?, rows[i]? with
   | some a, some b, some r => r.testBit j || ind a b
   | _, _, _ => false
def pairsB (ops : Array Oper) (is : List Ins) : Bool := pairsW indep ops is
theorem any_ok {ind : Ins → Ins → Bool} {Inv : List Ins → St → Prop} {K : St → Prop}
  (hsw : ∀ (pre : List Ins) (i : Ins) (post : List Ins) (s : St), (∀ j, j ∈ pre → ind j i = true) → Inv (pre ++ i :: post) s → execs P (pre ++ i :: post) s K → execG P i s (fun s' => execs P (pre ++ post) s' K ∧ Inv (pre ++ post) s'))
  {G : Gl} {ops : Array Oper} {is : List Ins} {Q : Exit → Act → World → Prop} (hl : ops.size = is.length)
  (htr : ∀ (k : Nat) i, is[k]? = some i → ∃ o, ops[k]? = some o ∧ TrI P ops o i) (hp : pairsW ind ops is = true) (hQ : ∀ s X a, Rel G X s a → K s → Q .normal a X.w) :
  ∀ (n : Nat) (rem : List (Nat × Ins)) (listed : Array Bool), rem.length = n → listed.size = ops.size → DownC ops listed → (∀ p, p ∈ rem → is[p.1]? = some p.2) → (rem.map (·.1)).Pairwise (· < ·) →
   (∀ j, j < ops.size → (listed.getD j true = false ↔ j ∈ rem.map (·.1))) →
   ∀ {s : St} {X : Cx} {a : Act}, Rel G X s a → Inv (rem.map (·.2)) s → execs P (rem.map (·.2)) s K → wpAny P .any ops Q n listed a X.w := by
 have hrows : RowsOK ops (clos ops.toList []) := clos_ok ops.toList [] [] rfl rfl (fun k r o h => by simp at h)
 have hback : ∀ (i : Nat) (o : Oper), ops[i]? = some o → ∀ e, e ∈ o.after → Region.binds .any e = true → e.on < i := by
  intro i o ho e he hb
  have hi : i < is.length := by rw [← hl]; exact (Array.getElem?_eq_some_iff.1 ho).1
  have := List.all_eq_true.1 hp i (by simpa using hi)
  simp only [Bool.and_eq_true, ho] at this
  have := Array.all_eq_true_iff_forall_mem.1 this.1 e he
  simpa [hb] using this
 intro n
 induction n with
 | zero =>
  intro rem listed hn hsz hd hmem hsort hun s X a h hI hK
  have : rem = [] := List.eq_nil_of_length_eq_zero hn
  subst this
  refine ⟨?_, hQ s X a h hK⟩
  refine List.eq_nil_iff_forall_not_mem.2 fun j hj => ?_
  obtain ⟨h1, o, h2, _⟩ := mem_ready.1 hj
  have := (hun j (Array.getElem?_eq_some_iff.1 h2).1).1 h1
  simp at this
 | succ n ih =>
  intro rem listed hn hsz hd hmem hsort hun s X a h hI hK
  have lis : ∀ j, j < ops.size → listed.getD j true = true → listed.getD j false = true := by
   intro j hj h1
   have hj' : j < listed.size := by omega
   simp [hj'] at h1 ⊢; exact h1
  have unl : ∀ j, j < ops.size → j ∈ rem.map (·.1) → listed.getD j false = false := by
   intro j hj h1
   have := (hun j hj).2 h1
   have hj' : j < listed.size := by omega
   simp [hj'] at this ⊢; exact this
  refine ⟨fun hr => ?_, fun i hi => ?_⟩
  ·exfalso
   cases rem with
   | nil => simp at hn
   | cons p rem =>
    obtain ⟨j, ins⟩ := p
    have hj : is[j]? = some ins := hmem (j, ins) List.mem_cons_self
    obtain ⟨o, ho, _⟩ := htr j ins hj
    have hjlt := (Array.getElem?_eq_some_iff.1 ho).1
    have : j ∈ Region.ready .any ops listed := by
     refine mem_ready.2 ⟨(hun j hjlt).2 (by simp), o, ho, fun e he hb => ?_⟩
     have hlt := hback j o ho e he hb
     have hlt2 : e.on < ops.size := by omega
     refine lis e.on hlt2 ?_
     cases hc : listed.getD e.on true with
     | true => rfl
     | false =>
      have hin := (hun e.on hlt2).1 hc
      simp only [List.map_cons, List.mem_cons] at hin
      rw [List.map_cons, List.pairwise_cons] at hsort
      rcases hin with hin | hin
      ·omega
      ·have := hsort.1 _ hin; omega
    rw [hr] at this
    cases this
  ·obtain ⟨h1, o, ho, hall⟩ := mem_ready.1 hi
   have hilt := (Array.getElem?_eq_some_iff.1 ho).1
   have hin := (hun i hilt).1 h1
   obtain ⟨p, hpm, hpi⟩ := List.mem_map.1 hin
   obtain ⟨pre, post, hsp⟩ := List.append_of_mem hpm
   obtain ⟨i', ins⟩ := p
   simp only at hpi
   subst hpi
   subst hsp
   have hins : is[i']? = some ins := hmem (i', ins) (by simp)
   obtain ⟨o', ho', ti⟩ := htr i' ins hins
   have hind : ∀ j, j ∈ pre.map (·.2) → ind j ins = true := by
    intro j hj
    obtain ⟨q, hq, rfl⟩ := List.mem_map.1 hj
    have hqs := hmem q (by simp [hq])
    have hqlt : q.1 < i' := by
     rw [List.map_append, List.map_cons, List.pairwise_append] at hsort
     exact hsort.2.2 q.1 (List.mem_map_of_mem hq) i' (by simp)
    have hq2 : q.1 < ops.size := by omega
    have hc := List.all_eq_true.1 hp i' (by simpa [← hl] using hilt)
    simp only [Bool.and_eq_true] at hc
    have hc := List.all_eq_true.1 hc.2 q.1 (by simpa using hqlt)
    rw [hqs, hins] at hc
    cases hr : (clos ops.toList [])[i']? with
    | none => simp [hr] at hc
    | some r =>
     simp only [hr, Bool.or_eq_true] at hc
     rcases hc with hc | hc
     ·exfalso
      have t1 := hrows i' r o hr ho q.1 hc listed hd hall
      rw [unl q.1 hq2 (by simp; exact .inl ⟨q.2, hq⟩)] at t1
      cases t1
     ·exact hc
   have hK' : execG P ins s (fun s => execs P (pre.map (·.2) ++ post.map (·.2)) s K ∧ Inv (pre.map (·.2) ++ post.map (·.2)) s) := by
    rw [List.map_append, List.map_cons] at hK hI
    exact hsw _ _ _ _ hind hI hK
   refine wpOp_mono (fun a' w' ⟨s', X', h', e', k', i''⟩ => ?_) (op_ok ho' ti h hK')
   subst e'
   refine ih (pre ++ post) _ (by simp at hn ⊢; omega) (by simp [hsz]) ?_ (fun p hp => hmem p (by
    rcases List.mem_append.1 hp with hp | hp
    ·simp [hp]
    ·simp [hp])) ?_ ?_ h' (by rw [List.map_append]; exact i'') (by rw [List.map_append]; exact k')
   ·intro k ok hk hok e he hb
    by_cases hki : k = i'
    ·subst hki
     rw [ho] at hok
     injection hok with hok
     subst hok
     exact getD_set_true (hall e he hb)
    ·rw [getD_set_ne false (fun h => hki h.symm)] at hk
     exact getD_set_true (hd k ok hk hok e he hb)
   ·rw [List.map_append, List.map_cons, List.pairwise_append] at hsort
    rw [List.map_append, List.pairwise_append]
    refine ⟨hsort.1, (List.pairwise_cons.1 hsort.2.1).2, fun x hx y hy => hsort.2.2 x hx y (List.mem_cons_of_mem _ hy)⟩
   ·intro j hj
    have hnd : i' ∉ (pre ++ post).map (·.1) := by
     rw [List.map_append, List.map_cons, List.pairwise_append] at hsort
     rw [List.map_append]
     intro hm
     rcases List.mem_append.1 hm with hm | hm
     ·exact Nat.lt_irrefl _ (hsort.2.2 i' hm i' (by simp))
     ·exact Nat.lt_irrefl _ ((List.pairwise_cons.1 hsort.2.1).1 i' hm)
    by_cases hji : j = i'
    ·subst hji
     have : j < listed.size := by omega
     constructor
     ·intro hc; simp [this] at hc
     ·intro hc; exact absurd hc hnd
    ·rw [getD_set_ne true (fun h => hji h.symm), hun j hj]
     simp [hji]
theorem execs_drawW {ind : Ins → Ins → Bool} {Inv : List Ins → St → Prop} {K : St → Prop}
  (hsw : ∀ (pre : List Ins) (i : Ins) (post : List Ins) (s : St), (∀ j, j ∈ pre → ind j i = true) → Inv (pre ++ i :: post) s → execs P (pre ++ i :: post) s K → execG P i s (fun s' => execs P (pre ++ post) s' K ∧ Inv (pre ++ post) s'))
  {G : Gl} {id : Nat} {ops : Array Oper} {is : List Ins} {Q : Exit → Act → World → Prop} (hm : P.follows .mixedOrders = true) (hl : ops.size = is.length)
  (htr : ∀ (k : Nat) i, is[k]? = some i → ∃ o, ops[k]? = some o ∧ TrI P ops o i) (hp : pairsW ind ops is = true) (hQ : ∀ s X a, Rel G X s a → K s → Q .normal a X.w) {s : St} {X : Cx} {a : Act} (h : Rel G X s a) (hI : Inv is s) (hK : execs P is s K) :
  (Code.region id ops true).wp P Q a X.w := by
 refine wp_region_any hm ?_
 have hX : Rel G { X with w := { X.w with drawn := X.w.drawn + 1 } } s a := by
  have hcell : ∀ b o, World.cell? { X.w with drawn := X.w.drawn + 1 } ⟨b, o, none⟩ = X.w.cell? ⟨b, o, none⟩ := fun b o => World.cell?_of_block rfl
  refine h.change (fun _ => True) (fun _ _ h => h) ⟨fun b o v hM hc => ⟨(hcell b o).trans hc, hM⟩, fun g L hg _ _ => ⟨hg, rfl, fun _ h => h⟩, rfl, fun _ => .of rfl⟩ (fun i d hd => .inl ⟨trivial, fun _ _ => rfl⟩)
   (fun k bx hk => .inl ⟨trivial, fun _ _ => trivial, rfl, fun _ _ _ _ _ _ => rfl⟩) ⟨rfl, rfl, rfl, Nat.le_refl _, fun _ _ => rfl⟩ (fun b _ o => Iff.rfl)
 refine any_ok hsw (X := { X with w := { X.w with drawn := X.w.drawn + 1 } }) hl htr hp hQ ops.size (is.zipIdx.map fun p => (p.2, p.1)) _ (by simp [hl]) (by simp) ?_ ?_ ?_ ?_ hX ?_ ?_
 ·intro k o hk
  by_cases hlt : k < ops.size
  ·simp [hlt] at hk
  ·simp [hlt] at hk
 ·intro p hpm
  obtain ⟨q, hq, rfl⟩ := List.mem_map.1 hpm
  have := List.mem_zipIdx hq
  simp at this
  simp only
  rw [List.getElem?_eq_getElem (by omega)]
  simp [this.2]
 ·have : (is.zipIdx.map fun p => (p.2, p.1)).map (·.1) = List.range is.length := by
   rw [List.map_map]
   have e : ((fun x => x.1) ∘ fun (p : Ins × Nat) => (p.2, p.1)) = Prod.snd := rfl
   rw [e, List.zipIdx_map_snd, List.range_eq_range']
  rw [this]
  exact List.pairwise_lt_range
 ·intro j hj
  have : (is.zipIdx.map fun p => (p.2, p.1)).map (·.1) = List.range is.length := by
   rw [List.map_map]
   have e : ((fun x => x.1) ∘ fun (p : Ins × Nat) => (p.2, p.1)) = Prod.snd := rfl
   rw [e, List.zipIdx_map_snd, List.range_eq_range']
  rw [this]
  simp [hj, ← hl]
 ·have : (is.zipIdx.map fun p => (p.2, p.1)).map (·.2) = is := by
   rw [List.map_map]
   have e : ((fun x => x.2) ∘ fun (p : Ins × Nat) => (p.2, p.1)) = Prod.fst := rfl
   rw [e, List.zipIdx_map_fst]
  rw [this]; exact hI
 ·have : (is.zipIdx.map fun p => (p.2, p.1)).map (·.2) = is := by
   rw [List.map_map]
   have e : ((fun x => x.2) ∘ fun (p : Ins × Nat) => (p.2, p.1)) = Prod.fst := rfl
   rw [e, List.zipIdx_map_fst]
  rw [this]; exact hK
theorem execs_draw {G : Gl} {id : Nat} {ops : Array Oper} {is : List Ins} {Q : Exit → Act → World → Prop} {K : St → Prop} (hm : P.follows .mixedOrders = true) (hl : ops.size = is.length)
  (htr : ∀ (k : Nat) i, is[k]? = some i → ∃ o, ops[k]? = some o ∧ TrI P ops o i) (hp : pairsB ops is = true) (hQ : ∀ s X a, Rel G X s a → K s → Q .normal a X.w) {s : St} {X : Cx} {a : Act} (h : Rel G X s a) (hK : execs P is s K) :
  (Code.region id ops true).wp P Q a X.w :=
 execs_drawW (ind := indep) (Inv := fun _ _ => True) (fun pre i post s hind _ hK => execG_mono (fun s h => ⟨h, trivial⟩) (swapFront hind hK)) hm hl htr hp hQ h trivial hK
abbrev OpT := Nat × Ins × List Nat
def inT (j : Nat) : List OpT → Bool
 | [] => false
 | p :: l => Nat.beq p.1 j || inT j l
def readyT (rem : List OpT) : List Nat → Bool
 | [] => true
 | j :: l => !inT j rem && readyT rem l
def dropT (j : Nat) : List OpT → List OpT
 | [] => []
 | p :: l => if Nat.beq p.1 j then dropT j l else p :: dropT j l
mutual
def anyT (P : Program) : Nat → List OpT → St → (St → Prop) → Prop
 | 0, _, _, _ => False
 | _ + 1, [], s, K => K s
 | n + 1, p :: rem, s, K => anyS P n (p :: rem) (p :: rem) s K
termination_by n _ _ _ => (n, 0)
def anyS (P : Program) : Nat → List OpT → List OpT → St → (St → Prop) → Prop
 | _, _, [], _, _ => True
 | n, rem, p :: ps, s, K => (readyT rem p.2.2 = true → execG P p.2.1 s (fun s' => anyT P n (dropT p.1 rem) s' K)) ∧ anyS P n rem ps s K
termination_by n _ ps _ _ => (n, ps.length + 1)
end
theorem inT_iff {j : Nat} : ∀ {l : List OpT}, inT j l = true ↔ j ∈ l.map (·.1)
 | [] => by simp [inT]
 | p :: l => by
  simp only [inT, Bool.or_eq_true, List.map_cons, List.mem_cons, inT_iff (l := l)]
  exact ⟨fun h => h.elim (fun h => .inl (Nat.eq_of_beq_eq_true h).symm) .inr, fun h => h.elim (fun h => .inl (by subst h; simp)) .inr⟩
theorem readyT_iff {rem : List OpT} : ∀ {l : List Nat}, readyT rem l = true ↔ ∀ j, j ∈ l → j ∉ rem.map (·.1)
 | [] => by simp [readyT]
 | j :: l => by
  simp only [readyT, Bool.and_eq_true, Bool.not_eq_true', readyT_iff (l := l)]
  constructor
  ·rintro ⟨h1, h2⟩ q hq
   rcases List.mem_cons.1 hq with rfl | hq
   ·exact fun hm => by rw [inT_iff.2 hm] at h1; cases h1
   ·exact h2 q hq
  ·refine fun h => ⟨?_, fun q hq => h q (by simp [hq])⟩
   cases hc : inT j rem with
   | false => rfl
   | true => exact absurd (inT_iff.1 hc) (h j (by simp))
theorem dropT_mem {j : Nat} {p : OpT} : ∀ {l : List OpT}, p ∈ dropT j l ↔ p ∈ l ∧ p.1 ≠ j
 | [] => by simp [dropT]
 | q :: l => by
  simp only [dropT]
  by_cases h : q.1 = j
  ·rw [if_pos (by simp [h]), dropT_mem (l := l), List.mem_cons]
   exact ⟨fun ⟨a, b⟩ => ⟨.inr a, b⟩, fun ⟨a, b⟩ => ⟨a.elim (fun e => absurd (by rw [e]; exact h) b) id, b⟩⟩
  ·rw [if_neg (fun hh => h (Nat.eq_of_beq_eq_true hh)), List.mem_cons, dropT_mem (l := l), List.mem_cons]
   exact ⟨fun hh => hh.elim (fun e => ⟨.inl e, by rw [e]; exact h⟩) (fun ⟨a, b⟩ => ⟨.inr a, b⟩), fun ⟨a, b⟩ => a.elim .inl (fun a => .inr ⟨a, b⟩)⟩
theorem anyS_mem {n : Nat} {rem : List OpT} {s : St} {K : St → Prop} : ∀ {ps : List OpT}, anyS P n rem ps s K → ∀ p, p ∈ ps → readyT rem p.2.2 = true → execG P p.2.1 s (fun s' => anyT P n (dropT p.1 rem) s' K)
 | [], _, p, hp, _ => by simp at hp
 | q :: ps, h, p, hp, hr => by
  rw [anyS] at h
  rcases List.mem_cons.1 hp with rfl | hp
  ·exact h.1 hr
  ·exact anyS_mem h.2 p hp hr
def edgesB (o : Oper) (i : Nat) (pre : List Nat) : Bool := (o.after.all fun e => !Region.binds .any e || decide (e.on < i)) && pre.all fun j => o.after.any fun e => Region.binds .any e && decide (e.on = j)
theorem anyT_ok {G : Gl} {ops : Array Oper} {l : List (Ins × List Nat)} {Q : Exit → Act → World → Prop} {K : St → Prop} (hl : ops.size = l.length)
  (htr : ∀ (k : Nat) p, l[k]? = some p → ∃ o, ops[k]? = some o ∧ TrI P ops o p.1 ∧ edgesB o k p.2 = true) (hQ : ∀ s X a, Rel G X s a → K s → Q .normal a X.w) :
  ∀ (n m : Nat) (rem : List OpT) (listed : Array Bool), listed.size = ops.size → (∀ p, p ∈ rem → l[p.1]? = some p.2) →
   (∀ j, j < ops.size → (listed.getD j true = false ↔ j ∈ rem.map (·.1))) → (listed.toList.count false = n) →
   ∀ {s : St} {X : Cx} {a : Act}, Rel G X s a → anyT P m rem s K → wpAny P .any ops Q n listed a X.w := by
 have hback : ∀ (i : Nat) (o : Oper), ops[i]? = some o → ∀ e, e ∈ o.after → Region.binds .any e = true → e.on < i := by
  intro i o ho e he hb
  have hi : i < l.length := by rw [← hl]; exact (Array.getElem?_eq_some_iff.1 ho).1
  obtain ⟨o', ho', _, h3⟩ := htr i l[i] (by simp [hi])
  rw [ho] at ho'
  injection ho' with ho'
  subst ho'
  simp only [edgesB, Bool.and_eq_true] at h3
  have := Array.all_eq_true_iff_forall_mem.1 h3.1 e he
  simpa [hb] using this
 intro n
 induction n with
 | zero =>
  intro m rem listed hsz hmem hun hc s X a h hK
  have hnone : ∀ j, j < ops.size → listed.getD j true = true := by
   intro j hj
   cases hg : listed.getD j true with
   | true => rfl
   | false =>
    exfalso
    have hj' : j < listed.size := by omega
    have : listed[j] = false := by simpa [hj'] using hg
    have hm : false ∈ listed.toList := by rw [← this]; simp
    have := List.count_pos_iff.2 hm
    omega
  have hrem : rem = [] := by
   refine List.eq_nil_iff_forall_not_mem.2 fun p hp => ?_
   have hlt : p.1 < ops.size := by rw [hl]; exact (List.getElem?_eq_some_iff.1 (hmem p hp)).1
   have := (hun p.1 hlt).2 (List.mem_map_of_mem hp)
   rw [hnone p.1 hlt] at this; cases this
  subst hrem
  refine ⟨?_, ?_⟩
  ·refine List.eq_nil_iff_forall_not_mem.2 fun j hj => ?_
   obtain ⟨h1, o, h2, _⟩ := mem_ready.1 hj
   have := (hun j (Array.getElem?_eq_some_iff.1 h2).1).1 h1
   simp at this
  ·cases m with
   | zero => rw [anyT] at hK; exact hK.elim
   | succ m => rw [anyT] at hK; exact hQ s X a h hK
 | succ n ih =>
  intro m rem listed hsz hmem hun hc s X a h hK
  have lis : ∀ j, j < ops.size → listed.getD j true = true → listed.getD j false = true := by
   intro j hj h1
   have hj' : j < listed.size := by omega
   simp [hj'] at h1 ⊢; exact h1
  refine ⟨fun hr => ?_, fun i hi => ?_⟩
  ·exfalso
   have hex : ∃ j, j < ops.size ∧ listed.getD j true = false := by
    have : 0 < listed.toList.count false := by omega
    obtain ⟨j, hj⟩ := List.getElem?_of_mem (List.count_pos_iff.1 this)
    have hjl := (List.getElem?_eq_some_iff.1 hj).1
    simp at hjl
    refine ⟨j, by omega, ?_⟩
    have := (List.getElem?_eq_some_iff.1 hj).2
    simp [hjl]; simpa using this
   obtain ⟨j, hj1, hj2, hj3⟩ : ∃ j, j < ops.size ∧ listed.getD j true = false ∧ ∀ q, q < j → listed.getD q true = true := by
    obtain ⟨j, hj⟩ := hex
    induction j using Nat.strongRecOn with
    | _ j ih2 =>
     by_cases hq : ∃ q, q < j ∧ listed.getD q true = false
     ·obtain ⟨q, hq1, hq2⟩ := hq
      exact ih2 q hq1 ⟨by omega, hq2⟩
     ·refine ⟨j, hj.1, hj.2, fun q hqj => ?_⟩
      cases hg : listed.getD q true with
      | true => rfl
      | false => exact absurd ⟨q, hqj, hg⟩ hq
   have hj : j < l.length := by omega
   obtain ⟨o, ho, _, _⟩ := htr j l[j] (by simp [hj])
   have : j ∈ Region.ready .any ops listed := mem_ready.2 ⟨hj2, o, ho, fun e he hb => by
    have hlt := hback j o ho e he hb
    exact lis e.on (by omega) (hj3 e.on hlt)⟩
   rw [hr] at this
   cases this
  ·obtain ⟨h1, o, ho, hall⟩ := mem_ready.1 hi
   have hilt := (Array.getElem?_eq_some_iff.1 ho).1
   obtain ⟨p, hpm, hpi⟩ := List.mem_map.1 ((hun i hilt).1 h1)
   subst hpi
   have hlp := hmem p hpm
   obtain ⟨o', ho', ti, hed⟩ := htr p.1 p.2 hlp
   rw [ho] at ho'
   injection ho' with ho'
   subst ho'
   have hrdy : readyT rem p.2.2 = true := readyT_iff.2 fun j hj hm => by
    simp only [edgesB, Bool.and_eq_true] at hed
    have hje := List.all_eq_true.1 hed.2 j hj
    obtain ⟨k, hk, hk2⟩ := Array.any_eq_true.1 hje
    simp only [Bool.and_eq_true, decide_eq_true_eq] at hk2
    have he : o.after[k] ∈ o.after := Array.getElem_mem hk
    have hlis := hall _ he hk2.1
    rw [hk2.2] at hlis
    have hjlt : j < ops.size := by have := hback p.1 o ho _ he hk2.1; omega
    have := (hun j hjlt).2 hm
    have hj' : j < listed.size := by omega
    simp [hj'] at this hlis
    rw [this] at hlis; cases hlis
   cases m with
   | zero => rw [anyT] at hK; exact hK.elim
   | succ m =>
    cases rem with
    | nil => simp at hpm
    | cons q rem' =>
     rw [anyT] at hK
     have hK' := anyS_mem hK p hpm hrdy
     refine wpOp_mono (fun a' w' ⟨s', X', h', e', k'⟩ => ?_) (op_ok ho ti h hK')
     subst e'
     refine ih m _ _ (by simp [hsz]) (fun r hr => hmem r (dropT_mem.1 hr).1) (fun j hj => ?_) ?_ h' k'
     ·by_cases hji : j = p.1
      ·subst hji
       have : p.1 < listed.size := by omega
       constructor
       ·intro hc; simp [this] at hc
       ·intro hc
        obtain ⟨r, hr, e⟩ := List.mem_map.1 hc
        exact absurd e (dropT_mem.1 hr).2
      ·rw [getD_set_ne true (fun h => hji h.symm), hun j hj]
       constructor
       ·intro hm
        obtain ⟨r, hr, e⟩ := List.mem_map.1 hm
        exact List.mem_map.2 ⟨r, dropT_mem.2 ⟨hr, by rw [e]; exact hji⟩, e⟩
       ·intro hm
        obtain ⟨r, hr, e⟩ := List.mem_map.1 hm
        exact List.mem_map.2 ⟨r, (dropT_mem.1 hr).1, e⟩
     ·have hp1 : p.1 < listed.toList.length := by simp; omega
      have hlf : listed.toList[p.1] = false := by
       have hp2 : p.1 < listed.size := by omega
       simpa [hp2] using h1
      simp only [Array.set!_eq_setIfInBounds, Array.toList_setIfInBounds]
      rw [List.count_set hp1, hlf, hc]
      simp
def idxX : Nat → List (Ins × List Nat) → List OpT
 | _, [] => []
 | k, p :: l => (k, p) :: idxX (k + 1) l
theorem idxX_mem {l : List (Ins × List Nat)} : ∀ {k : Nat} {p : OpT}, p ∈ idxX k l → k ≤ p.1 ∧ l[p.1 - k]? = some p.2 := by
 induction l with
 | nil => intro k p h; simp [idxX] at h
 | cons e l ih =>
  intro k p h
  rcases List.mem_cons.1 h with rfl | h
  ·simp
  ·obtain ⟨h1, h2⟩ := ih h
   refine ⟨by omega, ?_⟩
   rw [show p.1 - k = (p.1 - (k + 1)) + 1 by omega]
   simpa using h2
theorem idxX_fst {l : List (Ins × List Nat)} : ∀ {k j : Nat}, j ∈ (idxX k l).map (·.1) ↔ k ≤ j ∧ j < k + l.length := by
 induction l with
 | nil => intro k j; simp [idxX]
 | cons e l ih =>
  intro k j
  simp only [idxX, List.map_cons, List.mem_cons, ih, List.length_cons]
  omega
theorem execs_tiny {G : Gl} {id : Nat} {ops : Array Oper} {l : List (Ins × List Nat)} {Q : Exit → Act → World → Prop} {K : St → Prop} (hm : P.follows .mixedOrders = true) (hl : ops.size = l.length)
  (htr : ∀ (k : Nat) p, l[k]? = some p → ∃ o, ops[k]? = some o ∧ TrI P ops o p.1 ∧ edgesB o k p.2 = true) (hQ : ∀ s X a, Rel G X s a → K s → Q .normal a X.w) {s : St} {X : Cx} {a : Act} (h : Rel G X s a)
  (hK : anyT P (l.length + 1) (idxX 0 l) s K) : (Code.region id ops true).wp P Q a X.w := by
 refine wp_region_any hm ?_
 have hX : Rel G { X with w := { X.w with drawn := X.w.drawn + 1 } } s a := by
  have hcell : ∀ b o, World.cell? { X.w with drawn := X.w.drawn + 1 } ⟨b, o, none⟩ = X.w.cell? ⟨b, o, none⟩ := fun b o => World.cell?_of_block rfl
  refine h.change (fun _ => True) (fun _ _ h => h) ⟨fun b o v hM hc => ⟨(hcell b o).trans hc, hM⟩, fun g L hg _ _ => ⟨hg, rfl, fun _ h => h⟩, rfl, fun _ => .of rfl⟩ (fun i d hd => .inl ⟨trivial, fun _ _ => rfl⟩)
   (fun k bx hk => .inl ⟨trivial, fun _ _ => trivial, rfl, fun _ _ _ _ _ _ => rfl⟩) ⟨rfl, rfl, rfl, Nat.le_refl _, fun _ _ => rfl⟩ (fun b _ o => Iff.rfl)
 refine anyT_ok (X := { X with w := { X.w with drawn := X.w.drawn + 1 } }) hl htr hQ ops.size (l.length + 1) (idxX 0 l) _ (by simp) (fun p hp => by simpa using (idxX_mem hp).2) (fun j hj => ?_) (by simp) hX hK
 rw [idxX_fst]
 simp [hj, ← hl]
end Go.Proofs.YtnjphclbpgajpaaGreatDoor.Vc
namespace Go.Proofs.YtnjphclbpgajpaaGreatDoor.Vc
open Go.RowKit
variable {P : Program}
def zeroB : List DV → Bool
 | [] => true
 | .p _ :: ds | .ow _ _ _ :: ds | .top :: ds => zeroB ds
 | _ => false
theorem zeroB_ok {k : Nat} : ∀ {ds : List DV}, zeroB ds = true → ∀ d, d ∈ ds → d.ment k = false
 | [], _, d, hd => by simp at hd
 | .p x :: ds, h, d, hd => by
  rcases List.mem_cons.1 hd with hd | hd
  ·subst hd; rfl
  ·exact zeroB_ok (by simpa [zeroB] using h) d hd
 | .ow a b c :: ds, h, d, hd => by
  rcases List.mem_cons.1 hd with hd | hd
  ·subst hd; rfl
  ·exact zeroB_ok (by simpa [zeroB] using h) d hd
 | .top :: ds, h, d, hd => by
  rcases List.mem_cons.1 hd with hd | hd
  ·subst hd; rfl
  ·exact zeroB_ok (by simpa [zeroB] using h) d hd
 | .tup _ :: _, h, _, _ => by simp [zeroB] at h
 | .addr _ _ _ _ :: _, h, _, _ => by simp [zeroB] at h
 | .bs _ _ _ _ _ :: _, h, _, _ => by simp [zeroB] at h
 | .fn _ _ :: _, h, _, _ => by simp [zeroB] at h
structure Al (i : Ins) (k size d : Nat) (zero : List DV) : Prop where
 k : i.k = .alloc k size zero
 g : i.g = none
 x : i.xs = []
 d : i.d = some d
 z : zeroB zero = true
def alB (i : Ins) : Option (Nat × Nat × Nat × List DV) :=
 match i with
 | ⟨some d, none, .alloc k size zero, []⟩ => if zeroB zero then some (k, size, d, zero) else none
 | _ => none
theorem alB_ok {i : Ins} {k size d : Nat} {zero : List DV} (h : alB i = some (k, size, d, zero)) : Al i k size d zero := by
 unfold alB at h
 split at h
 ·split at h
  ·rename_i hz
   simp at h
   obtain ⟨rfl, rfl, rfl, rfl⟩ := h
   exact ⟨rfl, rfl, rfl, rfl, hz⟩
  ·cases h
 ·cases h
def okI (i : Ins) : Bool := (alB i).isSome || tame i
def indepA (p i : Ins) : Bool :=
 match alB p, alB i with
 | none, none => indep p i
 | some (_, _, d, _), none => !(looks i).contains d && i.d != some d
 | none, some (_, _, d, _) => !(looks p).contains d && p.d != some d
 | some (k, _, d, _), some (k', _, d', _) => k != k' && d != d'
structure InvA (l : List Ins) (s : St) : Prop where
 ok : ∀ i, i ∈ l → okI i = true
 dis : (l.filterMap fun i => (alB i).map (·.1)).Nodup
 no : ∀ i, i ∈ l → ∀ k size d zero, alB i = some (k, size, d, zero) → NoK k s ∧ k < s.b.length
theorem tame_of {i : Ins} (h : okI i = true) (ha : alB i = none) : tame i = true := by simpa [okI, ha] using h
theorem tame_iff {i : Ins} (h : tame i = true) {s : St} {K : St → Prop} : execG P i s K ↔ ∃ s', StepK P i s s' ∧ K s' := by
 simp only [tame, Bool.and_eq_true, Option.isNone_iff_eq_none] at h
 rw [execG_iff h.2.1 h.2.2.1]
 exact ⟨fun ⟨s', a, b⟩ => ⟨s', stepI_iff.1 a, b⟩, fun ⟨s', a, b⟩ => ⟨s', stepI_iff.2 a, b⟩⟩
theorem al_iff {i : Ins} {k size d : Nat} {zero : List DV} (h : Al i k size d zero) {s : St} (hN : NoK k s) (hlt : k < s.b.length) {K : St → Prop} : execG P i s K ↔ (zero.length = size ∧ K (al k size d zero s)) :=
 execG_al h.k h.g h.x h.d hN hlt
theorem InvA.step {x : Ins} {l1 l2 : List Ins} {s : St} {K : St → Prop} (hI : InvA (l1 ++ x :: l2) s) (h : execG P x s K) : execG P x s (fun s' => K s' ∧ InvA (l1 ++ l2) s') := by
 have hx : x ∈ l1 ++ x :: l2 := by simp
 have hsub : ∀ i, i ∈ l1 ++ l2 → i ∈ l1 ++ x :: l2 := by
  intro i hi
  rcases List.mem_append.1 hi with hi | hi
  ·simp [hi]
  ·simp [hi]
 have hdis : ((l1 ++ l2).filterMap fun i => (alB i).map (·.1)).Nodup := by
  refine hI.dis.sublist (List.Sublist.filterMap _ ?_)
  exact List.Sublist.append (List.Sublist.refl _) (List.sublist_cons_self _ _)
 cases ha : alB x with
 | none =>
  have ht := tame_of (hI.ok x hx) ha
  obtain ⟨s', h1, h2⟩ := (tame_iff ht).1 h
  refine (tame_iff ht).2 ⟨s', h1, h2, fun i hi => hI.ok i (hsub i hi), hdis, fun i hi k size d zero hk => ?_⟩
  obtain ⟨n1, n2⟩ := hI.no i (hsub i hi) k size d zero hk
  obtain ⟨m1, m2⟩ := n1.step ht h1
  exact ⟨m1, by rw [m2]; exact n2⟩
 | some q =>
  obtain ⟨k, size, d, zero⟩ := q
  have hA := alB_ok ha
  obtain ⟨n1, n2⟩ := hI.no x hx k size d zero ha
  rw [al_iff hA n1 n2] at h ⊢
  refine ⟨h.1, h.2, fun i hi => hI.ok i (hsub i hi), hdis, fun i hi k' size' d' zero' hk => ?_⟩
  obtain ⟨m1, m2⟩ := hI.no i (hsub i hi) k' size' d' zero' hk
  have hne : k ≠ k' := by
   intro e
   subst e
   have hd := hI.dis
   rw [List.filterMap_append, List.filterMap_cons, ha] at hd
   simp only [Option.map_some] at hd
   rw [List.nodup_append] at hd
   rcases List.mem_append.1 hi with hi | hi
   ·exact hd.2.2 k (List.mem_filterMap.2 ⟨i, hi, by rw [hk]; rfl⟩) k (by simp) rfl
   ·exact (List.nodup_cons.1 hd.2.1).1 (List.mem_filterMap.2 ⟨i, hi, by rw [hk]; rfl⟩)
  exact ⟨m1.al hne (zeroB_ok hA.z), by simp [al, setL_length]; exact m2⟩
theorem swapA {p i : Ins} (h : indepA p i = true) {l1 l2 l3 : List Ins} {s : St} {K : St → Prop} (hI : InvA (l1 ++ p :: (l2 ++ i :: l3)) s) (hx : execG P p s (fun s => execG P i s K)) : execG P i s (fun s => execG P p s K) := by
 have mp : p ∈ l1 ++ p :: (l2 ++ i :: l3) := by simp
 have mi : i ∈ l1 ++ p :: (l2 ++ i :: l3) := by simp
 unfold indepA at h
 cases hp : alB p with
 | none =>
  have tp := tame_of (hI.ok p mp) hp
  cases hi : alB i with
  | none => rw [hp, hi] at h; exact swap h hx
  | some q =>
   obtain ⟨k, size, d, zero⟩ := q
   rw [hp, hi] at h
   simp only [Bool.and_eq_true, Bool.not_eq_true', bne_iff_ne, ne_eq] at h
   have hA := alB_ok hi
   obtain ⟨n1, n2⟩ := hI.no i mi k size d zero hi
   obtain ⟨s1, h1, h2⟩ := (tame_iff tp).1 hx
   obtain ⟨m1, m2⟩ := n1.step tp h1
   rw [al_iff hA m1 (by rw [m2]; exact n2)] at h2
   rw [al_iff hA n1 n2]
   exact ⟨h2.1, (tame_iff tp).2 ⟨_, al_right tp (by simpa using h.1) h.2 n1 h1, h2.2⟩⟩
 | some q =>
  obtain ⟨k, size, d, zero⟩ := q
  have hA := alB_ok hp
  obtain ⟨n1, n2⟩ := hI.no p mp k size d zero hp
  rw [al_iff hA n1 n2] at hx
  cases hi : alB i with
  | none =>
   have ti := tame_of (hI.ok i mi) hi
   rw [hp, hi] at h
   simp only [Bool.and_eq_true, Bool.not_eq_true', bne_iff_ne, ne_eq] at h
   obtain ⟨s2, h1, h2⟩ := (tame_iff ti).1 hx.2
   obtain ⟨s', h3, h4⟩ := al_left ti (by simpa using h.1) h.2 n1 h1
   subst h4
   obtain ⟨m1, m2⟩ := n1.step ti h3
   refine (tame_iff ti).2 ⟨s', h3, ?_⟩
   rw [al_iff hA m1 (by rw [m2]; exact n2)]
   exact ⟨hx.1, h2⟩
  | some q' =>
   obtain ⟨k', size', d', zero'⟩ := q'
   have hA' := alB_ok hi
   rw [hp, hi] at h
   simp only [Bool.and_eq_true, bne_iff_ne, ne_eq] at h
   obtain ⟨n1', n2'⟩ := hI.no i mi k' size' d' zero' hi
   have hx2 := hx.2
   rw [al_iff hA' (n1'.al h.1 (zeroB_ok hA.z)) (by simp [al, setL_length]; exact n2')] at hx2
   rw [al_iff hA' n1' n2']
   refine ⟨hx2.1, ?_⟩
   rw [al_iff hA (n1.al (fun e => h.1 e.symm) (zeroB_ok hA'.z)) (by simp [al, setL_length]; exact n2)]
   refine ⟨hx.1, ?_⟩
   rw [al_al h.1 h.2]; exact hx2.2
theorem swapFrontA {i : Ins} {K : St → Prop} {post : List Ins} : ∀ {pre : List Ins}, (∀ j, j ∈ pre → indepA j i = true) → ∀ {s : St}, InvA (pre ++ i :: post) s → execs P (pre ++ i :: post) s K → execG P i s (fun s => execs P (pre ++ post) s K)
 | [], _, _, _, h => h
 | p :: pre, hp, s, hI, h => by
  have h0 : execG P p s (fun s' => execs P (pre ++ i :: post) s' K ∧ InvA (pre ++ i :: post) s') := InvA.step (l1 := []) hI h
  have h1 : execG P p s (fun s' => execG P i s' (fun s'' => execs P (pre ++ post) s'' K)) :=
   execG_mono (fun s' hs' => swapFrontA (fun j hj => hp j (List.mem_cons_of_mem _ hj)) hs'.2 hs'.1) h0
  exact swapA (l1 := []) (hp p List.mem_cons_self) hI h1
theorem execs_drawA {G : Gl} {id : Nat} {ops : Array Oper} {is : List Ins} {Q : Exit → Act → World → Prop} {K : St → Prop} (hm : P.follows .mixedOrders = true) (hl : ops.size = is.length)
  (htr : ∀ (k : Nat) i, is[k]? = some i → ∃ o, ops[k]? = some o ∧ TrI P ops o i) (hp : pairsW indepA ops is = true) (hQ : ∀ s X a, Rel G X s a → K s → Q .normal a X.w) {s : St} {X : Cx} {a : Act} (h : Rel G X s a) (hI : InvA is s) (hK : execs P is s K) :
  (Code.region id ops true).wp P Q a X.w :=
 execs_drawW (ind := indepA) (Inv := InvA) (fun _ _ _ _ hind hI hK => hI.step (swapFrontA hind hI hK)) hm hl htr hp hQ h hI hK
def invB (is : List Ins) (s : St) : Bool :=
 is.all fun i => match alB i with
  | some (k, _, _, _) => decide (k < s.b.length) && (noRefT k s.t && noRefB k 0 s.b)
  | none => true
def stB (is : List Ins) : Bool := is.all okI && decide (is.filterMap fun i => (alB i).map (·.1)).Nodup
theorem invA_of {is : List Ins} {s : St} (h1 : stB is = true) (h2 : invB is s = true) : InvA is s := by
 simp only [stB, Bool.and_eq_true, decide_eq_true_eq, List.all_eq_true] at h1
 refine ⟨h1.1, h1.2, fun i hi k size d zero hk => ?_⟩
 have := List.all_eq_true.1 h2 i hi
 rw [hk] at this
 simp only [Bool.and_eq_true, decide_eq_true_eq] at this
 obtain ⟨t1, t2, t3⟩ := this
 refine ⟨⟨noRefT_iff.1 t2, fun j bx hj hne r hr x hx => ?_⟩, t1⟩
 exact noRefR_iff.1 (noRefB_iff.1 t3 j bx hj (by simpa using hne)) r hr x hx
def movB (i : Ins) : Bool := match i with
 | ⟨some _, none, .mov false, [.t _]⟩ => true
 | _ => false
def indepM (p i : Ins) : Bool := indep p i || (movB p && (i.g.isNone && apartI p i))
structure InvM (l : List Ins) (s : St) : Prop where
 top : ∀ i, i ∈ l → movB i = true → ∀ d, i.d = some d → getT s.t d = .top
 dis : (l.filterMap (·.d)).Nodup
theorem mov_is {p : Ins} (h : movB p = true) : ∃ d n, p = ⟨some d, none, .mov false, [.t n]⟩ := by
 obtain ⟨d, g, k, xs⟩ := p
 unfold movB at h
 split at h
 ·rename_i e; exact ⟨_, _, e⟩
 ·cases h
theorem mov_iff {d n : Nat} {s : St} {K : St → Prop} : execG P ⟨some d, none, .mov false, [.t n]⟩ s K ↔ K ⟨setL s.t d (getT s.t n).copy, s.b⟩ :=
 ⟨fun h => h.2, fun h => ⟨trivial, h⟩⟩
theorem degV_top (κ : Kd) : degV κ .top = .top := by
 unfold degV
 split
 ·rfl
 ·rfl
theorem U_top {i : Ins} {v : DV} {t : List DV} {d : Nat} (h : getT t d = .top) (hd : i.d ≠ some d) : getT (U i v t) d = .top := by
 rw [getT_eq] at h ⊢
 rw [U_get, if_neg hd]
 split
 ·cases hx : t[d]? with
  | none => rfl
  | some y => rw [hx] at h; simp at h; subst h; simp [degV_top]
 ·exact h
theorem execG_top {i : Ins} {s : St} {K : St → Prop} (h : execG P i s K) : execG P i s (fun s' => K s' ∧ ∀ d, getT s.t d = .top → i.d ≠ some d → getT s'.t d = .top) := by
 have ex : ∀ {s : St} {K : St → Prop}, exec P i s K → exec P i s (fun s' => K s' ∧ ∀ d, getT s.t d = .top → i.d ≠ some d → getT s'.t d = .top) := fun h => ⟨h.1, semJ_mono (fun w b' hk => ⟨hk, fun d h1 h2 => U_top h1 h2⟩) h.2⟩
 have st : ∀ {t : List DV} {j : Nat} {x : DV} {d : Nat}, getT t j ≠ .top → getT t d = .top → getT (setL t j x) d = .top := by
  intro t j x d h1 h2
  have hne : d ≠ j := fun e => h1 (e ▸ h2)
  rw [getT_eq] at h2 ⊢
  rw [getElem?_setL, if_neg hne]
  exact h2
 have sp : ∀ {t : List DV} {d : Nat}, getT t d = .top → i.d ≠ some d → getT (putD t i.d (.tup [])) d = .top := by
  intro t d h1 h2
  cases hi : i.d with
  | none => exact h1
  | some e =>
   have hne : d ≠ e := fun e' => h2 (by rw [hi, e'])
   simp only [putD]
   rw [getT_eq] at h1 ⊢
   rw [getElem?_setL, if_neg hne]
   exact h1
 unfold execG at h ⊢
 cases hg : i.g with
 | none => rw [hg] at h; exact ex h
 | some q =>
  obtain ⟨j, w⟩ := q
  rw [hg] at h
  simp only at h ⊢
  split at h
  ·rename_i c hc
   refine ⟨fun e => ?_, fun e => ⟨h.2 e, fun d h1 h2 => sp (st (by rw [hc]; intro h; cases h) h1) h2⟩⟩
   have h5 := ex (h.1 e)
   exact ⟨h5.1, semJ_mono (fun w b' hs => ⟨hs.1, fun d h1 h2 => hs.2 d (st (by rw [hc]; intro h; cases h) h1) h2⟩) h5.2⟩
  ·exact ⟨h, fun d h1 h2 => sp h1 h2⟩
  ·exact h.elim
theorem InvM.step {x : Ins} {l1 l2 : List Ins} {s : St} {K : St → Prop} (hI : InvM (l1 ++ x :: l2) s) (h : execG P x s K) : execG P x s (fun s' => K s' ∧ InvM (l1 ++ l2) s') := by
 have hsub : ∀ i, i ∈ l1 ++ l2 → i ∈ l1 ++ x :: l2 := by
  intro i hi
  rcases List.mem_append.1 hi with hi | hi
  ·simp [hi]
  ·simp [hi]
 have hdis : ((l1 ++ l2).filterMap (·.d)).Nodup := by
  refine hI.dis.sublist (List.Sublist.filterMap _ ?_)
  exact List.Sublist.append (List.Sublist.refl _) (List.sublist_cons_self _ _)
 refine execG_mono (fun s' hs => ⟨hs.1, fun i hi hm d hd => hs.2 d (hI.top i (hsub i hi) hm d hd) fun e => ?_, hdis⟩) (execG_top h)
 have hn := hI.dis
 rw [List.filterMap_append, List.filterMap_cons, e] at hn
 simp only at hn
 rw [List.nodup_append] at hn
 rcases List.mem_append.1 hi with hi | hi
 ·exact hn.2.2 d (List.mem_filterMap.2 ⟨i, hi, hd⟩) d (by simp) rfl
 ·exact (List.nodup_cons.1 hn.2.1).1 (List.mem_filterMap.2 ⟨i, hi, hd⟩)
theorem top_ment {k d : Nat} {v : DV} {t : List DV} {o : Option Nat} (hd : o ≠ some d) (ht : getT t d = .top) (h : ∀ x, x ∈ putD (setL t d v) o .top → x.ment k = false) : ∀ x, x ∈ putD t o .top → x.ment k = false := by
 intro x hx
 obtain ⟨n, hn⟩ := List.getElem?_of_mem hx
 by_cases e : n = d
 ·subst e
  have : x = .top := by
   rw [getT_eq] at ht
   cases ho : o with
   | none => rw [ho] at hn; simp only [putD] at hn; rw [hn] at ht; exact ht
   | some m =>
    rw [ho] at hn
    simp only [putD, getElem?_setL] at hn
    rw [if_neg (fun e => hd (by rw [ho, e]))] at hn
    rw [hn] at ht; exact ht
  subst this; rfl
 ·refine h x (List.mem_of_getElem? (i := n) ?_)
  cases ho : o with
  | none => rw [ho] at hn; simp only [putD] at hn ⊢; rw [getElem?_setL, if_neg e]; exact hn
  | some m =>
   rw [ho] at hn
   simp only [putD, getElem?_setL] at hn ⊢
   rw [if_neg e]; exact hn
theorem top_lt {k d : Nat} {v : DV} {t : List DV} {o : Option Nat} (hd : o ≠ some d) (ht : getT t d = .top) (h : ltT k (putD (setL t d v) o .top) = true) : ltT k (putD t o .top) = true := by
 have key : ∀ {l : List DV}, ltT k l = true ↔ ∀ x, x ∈ l → ltD k x = true := by
  intro l
  induction l with
  | nil => simp [ltT]
  | cons x xs ih => simp [ltT, ih]
 rw [key] at h ⊢
 intro x hx
 obtain ⟨n, hn⟩ := List.getElem?_of_mem hx
 by_cases e : n = d
 ·subst e
  have : x = .top := by
   rw [getT_eq] at ht
   cases ho : o with
   | none => rw [ho] at hn; simp only [putD] at hn; rw [hn] at ht; exact ht
   | some m =>
    rw [ho] at hn
    simp only [putD, getElem?_setL] at hn
    rw [if_neg (fun e => hd (by rw [ho, e]))] at hn
    rw [hn] at ht; exact ht
  subst this; rfl
 ·refine h x (List.mem_of_getElem? (i := n) ?_)
  cases ho : o with
  | none => rw [ho] at hn; simp only [putD] at hn ⊢; rw [getElem?_setL, if_neg e]; exact hn
  | some m =>
   rw [ho] at hn
   simp only [putD, getElem?_setL] at hn ⊢
   rw [if_neg e]; exact hn
theorem swapM {p i : Ins} (h : indepM p i = true) {l1 l2 l3 : List Ins} {s : St} {K : St → Prop} (hI : InvM (l1 ++ p :: (l2 ++ i :: l3)) s) (hx : execG P p s (fun s => execG P i s K)) : execG P i s (fun s => execG P p s K) := by
 unfold indepM at h
 rw [Bool.or_eq_true] at h
 rcases h with h | h
 ·exact swap h hx
 ·simp only [Bool.and_eq_true, Option.isNone_iff_eq_none] at h
  obtain ⟨hm, hg, ha⟩ := h
  have ha := apartI_ok ha
  have ht := hI.top p (by simp) hm
  obtain ⟨d, n, rfl⟩ := mov_is hm
  have ht := ht d rfl
  rw [mov_iff] at hx
  obtain ⟨d1, d2⟩ := ha.d1 d rfl
  have hid : i.d ≠ some d := fun e => d2 e.symm
  unfold execG at hx ⊢
  rw [hg] at hx ⊢
  simp only at hx ⊢
  obtain ⟨hf, hs⟩ := hx
  refine ⟨?_, ?_⟩
  ·unfold fresh at hf ⊢
   cases hk : newBox i.k with
   | some k =>
    rw [hk] at hf
    exact ⟨hf.1, noRefT_iff.2 (top_ment hid ht (noRefT_iff.1 hf.2.1)), hf.2.2⟩
   | none =>
    rw [hk] at hf
    cases hgr : growB i.k with
    | false => trivial
    | true =>
     simp only [hgr, cond_true, Bool.and_eq_true] at hf ⊢
     exact ⟨top_lt hid ht hf.1, hf.2⟩
  ·rw [vals_congr (t := s.t) (t' := setL s.t d (getT s.t n).copy) (get_off d1 s.t _)] at hs
   refine semJ_mono (fun w b' hk => ?_) hs
   refine ⟨trivial, ?_⟩
   have e1 : putD (degr i.k.core i.xs (setL s.t d (getT s.t n).copy)) i.d w = setL (U i w s.t) d (getT s.t n).copy := U_off d1 hid w _ s.t
   rw [e1] at hk
   have e2 := ha.symm.vals w s.t
   simp only [List.map_cons, List.map_nil, O.val, List.cons.injEq, and_true] at e2
   show K ⟨setL (U i w s.t) d (getT (U i w s.t) n).copy, b'⟩
   rw [e2]; exact hk
theorem swapFrontM {i : Ins} {K : St → Prop} {post : List Ins} : ∀ {pre : List Ins}, (∀ j, j ∈ pre → indepM j i = true) → ∀ {s : St}, InvM (pre ++ i :: post) s → execs P (pre ++ i :: post) s K → execG P i s (fun s => execs P (pre ++ post) s K)
 | [], _, _, _, h => h
 | p :: pre, hp, s, hI, h => by
  have h0 : execG P p s (fun s' => execs P (pre ++ i :: post) s' K ∧ InvM (pre ++ i :: post) s') := InvM.step (l1 := []) hI h
  have h1 : execG P p s (fun s' => execG P i s' (fun s'' => execs P (pre ++ post) s'' K)) :=
   execG_mono (fun s' hs' => swapFrontM (fun j hj => hp j (List.mem_cons_of_mem _ hj)) hs'.2 hs'.1) h0
  exact swapM (l1 := []) (hp p List.mem_cons_self) hI h1
theorem execs_drawM {G : Gl} {id : Nat} {ops : Array Oper} {is : List Ins} {Q : Exit → Act → World → Prop} {K : St → Prop} (hm : P.follows .mixedOrders = true) (hl : ops.size = is.length)
  (htr : ∀ (k : Nat) i, is[k]? = some i → ∃ o, ops[k]? = some o ∧ TrI P ops o i) (hp : pairsW indepM ops is = true) (hQ : ∀ s X a, Rel G X s a → K s → Q .normal a X.w) {s : St} {X : Cx} {a : Act} (h : Rel G X s a) (hI : InvM is s) (hK : execs P is s K) :
  (Code.region id ops true).wp P Q a X.w :=
 execs_drawW (ind := indepM) (Inv := InvM) (fun _ _ _ _ hind hI hK => hI.step (swapFrontM hind hI hK)) hm hl htr hp hQ h hI hK
def isTop : DV → Bool
 | .top => true
 | _ => false
def invM (is : List Ins) (s : St) : Bool :=
 is.all fun i => match movB i, i.d with
  | true, some d => isTop (getT s.t d)
  | _, _ => true
def stM (is : List Ins) : Bool := decide (is.filterMap (·.d)).Nodup
theorem invM_of {is : List Ins} {s : St} (h1 : stM is = true) (h2 : invM is s = true) : InvM is s := by
 refine ⟨fun i hi hm d hd => ?_, of_decide_eq_true h1⟩
 have := List.all_eq_true.1 h2 i hi
 rw [hm, hd] at this
 simp only at this
 cases hx : getT s.t d <;> rw [hx] at this <;> first | rfl | (cases this)
end Go.Proofs.YtnjphclbpgajpaaGreatDoor.Vc
namespace Go.Proofs.YtnjphclbpgajpaaGreatDoor.Vc
open Go.RowKit
variable {P : Program}
def forget (t : List DV) : List Nat → List DV
 | [] => t
 | n :: ns => forget (setL t n .top) ns
theorem Rel.forget {G : Gl} {X : Cx} {a : Act} (fs : List Nat) : ∀ {t : List DV} {b : List (Option Box)}, Rel G X ⟨t, b⟩ a → Rel G X ⟨Vc.forget t fs, b⟩ a := by
 induction fs with
 | nil => exact fun h => h
 | cons f fs ih => exact fun h => ih (h.weak f .top trivial)
def dvK (v : DV) (K : DV → Prop) : Prop :=
 match v with
 | .top => K .top
 | .p x => K (.p x)
 | .ow a b c => K (.ow a b c)
 | .tup ds => K (.tup ds)
 | .addr a b c d => K (.addr a b c d)
 | .bs a b c d e => K (.bs a b c d e)
 | .fn f cs => K (.fn f cs)
 | .mh k => K (.mh k)
 | .ob T => K (.ob T)
 | .pk o => K (.pk o)
 | .agd cs => K (.agd cs)
theorem dvK_eq (v : DV) (K : DV → Prop) : dvK v K = K v := by cases v <;> rfl
def spD (r : List DV) (K : List DV → Prop) : Prop :=
 List.rec (motive := fun _ => (List DV → Prop) → Prop) (fun K => K []) (fun x _ ih K => dvK x fun x => ih fun ys => K (x :: ys)) r K
theorem spD_eq (r : List DV) (K : List DV → Prop) : spD r K = K r := by
 induction r generalizing K with
 | nil => rfl
 | cons x r ih => show dvK x (fun x => spD r fun ys => K (x :: ys)) = _; rw [dvK_eq, ih]
def testB (b : Bool) (A : Prop) : Prop :=
 match b with
 | true => A
 | false => False
theorem testB_eq (b : Bool) (A : Prop) : testB b A = (b = true ∧ A) := by cases b <;> simp [testB]
def add3 : List (List DV) → List Int → List (List DV)
 | [.p k, d] :: rs, s :: ss => [.p k, d, .p (.int .i64 s)] :: add3 rs ss
 | rs, _ => rs
def two (r : List DV) : Bool := match r with
 | [.p _, _] => true
 | _ => false
theorem add3_get : ∀ {rs : List (List DV)} {ss : List Int} (_ : rs.length = ss.length) (_ : ∀ r, r ∈ rs → two r = true), (add3 rs ss).length = rs.length ∧
  ∀ (i : Nat) row, (add3 rs ss)[i]? = some row → ∃ k d s, rs[i]? = some [.p k, d] ∧ ss[i]? = some s ∧ row = [.p k, d, .p (.int .i64 s)]
 | [], [], _, _ => ⟨rfl, fun i row h => by simp [add3] at h⟩
 | [], _ :: _, h, _ => by simp at h
 | _ :: _, [], h, _ => by simp at h
 | r :: rs, s :: ss, hl, h2 => by
  obtain ⟨k, d, rfl⟩ : ∃ k d, r = [.p k, d] := by
   have := h2 r (by simp)
   unfold two at this
   split at this
   ·exact ⟨_, _, rfl⟩
   ·cases this
  obtain ⟨e1, e2⟩ := add3_get (rs := rs) (ss := ss) (by simpa using hl) (fun r hr => h2 r (by simp [hr]))
  refine ⟨by simp [add3, e1], fun i row h => ?_⟩
  cases i with
  | zero => simp [add3] at h; subst h; exact ⟨k, d, s, rfl, rfl, rfl⟩
  | succ i => simp only [add3, List.getElem?_cons_succ] at h ⊢; exact e2 i row h
theorem BX.stamps {X : Cx} {base k : Nat} {rows : List (List DV)} {live old : Bool} (h : BX X base k ⟨live, 0, rows, old⟩) (h2 : ∀ r, r ∈ rows → two r = true) :
  ∃ ss : List Int, ss.length = rows.length ∧ ss.Nodup ∧ BX X base k ⟨live, 0, add3 rows ss, old⟩ := by
 unfold BX at h
 rw [if_pos rfl] at h
 obtain ⟨blk, es, clock, m1, m2, m3, m4, m5, m6, m0, m7⟩ := h
 simp only at m5 m7
 have hl : (es.toList.map fun e => (e.born : Int)).length = rows.length := by simpa using m5
 refine ⟨es.toList.map fun e => (e.born : Int), hl, ?_, ?_⟩
 ·have := m0.2
  rw [List.nodup_iff_pairwise_ne, List.pairwise_map] at this ⊢
  exact this.imp fun h e => h (by exact_mod_cast e)
 ·unfold BX
  rw [if_pos rfl]
  obtain ⟨a1, a2⟩ := add3_get (rs := rows) (ss := es.toList.map fun e => (e.born : Int)) hl.symm h2
  refine ⟨blk, es, clock, m1, m2, m3, m4, by simp only; rw [a1]; exact m5, m6, m0, fun i row e hr he => ?_⟩
  obtain ⟨kk, d, s, g1, g2, g3⟩ := a2 i row hr
  obtain ⟨q, n, d', f1, f2, f3⟩ := m7 i _ e g1 he
  have hs : s = e.born := by
   have he' : es.toList[i]? = some e := by simpa using he
   rw [List.getElem?_map, he'] at g2
   simpa [eq_comm] using g2
  injection f1 with f1 f4
  injection f1 with f1
  injection f4 with f4 f5
  subst f1; subst f4; subst hs
  exact ⟨kk, true, d, g3, f2, f3⟩
def drop3 : List (List DV) → List (List DV)
 | [] => []
 | [k, d, _] :: rs => [k, d] :: drop3 rs
 | r :: rs => r :: drop3 rs
theorem drop3_get : ∀ {rs : List (List DV)} {i : Nat} {row : List DV}, (drop3 rs)[i]? = some row → ∃ r, rs[i]? = some r ∧ ((∃ k d u, r = [k, d, u] ∧ row = [k, d]) ∨ row = r)
 | [], i, row, h => by simp [drop3] at h
 | r :: rs, i, row, h => by
  unfold drop3 at h
  split at h
  ·rename_i e; cases e
  ·rename_i e
   injection e with e1 e2
   subst e1; subst e2
   cases i with
   | zero => simp only [List.getElem?_cons_zero, Option.some.injEq] at h; exact ⟨_, rfl, .inl ⟨_, _, _, rfl, h.symm⟩⟩
   | succ i => obtain ⟨r', h1, h2⟩ := drop3_get (i := i) (by simpa using h); exact ⟨r', by simpa using h1, h2⟩
  ·rename_i e
   injection e with e1 e2
   subst e1; subst e2
   cases i with
   | zero => simp only [List.getElem?_cons_zero, Option.some.injEq] at h; exact ⟨_, rfl, .inr h.symm⟩
   | succ i => obtain ⟨r', h1, h2⟩ := drop3_get (i := i) (by simpa using h); exact ⟨r', by simpa using h1, h2⟩
theorem drop3_length : ∀ (rs : List (List DV)), (drop3 rs).length = rs.length
 | [] => rfl
 | r :: rs => by
  unfold drop3
  split
  ·rename_i e; cases e
  ·rename_i e; injection e with e1 e2; subst e1; subst e2; simp [drop3_length]
  ·rename_i e; injection e with e1 e2; subst e1; subst e2; simp [drop3_length]
theorem BX.unstamp {X : Cx} {base k : Nat} {rows : List (List DV)} {live old : Bool} (h : BX X base k ⟨live, 0, rows, old⟩) : BX X base k ⟨live, 0, drop3 rows, old⟩ := by
 unfold BX at h ⊢
 rw [if_pos rfl] at h ⊢
 obtain ⟨blk, es, clock, m1, m2, m3, m4, m5, m6, m0, m7⟩ := h
 refine ⟨blk, es, clock, m1, m2, m3, m4, by simp only [drop3_length]; exact m5, m6, m0, fun i row e hr he => ?_⟩
 obtain ⟨r, h1, h2⟩ := drop3_get hr
 obtain ⟨q, n, d, f1, f2, f3⟩ := m7 i r e h1 he
 rcases h2 with ⟨k', d', u, h3, h4⟩ | h2
 ·rw [h3] at f1
  injection f1 with f1 f4
  injection f4 with f4 f5
  subst f1; subst f4; subst h4
  exact ⟨q, false, _, rfl, f2, f3⟩
 ·subst h2; exact ⟨q, n, d, f1, f2, f3⟩
theorem Rel.setBX {G : Gl} {X : Cx} {s : St} {a : Act} (h : Rel G X s a) {k : Nat} {bx : Box} (hb : BX X G.base k bx) : Rel G X ⟨s.t, setL s.b k (some bx)⟩ a :=
 ⟨h.defers, h.size, h.tmps, fun j bx' hj => by
  rcases setB_get hj with ⟨rfl, rfl⟩ | ⟨_, hj⟩
  ·exact hb
  ·exact h.boxes j bx' hj, h.below, h.hb, h.mold⟩
inductive Gh where
 | opn (is : List Ins) (a : O) (j : Nat) (ag : Bool)
 | opm (is : List Ins) (m : O) (j : Nat)
 | shut (a : O) (off : Nat)
 | shm (is : List Ins) (m : O)
 | trim (n : Nat)
 | forget (fs : List Nat)
 | stamp (is : List Ins) (m : O)
 | unst (is : List Ins) (m : O)
 | lay (k n : Nat)
def dryB : Kd → Bool
 | .mov false | .fad _ | .iad _ | .load _ _ false | .at _ (.load _ _ false) | .loadp _ _ | .fld _ _ _ | .bin _ | .conv _ | .nilchk => true
 | _ => false
def dryS (P : Program) : List Ins → List DV → List (Option Box) → (List DV → Prop) → Prop
 | [], t, _, K => K t
 | i :: is, t, b, K => dryB i.k = true ∧ semI P i.k.core (i.xs.map (O.val t)) b fun v _ => dryS P is (putD t i.d v) b K
def trimB : List (Option Box) → List (Option Box)
 | [] => []
 | x :: xs => match x, trimB xs with
  | none, [] => []
  | x, l => x :: l
def trimN : Nat → List (Option Box) → List (Option Box)
 | 0, b => trimB b
 | _ + 1, [] => []
 | n + 1, x :: b => x :: trimN n b
def freshJ (j k : Nat) (s : St) : Bool := decide (j ≠ k) && (decide (j < s.b.length) && (noRefT j s.t && noRefB j 0 s.b))
def openD (s : St) (k r off j : Nat) (ag : Bool) (bx : Box) (row : List DV) (d : DV) (K : St → Prop) : Prop :=
 match d with
 | .ob T => testB bx.live (testB (freshJ j k s) (opnK j ag T (fun _ => K s) fun d' bx' => K ⟨s.t, setL (setL s.b k (some { bx with rows := setL bx.rows r (setL row off d') })) j (some bx')⟩))
 | _ => K s
def ClQ (rows : List (List DV)) (n : Nat) (x : List (List Ob)) : Prop := clRs rows = some x ∧ n = rows.length
def shutD (s : St) (k r off : Nat) (bx : Box) (row : List DV) (d : DV) (K : St → Prop) : Prop :=
 match d with
 | .addr j sz 0 0 => match getR s.b j with
  | some bj => match bj.rows with
   | [cr] => match clR cr with
    | some cells => testB (bx.live && (bj.live && (decide (bj.size ≠ 0) && (decide (j ≠ k) && decide (sz = bj.size))))) (K ⟨s.t, setL (setL s.b k (some { bx with rows := setL bx.rows r (setL row off (.ob (.ptr cells))) })) j none⟩)
    | none => False
   | _ => False
  | none => False
 | .bs j sz ag 0 n => match getR s.b j with
  | some bj => ∃ rows', ClQ bj.rows n rows' ∧ testB (bx.live && (bj.live && (decide (bj.size ≠ 0) && (decide (j ≠ k) && decide (sz = bj.size))))) (K ⟨s.t, setL (setL s.b k (some { bx with rows := setL bx.rows r (setL row off (.ob (.sl bj.size false rows'))) })) j none⟩)
  | none => False
 | .mh j => match getR s.b j with
  | some bj => ∃ kv : List PV × List Ob, clM bj.rows = some kv ∧ testB (bx.live && (bj.live && (decide (bj.size = 0) && decide (j ≠ k)))) (K ⟨s.t, setL (setL s.b k (some { bx with rows := setL bx.rows r (setL row off (.ob (.mp kv.1 kv.2))) })) j none⟩)
  | none => False
 | _ => K s
def layK (s : St) (k n : Nat) (K : St → Prop) : Prop :=
 match getR s.b k with
 | some bx => match bx.live, Nat.beq bx.size n, bx.rows with
  | true, true, [row] => spD row fun row => match bx.old with
   | true => K ⟨s.t, setL s.b k (some ⟨true, n, [row], true⟩)⟩
   | false => K ⟨s.t, setL s.b k (some ⟨true, n, [row], false⟩)⟩
  | _, _, _ => K s
 | none => K s
theorem setL_getR {b : List (Option Box)} : ∀ {k : Nat} {bx : Box}, getR b k = some bx → setL b k (some bx) = b := by
 induction b with
 | nil => intro k bx h; simp [getR] at h
 | cons x b ih =>
  intro k bx h
  cases k with
  | zero => simp only [getR] at h; simp only [setL, h]
  | succ k => simp only [getR] at h; simp only [setL, ih h]
theorem layK_eq (s : St) (k n : Nat) (K : St → Prop) : layK s k n K = K s := by
 unfold layK
 split
 ·rename_i bx hb
  split
  ·rename_i row h1 h2 h3
   rw [spD_eq]
   have hs := setL_getR hb
   have h4 := Nat.eq_of_beq_eq_true h2
   clear h2
   obtain ⟨live, size, rows, old⟩ := bx
   simp only at h1 h4 h3 hs
   subst h1; subst h4; subst h3
   cases old <;> simp only [hs]
  ·rfl
 ·rfl
def ghK (P : Program) (g : Gh) (s : St) (K : St → Prop) : Prop :=
 match g with
 | .trim n => K ⟨s.t, trimN n s.b⟩
 | .forget fs => K ⟨Vc.forget s.t fs, s.b⟩
 | .lay k n => layK s k n K
 | .opn is a j ag => dryS P is s.t s.b fun t' => match a.val t' with
  | .addr k sz r off => match getB s.b k with
   | some bx => ∃ row, bx.rows[r]? = some row ∧ ∃ d, row[off]? = some d ∧ openD s k r off j ag bx row d K
   | none => False
  | _ => K s
 | .stamp is m => dryS P is s.t s.b fun t' => match m.val t' with
  | .mh k => match getM s.b k with
   | some bx => (∀ r, r ∈ bx.rows → two r = true) ∧ ∀ ss : List Int, ss.length = bx.rows.length → ss.Nodup → K ⟨s.t, setL s.b k (some { bx with rows := add3 bx.rows ss })⟩
   | none => False
  | _ => K s
 | .unst is m => dryS P is s.t s.b fun t' => match m.val t' with
  | .mh k => match getM s.b k with
   | some bx => K ⟨s.t, setL s.b k (some { bx with rows := drop3 bx.rows })⟩
   | none => K s
  | _ => K s
 | .opm is m j => dryS P is s.t s.b fun t' => match m.val t' with
  | .mh k => match getM s.b k with
   | some bx => ∃ fr : Option (Nat × PV × Ob), match fr with
    | some (r, kk, T) => bx.rows[r]? = some [.p kk, .ob T] ∧ openD s k r 1 j false bx [.p kk, .ob T] (.ob T) K
    | none => K s
   | none => False
  | _ => K s
 | .shut a off => match a.val s.t with
  | .addr k sz r o => match getB s.b k with
   | some bx => ∃ row, bx.rows[r]? = some row ∧ ∃ d, row[o + off]? = some d ∧ shutD s k r (o + off) bx row d K
   | none => K s
  | _ => K s
 | .shm is m => dryS P is s.t s.b fun t' => match m.val t' with
  | .mh k => match getM s.b k with
   | some bx => ∃ fr : Option (Nat × PV × DV), match fr with
    | some (r, kk, d) => bx.rows[r]? = some [.p kk, d] ∧ shutD s k r 1 bx [.p kk, d] d K
    | none => K s
   | none => K s
  | _ => K s
theorem binPV_ex {op : BinOp} {x y : PV} {K : PV → Prop} (h : binPV op x y K) : ∃ z, K z := by
 unfold binPV at h
 split at h
 ·split at h <;> first | exact ⟨_, h.2⟩ | exact ⟨_, h.2.2⟩
 ·split at h <;> first | exact ⟨_, h⟩ | exact ⟨_, h.2⟩ | exact h.elim
 ·exact h.elim
theorem loadP_ex {cells : List PV} {off n : Nat} {ag : Bool} {K : PV → Prop} (h : loadP cells off n ag K) : ∃ z, K z := by
 unfold loadP at h
 split at h
 ·exact ⟨_, h.2⟩
 ·obtain ⟨c, _, h⟩ := h; exact ⟨c, h⟩
theorem semI_ex {κ : Kd} (hd : dryB κ = true) (ha : ∀ k κ', κ ≠ .at k κ') {vs : List DV} {b : List (Option Box)} {K : DV → List (Option Box) → Prop} (h : semI P κ vs b K) : ∃ v b', K v b' := by
 cases κ with
 | «at» k κ => exact absurd rfl (ha _ _)
 | nilchk =>
  rcases vs with _ | ⟨x, _ | ⟨y, ys⟩⟩
  ·exact False.elim h
  ·simp only [semI] at h
   split at h
   ·exact ⟨_, _, h⟩
   ·exact ⟨_, _, h⟩
   ·exact ⟨_, _, h⟩
   ·exact h.elim
  ·simp [semI] at h
 | mov take =>
  match vs, h with
  | [x], h => exact ⟨_, _, h⟩
 | fad off =>
  match vs, h with
  | [.addr _ _ _ _], h => exact ⟨_, _, h⟩
  | [.p (.ptr _ _)], h => exact ⟨_, _, h⟩
 | fld off n ag =>
  match vs, h with
  | [.p (.agg cs)], h => obtain ⟨z, h⟩ := loadP_ex (show loadP cs off n ag fun x => K (.p x) b from h); exact ⟨_, _, h⟩
 | loadp n ag =>
  match vs, h with
  | [.p (.ptr cells off)], h => obtain ⟨z, h⟩ := loadP_ex (show loadP cells off n ag fun x => K (.p x) b from h); exact ⟨_, _, h⟩
 | bin op =>
  match vs, h with
  | [.p x, .p y], h => obtain ⟨z, h⟩ := binPV_ex (show binPV op x y fun z => K (.p z) b from h); exact ⟨_, _, h⟩
 | conv k =>
  match vs, h with
  | [.p (.int _ n)], h => exact ⟨_, _, h⟩
 | iad size =>
  rcases vs with _ | ⟨x, _ | ⟨y, _ | ⟨z, zs⟩⟩⟩
  ·exact False.elim h
  ·exact False.elim h
  ·cases y with
   | p w => cases w with
    | int k i => cases x with
     | p u => cases u with
      | sl sz nl rows => obtain ⟨_, _, row, _, h⟩ := h; exact ⟨_, _, h⟩
      | _ => exact False.elim h
     | ow sz nl rows => obtain ⟨_, _, row, _, h⟩ := h; exact ⟨_, _, h⟩
     | bs k sz ag lo n => obtain ⟨_, _, _, h⟩ := h; exact ⟨_, _, h⟩
     | _ => exact False.elim h
    | _ => exact False.elim h
   | _ => exact False.elim h
  ·simp [semI] at h
 | load n ag take =>
  match vs, h with
  | [.p (.ptr cells off)], h => obtain ⟨z, h⟩ := loadP_ex (show loadP cells off n ag fun x => K (.p x) b from h); exact ⟨_, _, h⟩
  | [.addr k sz r off], h =>
   simp only [semI] at h
   split at h
   ·obtain ⟨_, row, _, _, h⟩ := h
    split at h
    ·split at h
     ·exact ⟨_, _, h⟩
     ·exact h.elim
    ·obtain ⟨d, _, h⟩ := h; exact ⟨_, _, h⟩
   ·exact h.elim
 | _ => cases hd
theorem dryS_ex {is : List Ins} : ∀ {t : List DV} {b : List (Option Box)} {K : List DV → Prop}, dryS P is t b K → ∃ t', K t' := by
 induction is with
 | nil => exact fun {t b K} h => ⟨t, h⟩
 | cons i is ih =>
  intro t b K h
  obtain ⟨hd, h⟩ := h
  have h2 : dryB i.k.core = true ∧ ∀ k κ', i.k.core ≠ .at k κ' := by
   generalize i.k = κ at hd
   unfold dryB at hd
   split at hd <;> first | exact ⟨rfl, fun _ _ e => by cases e⟩ | cases hd
  obtain ⟨v, _, h⟩ := semI_ex h2.1 h2.2 h
  exact ih h
theorem trimB_get : ∀ {b : List (Option Box)} {k : Nat} {bx : Box}, (trimB b)[k]? = some (some bx) → b[k]? = some (some bx)
 | [], k, bx, h => by simp [trimB] at h
 | x :: xs, k, bx, h => by
  unfold trimB at h
  split at h
  ·simp at h
  ·cases k with
   | zero => simpa using h
   | succ k => have := trimB_get (b := xs) (k := k) (bx := bx) (by simpa using h); simpa using this
theorem trimN_get : ∀ {n : Nat} {b : List (Option Box)} {k : Nat} {bx : Box}, (trimN n b)[k]? = some (some bx) → b[k]? = some (some bx)
 | 0, b, k, bx, h => trimB_get h
 | _ + 1, [], k, bx, h => by simp [trimN] at h
 | n + 1, x :: b, k, bx, h => by
  unfold trimN at h
  cases k with
  | zero => simpa using h
  | succ k => have := trimN_get (n := n) (b := b) (k := k) (bx := bx) (by simpa using h); simpa using this
theorem Rel.trim {G : Gl} {X : Cx} {s : St} {a : Act} (h : Rel G X s a) (n : Nat) : Rel G X ⟨s.t, trimN n s.b⟩ a :=
 ⟨h.defers, h.size, h.tmps, fun k bx hk => h.boxes k bx (trimN_get hk), h.below, h.hb, h.mold⟩
theorem opnK_opens {j : Nat} {ag : Bool} {T : Ob} {C : Prop} {K : DV → Box → Prop} (h : opnK j ag T (fun _ => C) K) : C ∨ ∃ sz d bx, Opens j ag T sz d bx ∧ K d bx := by
 cases T with
 | p x => exact h.elim
 | ch c l => exact h.elim
 | ptr cells =>
  cases cells with
  | nil => exact h.elim
  | cons c cs => exact .inr ⟨_, _, _, .ptr _ (by simp), h⟩
 | sl size nl rows =>
  cases size with
  | zero => exact h.elim
  | succ n => cases nl with
   | true => exact .inl h
   | false => exact .inr ⟨_, _, _, .sl _ _ (by omega), h⟩
 | mp keys vals => exact .inr ⟨_, _, _, .mp _ _, h⟩
theorem open_ok {G : Gl} {X : Cx} {s : St} {a : Act} (h : Rel G X s a) {k r off j : Nat} {ag : Bool} {bx : Box} {row : List DV} {d : DV} {K : St → Prop} (hk : s.b[k]? = some (some bx)) (hr : bx.rows[r]? = some row) (hd : row[off]? = some d) (hm : bx.size = 0 → off = 1)
  (hK : openD s k r off j ag bx row d K) : ∃ X' s', X'.w = X.w ∧ Rel G X' s' a ∧ K s' := by
 cases d with
 | ob T =>
  simp only [openD, testB_eq, freshJ, Bool.and_eq_true, decide_eq_true_eq] at hK
  obtain ⟨hl, ⟨hjk, _, hT, hB⟩, hK⟩ := hK
  rcases opnK_opens hK with hC | ⟨sz, d', bx', ho, hC⟩
  ·exact ⟨X, s, rfl, h, hC⟩
  ·obtain ⟨X', e, _, h'⟩ := h.opn hk hl hr hd hm ho hjk hT hB
   exact ⟨X', _, e, h', hC⟩
 | _ => exact ⟨X, s, rfl, h, hK⟩
theorem shut_ok {G : Gl} {X : Cx} {s : St} {a : Act} (h : Rel G X s a) {k r off : Nat} {bx : Box} {row : List DV} {d : DV} {K : St → Prop} (hk : s.b[k]? = some (some bx)) (hr : bx.rows[r]? = some row) (hd : row[off]? = some d) (hm : bx.size = 0 → off = 1)
  (hK : shutD s k r off bx row d K) : ∃ X' s', X'.w = X.w ∧ Rel G X' s' a ∧ K s' := by
 have skip : K s → ∃ X' s', X'.w = X.w ∧ Rel G X' s' a ∧ K s' := fun hK => ⟨X, s, rfl, h, hK⟩
 unfold shutD at hK
 split at hK
 ·split at hK
  ·rename_i bj hj
   split at hK
   ·rename_i cr hcr
    split at hK
    ·rename_i cells hcl
     simp only [testB_eq, Bool.and_eq_true, decide_eq_true_eq] at hK
     obtain ⟨⟨hl, hlj, hs0, hjk, rfl⟩, hK⟩ := hK
     obtain ⟨X', e, h'⟩ := h.cls hk hl hr hd hm (getR_some.1 hj) hlj (.ptr cr cells hcr hcl hs0) hjk
     exact ⟨X', _, e, h', hK⟩
    ·exact hK.elim
   ·exact hK.elim
  ·exact hK.elim
 ·split at hK
  ·rename_i bj hj
   simp only [testB_eq, Bool.and_eq_true, decide_eq_true_eq] at hK
   obtain ⟨rows', ⟨hcl, rfl⟩, ⟨hl, hlj, hs0, hjk, rfl⟩, hK⟩ := hK
   obtain ⟨X', e, h'⟩ := h.cls hk hl hr hd hm (getR_some.1 hj) hlj (.sl _ rows' hcl hs0) hjk
   exact ⟨X', _, e, h', hK⟩
  ·exact hK.elim
 ·split at hK
  ·rename_i bj hj
   simp only [testB_eq, Bool.and_eq_true, decide_eq_true_eq] at hK
   obtain ⟨⟨ks, vs⟩, hcl, ⟨hl, hlj, hs0, hjk⟩, hK⟩ := hK
   obtain ⟨X', e, h'⟩ := h.cls hk hl hr hd hm (getR_some.1 hj) hlj (.mp ks vs hcl hs0) hjk
   exact ⟨X', _, e, h', hK⟩
  ·exact hK.elim
 ·exact skip hK
theorem gh_ok {G : Gl} {X : Cx} {s : St} {a : Act} (h : Rel G X s a) {g : Gh} {K : St → Prop} (hK : ghK P g s K) : ∃ X' s', X'.w = X.w ∧ Rel G X' s' a ∧ K s' := by
 have skip : K s → ∃ X' s', X'.w = X.w ∧ Rel G X' s' a ∧ K s' := fun hK => ⟨X, s, rfl, h, hK⟩
 cases g with
 | trim n => exact ⟨X, _, rfl, h.trim n, hK⟩
 | forget fs => exact ⟨X, _, rfl, h.forget fs (t := s.t) (b := s.b), hK⟩
 | lay k n =>
  simp only [ghK, layK_eq] at hK
  exact ⟨X, s, rfl, h, hK⟩
 | opn is o j ag =>
  obtain ⟨t', hK⟩ := dryS_ex hK
  split at hK
  ·split at hK
   ·rename_i bx hb
    obtain ⟨row, hr, d, hd, hK⟩ := hK
    exact open_ok h (getB_some hb) hr hd (fun e => absurd e (getB_ne hb)) hK
   ·exact hK.elim
  ·exact skip hK
 | stamp is m =>
  obtain ⟨t', hK⟩ := dryS_ex hK
  split at hK
  ·split at hK
   ·rename_i bx hb
    obtain ⟨h1, h2⟩ := getM_some hb
    obtain ⟨live, size, rows, old⟩ := bx
    simp only at h2
    subst h2
    obtain ⟨ss, e1, e2, e3⟩ := (h.boxes _ _ h1).stamps hK.1
    exact ⟨X, _, rfl, h.setBX e3, hK.2 ss e1 e2⟩
   ·exact hK.elim
  ·exact skip hK
 | unst is m =>
  obtain ⟨t', hK⟩ := dryS_ex hK
  split at hK
  ·split at hK
   ·rename_i bx hb
    obtain ⟨h1, h2⟩ := getM_some hb
    obtain ⟨live, size, rows, old⟩ := bx
    simp only at h2
    subst h2
    exact ⟨X, _, rfl, h.setBX (h.boxes _ _ h1).unstamp, hK⟩
   ·exact skip hK
  ·exact skip hK
 | opm is m j =>
  obtain ⟨t', hK⟩ := dryS_ex hK
  split at hK
  ·split at hK
   ·rename_i bx hb
    obtain ⟨fr, hK⟩ := hK
    split at hK
    ·exact open_ok h (getM_some hb).1 hK.1 rfl (fun _ => rfl) hK.2
    ·exact skip hK
   ·exact hK.elim
  ·exact skip hK
 | shut o off =>
  simp only [ghK] at hK
  split at hK
  ·split at hK
   ·rename_i bx hb
    obtain ⟨row, hr, d, hd, hK⟩ := hK
    exact shut_ok h (getB_some hb) hr hd (fun e => absurd e (getB_ne hb)) hK
   ·exact skip hK
  ·exact skip hK
 | shm is m =>
  obtain ⟨t', hK⟩ := dryS_ex hK
  split at hK
  ·split at hK
   ·rename_i bx hb
    obtain ⟨fr, hK⟩ := hK
    split at hK
    ·exact shut_ok h (getM_some hb).1 hK.1 rfl (fun _ => rfl) hK.2
    ·exact skip hK
   ·exact skip hK
  ·exact skip hK
theorem noRefT_dvs (j : Nat) : ∀ (l : List Ob), noRefT j (dvs l) = true
 | [] => rfl
 | T :: l => by
  simp only [dvs, noRefT, noRefT_dvs j l, Bool.and_true]
  cases T <;> rfl
theorem noRefR_dvss (j : Nat) : ∀ (l : List (List Ob)), noRefR j (dvss l) = true
 | [] => rfl
 | r :: l => by simp only [dvss, noRefR, noRefT_dvs, noRefR_dvss j l, Bool.and_true]
theorem noRefR_zipR (j : Nat) : ∀ (ks : List PV) (vs : List Ob), noRefR j (zipR ks vs) = true
 | [], vs => by cases vs <;> rfl
 | _ :: _, [] => rfl
 | k :: ks, v :: vs => by
  simp only [zipR, noRefR, noRefR_zipR j ks vs, Bool.and_true]
  cases v <;> rfl
theorem noRefR_setL {j : Nat} {row : List DV} (h : noRefT j row = true) : ∀ {rows : List (List DV)} {i : Nat}, noRefR j rows = true → noRefR j (setL rows i row) = true
 | [], i, _ => by cases i <;> rfl
 | r :: rows, 0, h2 => by
  simp only [setL, noRefR, h, Bool.true_and]
  simp only [noRefR, Bool.and_eq_true] at h2
  exact h2.2
 | r :: rows, i + 1, h2 => by
  simp only [noRefR, Bool.and_eq_true] at h2
  simp only [setL, noRefR, h2.1, Bool.true_and]
  exact noRefR_setL h h2.2
end Go.Proofs.YtnjphclbpgajpaaGreatDoor.Vc
namespace Go.Proofs.YtnjphclbpgajpaaGreatDoor.Vc
open Go.RowKit
variable {P : Program}
inductive C where
 | stuck
 | skip
 | reg (ops : List Ins)
 | regd (ops : List Ins)
 | rega (ops : List Ins)
 | seq (a b : C)
 | cond (c : O) (a b : C)
 | block (id : Nat) (c : C)
 | loop (fs ds : List Nat) (c : C)
 | exit (id : Nat)
 | ret
 | pre (fs zs ds : List Nat) (c : C)
 | own (i k : Nat) (ag : Bool) (c : C)
 | regx (ops : List (Ins × List Nat))
 | regm (ops : List Ins)
 | gh (g : Gh) (c : C)
 | gp (c : C) (g : Gh)
def dropB (b : List (Option Box)) : List Nat → List (Option Box)
 | [] => b
 | k :: ks => dropB (setL b k none) ks
def fixB (b : List (Option Box)) (zs : List Nat) (K : List (Option Box) → Prop) : Prop :=
 match zs with
 | [] => K b
 | k :: ks => match getB b k with
  | some bx => allPR (copiesR bx.rows) = true ∧ fixB (setL b k (some ⟨false, bx.size, copiesR bx.rows, bx.old⟩)) ks K
  | none => fixB b ks K
def PV.scal : PV → Bool
 | .int _ _ | .bool _ | .str _ => true
 | .fn _ [] => true
 | _ => false
def DV.scal : DV → Bool
 | .top | .tup [] | .addr _ _ _ _ | .bs _ _ _ _ _ => true
 | .p x => x.scal
 | .fn _ caps => caps.all fun | .addr _ _ _ _ => true | .p x => x.scal
 | _ => false
def scalT (i : Nat) : Nat → List DV → Bool
 | _, [] => true
 | j, d :: ds => (j == i || d.scal) && scalT i (j + 1) ds
def scalR : List (List DV) → Bool
 | [] => true
 | r :: rs => r.all DV.scal && scalR rs
def scalB (k : Nat) : Nat → List (Option Box) → Bool
 | _, [] => true
 | j, x :: xs => (j == k || match x with | some bx => scalR bx.rows | none => true) && scalB k (j + 1) xs
def ownRows : List PV → List (List DV)
 | [] => []
 | x :: xs => (rowCells x).map DV.p :: ownRows xs
def iter (f : St → (St → Prop) → Prop) : Nat → St → Prop
 | 0, _ => False
 | n + 1, s => f s (iter f n)
def vc (P : Program) : C → St → (St → Prop) → (Nat → St → Prop) → (St → Prop) → Prop
 | .stuck, _, _, _, _ => False
 | .skip, s, n, _, _ => n s
 | .reg ops, s, n, _, _ => execs P ops s n
 | .regd ops, s, n, _, _ => execs P ops s n
 | .rega ops, s, n, _, _ => invB ops s = true ∧ execs P ops s n
 | .seq a b, s, n, x, r => vc P a s (fun s' => vc P b s' n x r) x r
 | .cond c a b, s, n, x, r => match c, c.val s.t with
  | .t j, .p (.bool t) => (t = true → vc P a ⟨setL s.t j (.p (.bool true)), s.b⟩ n x r) ∧ (t = false → vc P b ⟨setL s.t j (.p (.bool false)), s.b⟩ n x r)
  | .c _, .p (.bool t) => (t = true → vc P a s n x r) ∧ (t = false → vc P b s n x r)
  | _, _ => False
 | .block id c, s, n, x, r => vc P c s n (fun j s' => if j = id then n s' else x j s') r
 | .loop fs ds c, s, _, x, r => ∃ k, iter (fun s' N => vc P c s' (fun s2 => N ⟨forget s2.t fs, dropB s2.b ds⟩) x r) k ⟨forget s.t fs, dropB s.b ds⟩
 | .exit id, s, _, x, _ => x id s
 | .ret, s, _, _, r => r s
 | .pre fs zs ds c, s, n, x, r => fixB s.b zs fun b => vc P c ⟨forget s.t fs, dropB b ds⟩ n x r
 | .own i k ag c, s, n, x, r => match getT s.t i with
  | .ow size _ rows => (decide (size ≠ 0) && (decide (k < s.b.length) && (noRefT k s.t && (noRefB k 0 s.b && (scalT i 0 s.t && scalB k 0 s.b))))) = true ∧ rows ≠ [] ∧ scalR (ownRows rows) = true ∧ vc P c ⟨setL s.t i (.bs k size ag 0 rows.length), setL s.b k (some ⟨true, size, ownRows rows, false⟩)⟩ n x r
  | _ => False
 | .regx ops, s, n, _, _ => anyT P (ops.length + 1) (idxX 0 ops) s n
 | .regm ops, s, n, _, _ => invM ops s = true ∧ execs P ops s n
 | .gh g c, s, n, x, r => ghK P g s fun s' => vc P c s' n x r
 | .gp c g, s, n, x, r => vc P c s (fun s' => ghK P g s' n) x r
inductive TrC (P : Program) : C → Code → Prop
 | stuck (x : Code) : TrC P .stuck x
 | skip : TrC P .skip .skip
 | reg (id : Nat) (ops : Array Oper) (is : List Ins) (hl : ops.size = is.length) (h : ∀ (k : Nat) i, is[k]? = some i → ∃ o, ops[k]? = some o ∧ TrI P ops o i) : TrC P (.reg is) (.region id ops false)
 | regd (id : Nat) (ops : Array Oper) (is : List Ins) (hm : P.follows .mixedOrders = true) (hl : ops.size = is.length) (h : ∀ (k : Nat) i, is[k]? = some i → ∃ o, ops[k]? = some o ∧ TrI P ops o i) (hp : pairsB ops is = true) : TrC P (.regd is) (.region id ops true)
 | rega (id : Nat) (ops : Array Oper) (is : List Ins) (hm : P.follows .mixedOrders = true) (hl : ops.size = is.length) (h : ∀ (k : Nat) i, is[k]? = some i → ∃ o, ops[k]? = some o ∧ TrI P ops o i) (hs : stB is = true) (hp : pairsW indepA ops is = true) : TrC P (.rega is) (.region id ops true)
 | regm (id : Nat) (ops : Array Oper) (is : List Ins) (hm : P.follows .mixedOrders = true) (hl : ops.size = is.length) (h : ∀ (k : Nat) i, is[k]? = some i → ∃ o, ops[k]? = some o ∧ TrI P ops o i) (hs : stM is = true) (hp : pairsW indepM ops is = true) : TrC P (.regm is) (.region id ops true)
 | seq (a b : C) (x y : Code) (ha : TrC P a x) (hb : TrC P b y) : TrC P (.seq a b) (.seq x y)
 | cond (o : O) (c : Operand) (a b : C) (x y : Code) (ho : OT c o) (ha : TrC P a x) (hb : TrC P b y) : TrC P (.cond o a b) (.cond c x y)
 | block (id : Nat) (a : C) (x : Code) (ha : TrC P a x) : TrC P (.block id a) (.block id x)
 | loop (fs ds : List Nat) (a : C) (x : Code) (ha : TrC P a x) : TrC P (.loop fs ds a) (.loop x)
 | exit (id : Nat) : TrC P (.exit id) (.exit id)
 | ret : TrC P .ret .ret
 | pre (fs zs ds : List Nat) (a : C) (x : Code) (ha : TrC P a x) : TrC P (.pre fs zs ds a) x
 | own (i k : Nat) (ag : Bool) (a : C) (x : Code) (ha : TrC P a x) : TrC P (.own i k ag a) x
 | gh (g : Gh) (a : C) (x : Code) (ha : TrC P a x) : TrC P (.gh g a) x
 | gp (g : Gh) (a : C) (x : Code) (ha : TrC P a x) : TrC P (.gp a g) x
 | regx (id : Nat) (ops : Array Oper) (l : List (Ins × List Nat)) (hm : P.follows .mixedOrders = true) (hl : ops.size = l.length) (h : ∀ (k : Nat) p, l[k]? = some p → ∃ o, ops[k]? = some o ∧ TrI P ops o p.1 ∧ edgesB o k p.2 = true) : TrC P (.regx l) (.region id ops true)
def QOf (G : Gl) (n : St → Prop) (x : Nat → St → Prop) (r : St → Prop) : Exit → Act → World → Prop
 | .normal, a, w => Post G n a w
 | .exit j, a, w => Post G (x j) a w
 | .ret, a, w => Post G r a w
 | _, _, _ => False
theorem Rel.dropB {G : Gl} {X : Cx} {a : Act} (ds : List Nat) : ∀ {t : List DV} {b : List (Option Box)}, Rel G X ⟨t, b⟩ a → Rel G X ⟨t, Vc.dropB b ds⟩ a := by
 induction ds with
 | nil => exact fun h => h
 | cons k ks ih =>
  intro t b h
  refine ih (b := setL b k none) ⟨h.defers, h.size, h.tmps, fun j bx hj => ?_, h.below, h.hb, h.mold⟩
  simp only [getElem?_setL] at hj
  split at hj
  ·cases hb : b[j]? <;> rw [hb] at hj <;> simp at hj
  ·exact h.boxes j bx hj
theorem copiesR_eq (rs : List (List DV)) : copiesR rs = rs.map copies := by induction rs with | nil => rfl | cons r rs ih => simp [copiesR, ih]
theorem Rel.fix {G : Gl} {X : Cx} {t : List DV} {b : List (Option Box)} {a : Act} (h : Rel G X ⟨t, b⟩ a) {k : Nat} {bx : Box} (hk : getB b k = some bx) (hp : allPR (copiesR bx.rows) = true) :
  ∃ X', X'.w = X.w ∧ Rel G X' ⟨t, setL b k (some ⟨false, bx.size, copiesR bx.rows, bx.old⟩)⟩ a := by
 obtain ⟨blk, cs, ty, hb⟩ := h.cbox (getB_some hk) (getB_ne hk)
 generalize hX : ({ X with M := fun c o => X.M c o ∧ c ≠ blk } : Cx) = X'
 have eM : ∀ c o, X'.M c o ↔ X.M c o ∧ c ≠ blk := by subst hX; exact fun _ _ => Iff.rfl
 have ew : X'.w = X.w := by subst hX; rfl
 have eo : X'.own = X.own := by subst hX; rfl
 have eρ : X'.ρ = X.ρ := by subst hX; rfl
 have eex : X'.ex = X.ex := by subst hX; rfl
 have hev : Ev (fun L => L ≠ .box k) X X' := by
  refine ⟨fun c o v hM hc => ⟨by rw [ew]; exact hc, fun h => hM ((eM c o).1 h).1⟩, fun g L hg hS _ => ⟨by rw [eo]; exact hg, by rw [ew], fun o hM => (eM g o).2 ⟨hM, fun e => ?_⟩⟩, eex, fun g => by rw [ew]; exact .refl _ _⟩
  subst e
  rw [hb.own] at hg
  injection hg with hg
  exact hS hg.symm
 refine ⟨X', ew, h.defers, h.size, fun i d hd => (h.tmps i d hd).mono (fun _ _ _ h => by cases h) hev (by simp) fun _ _ => by rw [eρ], ?_, by rw [ew]; exact h.below, by rw [ew]; exact h.hb, eex.trans h.mold.1, fun c hc hx o => ?_⟩
 ·intro j bx' hj
  rcases setB_get hj with ⟨rfl, rfl⟩ | ⟨hne, hj⟩
  ·refine BX.cell (blk := blk) (cs := cs) (ty := ty) (show bx.size ≠ 0 from getB_ne hk) ⟨by rw [eρ]; exact hb.ρ, by rw [eo]; exact hb.own, by rw [eex]; exact hb.hbase, by rw [ew]; exact hb.heap, by simpa [copiesR_eq] using hb.size, ?_, ?_, (fun hl => by cases hl), fun _ => ⟨fun o _ hM => ((eM blk o).1 hM).2 rfl, fun row hrow d hd => allP_get (allPR_get hp hrow) hd⟩⟩
   ·intro row hrow
    rw [copiesR_eq] at hrow
    obtain ⟨row0, hr0, rfl⟩ := List.mem_map.1 hrow
    rw [copies_eq, List.length_map]
    exact hb.width row0 hr0
   ·intro r o row d u hrow hd hu
    rw [copiesR_eq, List.getElem?_map] at hrow
    cases hr0 : bx.rows[r]? with
    | none => rw [hr0] at hrow; simp at hrow
    | some row0 =>
     rw [hr0] at hrow
     simp at hrow
     subst hrow
     rw [copies_eq, List.getElem?_map] at hd
     cases hd0 : row0[o]? with
     | none => rw [hd0] at hd; simp at hd
     | some d0 =>
      rw [hd0] at hd
      simp at hd
      subst hd
      obtain ⟨f1, f2⟩ := hb.cells r o row0 d0 u hr0 hd0 hu
      exact ⟨(f1.copy (.cell j r o)).mono (fun _ _ _ h => by cases h) hev (by simp) fun _ _ => by rw [eρ], f2⟩
  ·exact (h.boxes j bx' hj).mono (fun _ _ _ h => by cases h) hev (by simp [hne]) (fun _ _ => by simp) (by rw [eρ]) fun _ _ _ _ _ _ => by rw [eρ]
 ·rw [eM]
  exact ⟨fun h' => (h.mold.2 c hc hx o).1 h'.1, fun h' => ⟨(h.mold.2 c hc hx o).2 h', fun e => by subst e; exact hb.hbase.1.elim (fun h => by omega) (fun ⟨j', h'⟩ => hx _ (by rw [← h.mold.1]; exact h'))⟩⟩
theorem Rel.fixes {G : Gl} {a : Act} {K : List (Option Box) → Prop} (zs : List Nat) : ∀ {X : Cx} {t : List DV} {b : List (Option Box)}, Rel G X ⟨t, b⟩ a → fixB b zs K → ∃ X' b', X'.w = X.w ∧ Rel G X' ⟨t, b'⟩ a ∧ K b' := by
 induction zs with
 | nil => exact fun {X t b} h hK => ⟨X, b, rfl, h, hK⟩
 | cons k ks ih =>
  intro X t b h hK
  simp only [fixB] at hK
  cases hb : getB b k with
  | none => simp only [hb] at hK; exact ih h hK
  | some bx =>
   simp only [hb] at hK
   obtain ⟨X1, e1, h1⟩ := h.fix hb hK.1
   obtain ⟨X2, b2, e2, h2, hK2⟩ := ih h1 hK.2
   exact ⟨X2, b2, e2.trans e1, h2, hK2⟩
theorem scal_any {X X' : Cx} {base : Nat} {L L' : Loc} {d : DV} (hz : ∀ g, SzAt X.w X'.w g) (hρ : ∀ k b, d.ment k = true → X.ρ k = some b → X'.ρ k = some b) (hd : d.scal = true) {v : Value} (h : VRel X base L d v) : VRel X' base L' d v := by
 have pv : ∀ {x : PV} {v : Value}, x.scal = true → Flat X.M X.w x v → Flat X'.M X'.w x v := by
  intro x v hx hf
  cases hf with
  | int k n => exact .int k n
  | bool b => exact .bool b
  | str s => exact .str s
  | fn f caps vs hl hh =>
   cases caps with
   | nil => exact .fn f [] vs hl (fun i c v hc => by simp at hc)
   | cons c cs => simp [PV.scal] at hx
  | _ => simp [PV.scal] at hx
 cases d with
 | top => trivial
 | tup ds =>
  cases ds with
  | nil => obtain ⟨vs, h1, h2, _⟩ := h; exact ⟨vs, h1, h2, fun j d u hd => by simp at hd⟩
  | cons _ _ => simp [DV.scal] at hd
 | p x => exact pv hd h
 | addr k sz r off => obtain ⟨b, h1, h2⟩ := h; exact ⟨b, hρ _ _ (by simp [DV.ment]) h1, h2⟩
 | bs k sz ag lo n => obtain ⟨b, cap, h1, h2, h3, ⟨cs, ty, h4, h5⟩, h6⟩ := h; obtain ⟨cs2, ty2, g1, g2⟩ := hz b cs ty h4; exact ⟨b, cap, hρ _ _ (by simp [DV.ment]) h1, h2, h3, ⟨cs2, ty2, g1, by rw [g2]; exact h5⟩, h6⟩
 | fn f caps =>
  obtain ⟨vs, h1, h2, h3⟩ := h
  refine ⟨vs, h1, h2, fun j c u hc hu => ?_⟩
  have hcs := List.all_eq_true.1 hd c (List.mem_of_getElem? hc)
  have := h3 j c u hc hu
  cases c with
  | p x => exact pv hcs this
  | addr k sz r off =>
   obtain ⟨b, h1, h2⟩ := this
   exact ⟨b, hρ _ _ (by simp only [DV.ment, List.any_eq_true]; exact ⟨_, List.mem_of_getElem? hc, by simp⟩) h1, h2⟩
 | _ => simp [DV.scal] at hd
theorem scalT_get {i : Nat} : ∀ {t : List DV} {j0 j : Nat} {d : DV}, scalT i j0 t = true → t[j]? = some d → j0 + j ≠ i → d.scal = true := by
 intro t
 induction t with
 | nil => intro j0 j d _ h; simp at h
 | cons e es ih =>
  intro j0 j d h hd hne
  simp only [scalT, Bool.and_eq_true, Bool.or_eq_true, beq_iff_eq] at h
  cases j with
  | zero => simp at hd; subst hd; exact h.1.resolve_left (by omega)
  | succ j => exact ih h.2 (by simpa using hd) (by omega)
theorem scalR_get {rs : List (List DV)} (h : scalR rs = true) {r : List DV} (hr : r ∈ rs) {d : DV} (hd : d ∈ r) : d.scal = true := by
 induction rs with
 | nil => simp at hr
 | cons e es ih =>
  simp only [scalR, Bool.and_eq_true, List.all_eq_true] at h
  rcases List.mem_cons.1 hr with rfl | hr
  ·exact h.1 d hd
  ·exact ih h.2 hr
theorem scalB_get {k : Nat} : ∀ {b : List (Option Box)} {j0 j : Nat} {bx : Box}, scalB k j0 b = true → b[j]? = some (some bx) → j0 + j ≠ k → scalR bx.rows = true := by
 intro t
 induction t with
 | nil => intro j0 j d _ h; simp at h
 | cons e es ih =>
  intro j0 j d h hd hne
  simp only [scalB, Bool.and_eq_true, Bool.or_eq_true, beq_iff_eq] at h
  cases j with
  | zero => simp at hd; subst hd; exact h.1.resolve_left (by omega)
  | succ j => exact ih h.2 (by simpa using hd) (by omega)
theorem ownRows_eq (rows : List PV) : ownRows rows = rows.map fun x => (rowCells x).map DV.p := by induction rows with | nil => rfl | cons x xs ih => simp [ownRows, ih]
theorem Rel.own {G : Gl} {X : Cx} {s : St} {a : Act} (h : Rel G X s a) {i k size : Nat} {nl ag : Bool} {rows : List PV} (hi : getT s.t i = .ow size nl rows)
  (hc : (decide (size ≠ 0) && (decide (k < s.b.length) && (noRefT k s.t && (noRefB k 0 s.b && (scalT i 0 s.t && scalB k 0 s.b))))) = true) (hne : rows ≠ []) (hrs : scalR (ownRows rows) = true) :
  ∃ X', X'.w = X.w ∧ Rel G X' ⟨setL s.t i (.bs k size ag 0 rows.length), setL s.b k (some ⟨true, size, ownRows rows, false⟩)⟩ a := by
 simp only [Bool.and_eq_true, decide_eq_true_eq] at hc
 obtain ⟨hsz0, hkl, hT, hB, hsT, hsB⟩ := hc
 have hv := h.get i
 rw [hi] at hv
 rcases hv with ⟨h0, _⟩ | ⟨h0, g, cap, cur, ty, g0, g1, g2, g3, g4, g5, g6⟩
 ·exact absurd h0 hne
 ·have hilt : i < s.t.length := by
   refine Nat.lt_of_not_le fun hle => ?_
   rw [getT_eq, List.getElem?_eq_none hle] at hi
   cases hi
  have hglt : g < X.w.heap.size := (Array.getElem?_eq_some_iff.1 g3).1
  generalize hX : ({ X with ρ := (fun j => if j = k then some g else X.ρ j), own := (fun q => if q = g then some (.box k) else X.own q), M := fun b o => X.M b o ∨ b = g } : Cx) = X'
  have ew : X'.w = X.w := by subst hX; rfl
  have eex : X'.ex = X.ex := by subst hX; rfl
  have eρk : X'.ρ k = some g := by subst hX; simp
  have eρ : ∀ j, j ≠ k → X'.ρ j = X.ρ j := by subst hX; intro j hj; simp [hj]
  have eog : X'.own g = some (.box k) := by subst hX; simp
  have eo : ∀ q, q ≠ g → X'.own q = X.own q := by subst hX; intro j hj; simp [hj]
  have eM : ∀ b o, X'.M b o ↔ X.M b o ∨ b = g := by subst hX; exact fun _ _ => Iff.rfl
  have hzA : ∀ g, SzAt X.w X'.w g := fun g => by rw [ew]; exact .refl _ _
  rw [g0] at g5
  have hcells : ∀ (r o : Nat) row c u, rows[r]? = some row → (rowCells row)[o]? = some c → cur[r * size + o]? = some u → Flat X.M X.w c u ∧ c.one = true ∧ (rowCells row).length = size := by
   intro r o row c u hr hcc hu
   cases g5 with
   | sl _ _ b off cap' cv hcap hmax hcv hs h1 hr' =>
    have hrl := (List.getElem?_eq_some_iff.1 hr).1
    have hol := (List.getElem?_eq_some_iff.1 hcc).1
    have hsz := hs row (List.mem_of_getElem? hr)
    have hlt : r * size + o < rows.length * size := by
     have : (r + 1) * size ≤ rows.length * size := Nat.mul_le_mul_right _ hrl
     rw [Nat.add_mul] at this; omega
    have := (hcv (r * size + o) hlt).1
    rw [Nat.zero_add, heap_cell g3, hu] at this
    injection this with this
    rw [this]
    exact ⟨hr' r o row c hr hcc, h1 row (List.mem_of_getElem? hr) c (List.mem_of_getElem? hcc), hsz⟩
   | sl0 => simp at hr
  have hrow : ∀ row, row ∈ rows → (rowCells row).length = size := by
   cases g5 with
   | sl _ _ b off cap' cv hcap hmax hcv hs h1 hr' => exact hs
   | sl0 => intro row hr; simp at hr
  have hrsc : ∀ x, x ∈ rows → ∀ c, c ∈ rowCells x → c.scal = true := fun x hx c hc => by
   rw [ownRows_eq] at hrs
   exact scalR_get hrs (List.mem_map.2 ⟨x, hx, rfl⟩) (d := .p c) (List.mem_map.2 ⟨c, hc, rfl⟩)
  have hcapm : rows.length ≤ cap ∧ cap ≤ maxLen := by
   cases g5 with
   | sl _ _ b off cap' cv hcap hmax hcv hs h1 hr' => exact ⟨hcap, hmax⟩
   | sl0 => exact ⟨Nat.zero_le _, Nat.zero_le _⟩
  refine ⟨X', ew, h.defers, by simpa [setL_length] using h.size, ?_, ?_, by rw [ew]; exact h.below, by rw [ew]; exact h.hb, eex.trans h.mold.1, fun b hb hx o => ?_⟩
  ·intro j d hd
   simp only [getElem?_setL] at hd
   split at hd
   ·rename_i e
    subst e
    rw [List.getElem?_eq_getElem hilt] at hd
    simp only [Option.map_some, Option.some.injEq] at hd
    subst hd
    exact ⟨g, cap, eρk, hcapm.1, hcapm.2, ⟨cur, ty, by rw [ew]; exact g3, by rw [g4]; simp⟩, by simpa using g0⟩
   ·rename_i hne'
    have hm := noRefT_get hT hd
    exact scal_any hzA (fun k' b hk' hb => (eρ k' (fun e => by rw [e, hm] at hk'; cases hk')).trans hb) (scalT_get hsT hd (by omega)) (h.tmps j d hd)
  ·intro j bx hj
   rcases setB_get hj with ⟨rfl, rfl⟩ | ⟨hne', hj⟩
   ·refine BX.cell (blk := g) (cs := cur) (ty := ty) hsz0 ⟨eρk, eog, ⟨.inl g2, fun h => by cases h⟩, by rw [ew]; exact g3, ?_, fun row hrow' => ?_, fun r o row d u hr hd hu => ?_, fun _ o => (eM g o).2 (.inr rfl), fun hl => by cases hl⟩
    ·rw [g4, ownRows_eq, List.length_map]; exact Nat.mul_le_mul_right _ hcapm.1
    ·simp only [ownRows_eq] at hrow'
     obtain ⟨x, hx, rfl⟩ := List.mem_map.1 hrow'
     simpa using hrow x hx
    ·simp only [ownRows_eq, List.getElem?_map] at hr
     cases hx : rows[r]? with
     | none => rw [hx] at hr; simp at hr
     | some x =>
      rw [hx] at hr
      simp only [Option.map_some, Option.some.injEq] at hr
      subst hr
      rw [List.getElem?_map] at hd
      cases hc : (rowCells x)[o]? with
      | none => rw [hc] at hd; simp at hd
      | some c =>
       rw [hc] at hd
       simp only [Option.map_some, Option.some.injEq] at hd
       subst hd
       obtain ⟨f1, f2, _⟩ := hcells r o x c u hx hc hu
       have hsc := hrsc x (List.mem_of_getElem? hx) c (List.mem_of_getElem? hc)
       exact ⟨scal_any (X := X) (base := G.base) (L := .tmp 0) (d := .p c) hzA (fun _ _ hm => by simp [DV.ment] at hm) hsc f1, Flat.oneCell f1 f2⟩
   ·have hnr := noRefB_get hB hj (by omega)
    have hsr := scalB_get hsB hj (by omega)
    have hBX := h.boxes j bx hj
    unfold BX at hBX ⊢
    split
    ·rename_i hs0
     rw [if_pos hs0] at hBX
     obtain ⟨blk, es, clock, m1, m2, m3, m4, m5, m6, m0, m7⟩ := hBX
     have hbg : blk ≠ g := fun e => by rw [e, g1] at m2; cases m2
     refine ⟨blk, es, clock, by rw [eρ j hne']; exact m1, (eo blk hbg).trans m2, by rw [eex]; exact m3, by rw [ew]; exact m4, m5, fun o => (eM blk o).2 (.inl (m6 o)), m0, fun i row e hi he => ?_⟩
     obtain ⟨q0, n0, d0, f1, f2, f3⟩ := m7 i row e hi he
     have hsc := scalR_get hsr (List.mem_of_getElem? hi) (d := d0) (by rw [f1]; simp)
     have hm := noRefR_get hnr (List.mem_of_getElem? hi) (d := d0) (by rw [f1]; simp)
     exact ⟨q0, n0, d0, f1, f2, scal_any hzA (fun k' b hk' hb => (eρ k' (fun e => by rw [e, hm] at hk'; cases hk')).trans hb) hsc f3⟩
    ·rename_i hs0
     rw [if_neg hs0] at hBX
     obtain ⟨blk, cs, ty', hb⟩ := hBX
     have hbg : blk ≠ g := fun e => by have := hb.own; rw [e, g1] at this; cases this
     refine ⟨blk, cs, ty', by rw [eρ j hne']; exact hb.ρ, (eo blk hbg).trans hb.own, by rw [eex]; exact hb.hbase, by rw [ew]; exact hb.heap, hb.size, hb.width, fun r o row d u hr hd hu => ?_, fun hl o => (eM blk o).2 (.inl (hb.live hl o)), fun hl => ?_⟩
     ·obtain ⟨f1, f2⟩ := hb.cells r o row d u hr hd hu
      have hm := noRefR_get hnr (List.mem_of_getElem? hr) (List.mem_of_getElem? hd)
      exact ⟨scal_any hzA (fun k' b hk' hb => (eρ k' (fun e => by rw [e, hm] at hk'; cases hk')).trans hb) (scalR_get hsr (List.mem_of_getElem? hr) (List.mem_of_getElem? hd)) f1, f2⟩
     ·obtain ⟨f1, f2⟩ := hb.fixed hl
      exact ⟨fun o ho hM => ((eM blk o).1 hM).elim (f1 o ho) hbg, f2⟩
  ·rw [eM]
   exact ⟨fun h' => h'.elim (h.mold.2 b hb hx o).1 (fun e => by omega), fun h' => .inl ((h.mold.2 b hb hx o).2 h')⟩
theorem vc_ok {G : Gl} {c : C} {x : Code} (ht : TrC P c x) : ∀ {n : St → Prop} {xx : Nat → St → Prop} {r : St → Prop} {s : St} {X : Cx} {a : Act}, Rel G X s a → vc P c s n xx r → x.wp P (QOf G n xx r) a X.w := by
 induction ht with
 | stuck x => exact fun {n xx r s X a} h hK => hK.elim
 | skip => exact fun {n xx r s X a} h hK => wp_skip ⟨s, X, h, rfl, hK⟩
 | reg id ops is hl htr => exact fun {n xx r s X a} h hK => execs_region hl htr (fun s X a h hk => ⟨s, X, h, rfl, hk⟩) h hK
 | regd id ops is hm hl htr hp => exact fun {n xx r s X a} h hK => execs_draw hm hl htr hp (fun s X a h hk => ⟨s, X, h, rfl, hk⟩) h hK
 | regx id ops l hm hl htr => exact fun {n xx r s X a} h hK => execs_tiny hm hl htr (fun s X a h hk => ⟨s, X, h, rfl, hk⟩) h hK
 | rega id ops is hm hl htr hs hp => exact fun {n xx r s X a} h hK => execs_drawA hm hl htr hp (fun s X a h hk => ⟨s, X, h, rfl, hk⟩) h (invA_of hs hK.1) hK.2
 | regm id ops is hm hl htr hs hp => exact fun {n xx r s X a} h hK => execs_drawM hm hl htr hp (fun s X a h hk => ⟨s, X, h, rfl, hk⟩) h (invM_of hs hK.1) hK.2
 | seq a b x y _ _ iha ihb =>
  intro n xx r s X a h hK
  refine wp_seq (wp_mono (iha h hK) fun e a' w' hq => ?_)
  cases e with
  | normal =>
   obtain ⟨s', X', h', e', k'⟩ := hq
   subst e'
   exact ihb h' k'
  | _ => exact hq
 | cond o c a b x y ho _ _ iha ihb =>
  intro n xx r s X a h hK
  obtain ⟨L, hv⟩ := h.opnd ho
  simp only [vc] at hK
  cases o with
  | t j =>
   simp only [O.val] at hv hK
   generalize hg : getT s.t j = dv at *
   cases dv with
   | p z =>
    cases z with
    | bool t =>
     simp only at hK
     have hb := Flat.boolv hv
     refine wp_cond_split hb (fun e => ?_) (fun e => ?_)
     ·subst e
      have hc : c = .tmp j := by cases ho; rfl
      subst hc
      exact iha (h.weak j (.p (.bool true)) hv) (hK.1 rfl)
     ·subst e
      have hc : c = .tmp j := by cases ho; rfl
      subst hc
      exact ihb (h.weak j (.p (.bool false)) hv) (hK.2 rfl)
    | _ => exact hK.elim
   | _ => exact hK.elim
  | c d =>
   simp only [O.val] at hv hK
   cases d with
   | p z =>
    cases z with
    | bool t =>
     simp only at hK
     have hb := Flat.boolv hv
     exact wp_cond_split hb (fun e => iha h (hK.1 e)) (fun e => ihb h (hK.2 e))
    | _ => exact hK.elim
   | _ => exact hK.elim
 | block id a x _ iha =>
  intro n xx r s X a h hK
  refine wp_block (wp_mono (iha h hK) fun e a' w' hq => ?_)
  cases e with
  | exit j =>
   obtain ⟨s', X', h', e', k'⟩ := hq
   simp only [Exit.inBlock]
   by_cases hj : j = id
   ·subst hj
    rw [if_pos rfl] at k' ⊢
    exact ⟨s', X', h', e', k'⟩
   ·rw [if_neg hj] at k' ⊢
    exact ⟨s', X', h', e', k'⟩
  | _ => exact hq
 | loop fs ds c x _ ih =>
  intro n xx r s X a h hK
  obtain ⟨k, hK⟩ := hK
  have h' := (h.forget fs (t := s.t) (b := s.b)).dropB ds
  refine wp_loop_rounds k ?_
  clear h
  generalize (⟨Vc.forget s.t fs, Vc.dropB s.b ds⟩ : St) = s0 at *
  induction k generalizing s0 X a with
  | zero => exact hK.elim
  | succ k ihk =>
   rw [rounds_succ]
   refine wp_mono (ih h' hK) fun e a' w' hq => ?_
   cases e with
   | normal =>
    obtain ⟨s', X', h', e', k'⟩ := hq
    subst e'
    exact ihk _ k' ((h'.forget fs (t := s'.t) (b := s'.b)).dropB ds)
   | _ => exact hq
 | exit id => exact fun {n xx r s X a} h hK => wp_exit ⟨s, X, h, rfl, hK⟩
 | ret => exact fun {n xx r s X a} h hK => wp_ret ⟨s, X, h, rfl, hK⟩
 | own i k ag c x _ iha =>
  intro n xx r s X a h hK
  simp only [vc] at hK
  generalize hg : getT s.t i = dv at *
  cases dv with
  | ow size nl rows =>
   obtain ⟨h1, h2, h3, hK⟩ := hK
   obtain ⟨X', e', h'⟩ := h.own hg h1 h2 h3
   rw [← e']
   exact iha h' hK
  | _ => exact hK.elim
 | gp g c x _ iha =>
  intro n xx r s X a h hK
  refine wp_mono (iha h hK) fun e a' w' hq => ?_
  cases e with
  | normal =>
   obtain ⟨s', X', h', e', k'⟩ := hq
   obtain ⟨X2, s2, e2, h2, k2⟩ := gh_ok h' k'
   exact ⟨s2, X2, h2, e2.trans e', k2⟩
  | _ => exact hq
 | gh g c x _ iha =>
  intro n xx r s X a h hK
  obtain ⟨X', s', e', h', k'⟩ := gh_ok h hK
  rw [← e']
  exact iha h' k'
 | pre fs zs ds a x _ iha =>
  intro n xx r s X a h hK
  obtain ⟨X', b', e', h', k'⟩ := Rel.fixes zs (t := s.t) (b := s.b) h hK
  rw [← e']
  exact iha ((h'.forget fs).dropB ds) k'
end Go.Proofs.YtnjphclbpgajpaaGreatDoor.Vc
