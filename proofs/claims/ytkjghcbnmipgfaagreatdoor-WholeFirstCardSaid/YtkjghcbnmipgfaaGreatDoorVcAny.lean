/- A region whose order is drawn does what it does in the order of its text. No condition. -/
import Derived.Test.YtkjghcbnmipgfaaGreatDoorVcNew
namespace Go.Proofs.YtkjghcbnmipgfaaGreatDoor.Vc
open Go.RowKit
variable {P : Program}

theorem op_ok {G : Gl} {ops : Array Oper} {Q : Exit → Act → World → Prop} {K : St → Prop} {q : Nat} {o : Oper} {i : Ins} (ho' : ops[q]? = some o) (ti : TrI P ops o i)
    {s : St} {X : Cx} {a : Act} (h : Rel G X s a) (hK : execG P i s K) : wpOp P ops Q q (Post G K) a X.w := by
  simp only [wpOp, ho']
  obtain ⟨id, ig, ik, ixs⟩ := i
  have hd := ti.d
  have htr' := ti.tr
  have hg := ti.g
  simp only at hd htr' hg
  subst hd
  simp only [execG] at hK
  have go : ∀ {s : St}, Rel G X s a → exec P ⟨o.dst, ig, ik, ixs⟩ s K → o.wp P a X.w (Post G K) Q := fun h hK => execJ_ok h htr' hK
  cases hog : o.guard with
  | none =>
    rw [hog] at hg
    cases ig with
    | some _ => exact hg.elim
    | none =>
      have hw : Region.wanted o (yielded ops a.tmps) = true := by simp [Region.wanted, hog]
      rw [if_pos hw]
      exact .inl (go h hK)
  | some jw =>
    obtain ⟨j, want⟩ := jw
    rw [hog] at hg
    cases ig with
    | none => exact hg.elim
    | some tw =>
      obtain ⟨t, want'⟩ := tw
      obtain ⟨rfl, hj⟩ := hg
      simp only at hK
      have hv := h.get t
      generalize hgt : getT s.t t = dv at *
      cases dv with
      | p z =>
        cases z with
        | bool c =>
          simp only at hK
          have hlt : t < a.tmps.size := by
            rw [h.size]
            rcases Nat.lt_or_ge t s.t.length with h0 | h0
            · exact h0
            · rw [getT_eq, List.getElem?_eq_none h0] at hgt; cases hgt
          have hb := Flat.boolv hv
          have hy : yielded ops a.tmps j = some c := yielded_of hj hlt hb
          have hweak : Rel G X ⟨setL s.t t (.p (.bool c)), s.b⟩ a := h.weak t _ hv
          by_cases hcw : c = want
          · subst hcw
            rw [if_pos (by simp [Region.wanted, hog, hy])]
            exact .inl (go hweak (hK.1 rfl))
          · rw [if_neg (by simp [Region.wanted, hog, hy, hcw])]
            have e : c = !want := by cases c <;> cases want <;> simp at hcw ⊢
            have hKK := hK.2 e
            rw [e] at hweak
            exact ⟨_, _, hweak.put (d := o.dst) (v := .tup []) (fun _ _ => undef_tup), rfl, hKK⟩
        | _ => exact hK.elim
      | tup ds =>
        cases ds with
        | nil =>
          have hy := yielded_tup (ops := ops) hj hv
          rw [if_neg (by simp [Region.wanted, hog, hy])]
          exact ⟨_, _, h.put (d := o.dst) (v := .tup []) (fun _ _ => undef_tup), rfl, hK⟩
        | cons _ _ => exact hK.elim
      | _ => exact hK.elim

theorem execG_mono {i : Ins} {s : St} {K K' : St → Prop} (hk : ∀ s, K s → K' s) (h : execG P i s K) : execG P i s K' := by
  have ex : ∀ {s : St}, exec P i s K → exec P i s K' := fun ⟨h1, h2⟩ => ⟨h1, semJ_mono (fun v b h => hk _ h) h2⟩
  unfold execG at h ⊢
  split at h
  · exact ex h
  · split at h
    · exact ⟨fun hc => ex (h.1 hc), fun hc => hk _ (h.2 hc)⟩
    · exact hk _ h
    · exact h

theorem swapFront {i : Ins} {K : St → Prop} {post : List Ins} : ∀ {pre : List Ins}, (∀ j, j ∈ pre → indep j i = true) → ∀ {s : St}, execs P (pre ++ i :: post) s K → execG P i s (fun s => execs P (pre ++ post) s K)
  | [], _, _, h => h
  | p :: pre, hp, s, h => by
    have h1 : execG P p s (fun s' => execG P i s' (fun s'' => execs P (pre ++ post) s'' K)) :=
      execG_mono (fun s' hs' => swapFront (fun j hj => hp j (List.mem_cons_of_mem _ hj)) hs') h
    exact swap (hp p List.mem_cons_self) h1

/-! ### What is bound to come ahead -/

def DownC (ops : Array Oper) (listed : Array Bool) : Prop :=
  ∀ (k : Nat) (o : Oper), listed.getD k false = true → ops[k]? = some o → ∀ e, e ∈ o.after → Region.binds .any e = true → listed.getD e.on false = true

def clEdges (acc : List Nat) : List Edge → Nat
  | [] => 0
  | e :: es => if Region.binds .any e then (2 ^ e.on ||| acc.getD e.on 0) ||| clEdges acc es else clEdges acc es
def clos : List Oper → List Nat → List Nat
  | [], acc => acc
  | o :: os, acc => clos os (acc ++ [clEdges acc o.after.toList])

theorem clEdges_bit {acc : List Nat} {j : Nat} : ∀ {es : List Edge}, (clEdges acc es).testBit j = true → ∃ e, e ∈ es ∧ Region.binds .any e = true ∧ (j = e.on ∨ (acc.getD e.on 0).testBit j = true)
  | [], h => by simp [clEdges] at h
  | e :: es, h => by
    simp only [clEdges] at h
    split at h
    · rename_i hb
      rw [Nat.testBit_or, Nat.testBit_or, Bool.or_eq_true, Bool.or_eq_true] at h
      rcases h with (h | h) | h
      · rw [Nat.testBit_two_pow] at h
        exact ⟨e, List.mem_cons_self, hb, .inl (by simpa [eq_comm] using h)⟩
      · exact ⟨e, List.mem_cons_self, hb, .inr h⟩
      · obtain ⟨e', h1, h2⟩ := clEdges_bit h
        exact ⟨e', List.mem_cons_of_mem _ h1, h2⟩
    · obtain ⟨e', h1, h2⟩ := clEdges_bit h
      exact ⟨e', List.mem_cons_of_mem _ h1, h2⟩

def RowsOK (ops : Array Oper) (rows : List Nat) : Prop :=
  ∀ (k : Nat) (r : Nat) (o : Oper), rows[k]? = some r → ops[k]? = some o → ∀ j, r.testBit j = true → ∀ listed, DownC ops listed → (∀ e, e ∈ o.after → Region.binds .any e = true → listed.getD e.on false = true) → listed.getD j false = true

theorem clos_ok {ops : Array Oper} : ∀ (os pre : List Oper) (acc : List Nat), pre ++ os = ops.toList → acc.length = pre.length → RowsOK ops acc → RowsOK ops (clos os acc)
  | [], _, _, _, _, h => h
  | o :: os, pre, acc, he, hl, h => by
    refine clos_ok os (pre ++ [o]) _ (by simpa using he) (by simp [hl]) fun k r o' hr ho j hj listed hd ha => ?_
    rw [List.getElem?_append] at hr
    by_cases hk : k < acc.length
    · rw [if_pos hk] at hr
      exact h k r o' hr ho j hj listed hd ha
    · rw [if_neg hk] at hr
      have hk0 : k - acc.length = 0 := by
        have := (List.getElem?_eq_some_iff.1 hr).1
        simp at this; exact this
      rw [hk0] at hr
      simp at hr
      subst hr
      have hke : k = pre.length := by omega
      have ho2 : o' = o := by
        have : ops.toList[k]? = some o' := by simpa using ho
        rw [← he, hke] at this
        simp at this
        exact this.symm
      subst ho2
      obtain ⟨e, h1, h2, h3⟩ := clEdges_bit hj
      have he' : e ∈ o'.after := by simpa using h1
      have hon := ha e he' h2
      rcases h3 with rfl | h3
      · exact hon
      · rw [List.getD_eq_getElem?_getD] at h3
        cases hrr : acc[e.on]? with
        | none => rw [hrr] at h3; simp at h3
        | some r' =>
          rw [hrr] at h3
          have hlt : e.on < ops.size := by
            have h1 := (List.getElem?_eq_some_iff.1 hrr).1
            have h2 : ops.size = pre.length + (os.length + 1) := by rw [← Array.length_toList, ← he]; simp
            omega
          exact h e.on r' ops[e.on] hrr (by simp [hlt]) j (by simpa using h3) listed hd (hd e.on ops[e.on] hon (by simp [hlt]))

/-- Each two are plainly independent, or bound in the order of the text. -/
def pairsW (ind : Ins → Ins → Bool) (ops : Array Oper) (is : List Ins) : Bool :=
  let rows := clos ops.toList []
  (List.range is.length).all fun i => (match ops[i]? with
      | some o => o.after.all fun e => !Region.binds .any e || decide (e.on < i)
      | none => false) &&
    (List.range i).all fun j => match is[j]?, is[i]?, rows[i]? with
      | some a, some b, some r => r.testBit j || ind a b
      | _, _, _ => false

def pairsB (ops : Array Oper) (is : List Ins) : Bool := pairsW indep ops is

theorem any_ok {ind : Ins → Ins → Bool} {Inv : List Ins → St → Prop} {K : St → Prop}
    (hsw : ∀ (pre : List Ins) (i : Ins) (post : List Ins) (s : St), (∀ j, j ∈ pre → ind j i = true) → Inv (pre ++ i :: post) s → execs P (pre ++ i :: post) s K → execG P i s (fun s' => execs P (pre ++ post) s' K ∧ Inv (pre ++ post) s'))
    {G : Gl} {ops : Array Oper} {is : List Ins} {Q : Exit → Act → World → Prop} (hl : ops.size = is.length)
    (htr : ∀ (k : Nat) i, is[k]? = some i → ∃ o, ops[k]? = some o ∧ TrI P ops o i) (hp : pairsW ind ops is = true) (hQ : ∀ s X a, Rel G X s a → K s → Q .normal a X.w) :
    ∀ (n : Nat) (rem : List (Nat × Ins)) (listed : Array Bool), rem.length = n → listed.size = ops.size → DownC ops listed → (∀ p, p ∈ rem → is[p.1]? = some p.2) → (rem.map (·.1)).Pairwise (· < ·) →
      (∀ j, j < ops.size → (listed.getD j true = false ↔ j ∈ rem.map (·.1))) →
      ∀ {s : St} {X : Cx} {a : Act}, Rel G X s a → Inv (rem.map (·.2)) s → execs P (rem.map (·.2)) s K → wpAny P .any ops Q n listed a X.w := by
  have hrows : RowsOK ops (clos ops.toList []) := clos_ok ops.toList [] [] rfl rfl (fun k r o h => by simp at h)
  have hback : ∀ (i : Nat) (o : Oper), ops[i]? = some o → ∀ e, e ∈ o.after → Region.binds .any e = true → e.on < i := by
    intro i o ho e he hb
    have hi : i < is.length := by rw [← hl]; exact (Array.getElem?_eq_some_iff.1 ho).1
    have := List.all_eq_true.1 hp i (by simpa using hi)
    simp only [Bool.and_eq_true, ho] at this
    have := Array.all_eq_true_iff_forall_mem.1 this.1 e he
    simpa [hb] using this
  intro n
  induction n with
  | zero =>
    intro rem listed hn hsz hd hmem hsort hun s X a h hI hK
    have : rem = [] := List.eq_nil_of_length_eq_zero hn
    subst this
    refine ⟨?_, hQ s X a h hK⟩
    refine List.eq_nil_iff_forall_not_mem.2 fun j hj => ?_
    obtain ⟨h1, o, h2, _⟩ := mem_ready.1 hj
    have := (hun j (Array.getElem?_eq_some_iff.1 h2).1).1 h1
    simp at this
  | succ n ih =>
    intro rem listed hn hsz hd hmem hsort hun s X a h hI hK
    have lis : ∀ j, j < ops.size → listed.getD j true = true → listed.getD j false = true := by
      intro j hj h1
      have hj' : j < listed.size := by omega
      simp [hj'] at h1 ⊢; exact h1
    have unl : ∀ j, j < ops.size → j ∈ rem.map (·.1) → listed.getD j false = false := by
      intro j hj h1
      have := (hun j hj).2 h1
      have hj' : j < listed.size := by omega
      simp [hj'] at this ⊢; exact this
    refine ⟨fun hr => ?_, fun i hi => ?_⟩
    · exfalso
      cases rem with
      | nil => simp at hn
      | cons p rem =>
        obtain ⟨j, ins⟩ := p
        have hj : is[j]? = some ins := hmem (j, ins) List.mem_cons_self
        obtain ⟨o, ho, _⟩ := htr j ins hj
        have hjlt := (Array.getElem?_eq_some_iff.1 ho).1
        have : j ∈ Region.ready .any ops listed := by
          refine mem_ready.2 ⟨(hun j hjlt).2 (by simp), o, ho, fun e he hb => ?_⟩
          have hlt := hback j o ho e he hb
          have hlt2 : e.on < ops.size := by omega
          refine lis e.on hlt2 ?_
          cases hc : listed.getD e.on true with
          | true => rfl
          | false =>
            have hin := (hun e.on hlt2).1 hc
            simp only [List.map_cons, List.mem_cons] at hin
            rw [List.map_cons, List.pairwise_cons] at hsort
            rcases hin with hin | hin
            · omega
            · have := hsort.1 _ hin; omega
        rw [hr] at this
        cases this
    · obtain ⟨h1, o, ho, hall⟩ := mem_ready.1 hi
      have hilt := (Array.getElem?_eq_some_iff.1 ho).1
      have hin := (hun i hilt).1 h1
      obtain ⟨p, hpm, hpi⟩ := List.mem_map.1 hin
      obtain ⟨pre, post, hsp⟩ := List.append_of_mem hpm
      obtain ⟨i', ins⟩ := p
      simp only at hpi
      subst hpi
      subst hsp
      have hins : is[i']? = some ins := hmem (i', ins) (by simp)
      obtain ⟨o', ho', ti⟩ := htr i' ins hins
      have hind : ∀ j, j ∈ pre.map (·.2) → ind j ins = true := by
        intro j hj
        obtain ⟨q, hq, rfl⟩ := List.mem_map.1 hj
        have hqs := hmem q (by simp [hq])
        have hqlt : q.1 < i' := by
          rw [List.map_append, List.map_cons, List.pairwise_append] at hsort
          exact hsort.2.2 q.1 (List.mem_map_of_mem hq) i' (by simp)
        have hq2 : q.1 < ops.size := by omega
        have hc := List.all_eq_true.1 hp i' (by simpa [← hl] using hilt)
        simp only [Bool.and_eq_true] at hc
        have hc := List.all_eq_true.1 hc.2 q.1 (by simpa using hqlt)
        rw [hqs, hins] at hc
        cases hr : (clos ops.toList [])[i']? with
        | none => simp [hr] at hc
        | some r =>
          simp only [hr, Bool.or_eq_true] at hc
          rcases hc with hc | hc
          · exfalso
            have t1 := hrows i' r o hr ho q.1 hc listed hd hall
            rw [unl q.1 hq2 (by simp; exact .inl ⟨q.2, hq⟩)] at t1
            cases t1
          · exact hc
      have hK' : execG P ins s (fun s => execs P (pre.map (·.2) ++ post.map (·.2)) s K ∧ Inv (pre.map (·.2) ++ post.map (·.2)) s) := by
        rw [List.map_append, List.map_cons] at hK hI
        exact hsw _ _ _ _ hind hI hK
      refine wpOp_mono (fun a' w' ⟨s', X', h', e', k', i''⟩ => ?_) (op_ok ho' ti h hK')
      subst e'
      refine ih (pre ++ post) _ (by simp at hn ⊢; omega) (by simp [hsz]) ?_ (fun p hp => hmem p (by
        rcases List.mem_append.1 hp with hp | hp
        · simp [hp]
        · simp [hp])) ?_ ?_ h' (by rw [List.map_append]; exact i'') (by rw [List.map_append]; exact k')
      · intro k ok hk hok e he hb
        by_cases hki : k = i'
        · subst hki
          rw [ho] at hok
          injection hok with hok
          subst hok
          exact getD_set_true (hall e he hb)
        · rw [getD_set_ne false (fun h => hki h.symm)] at hk
          exact getD_set_true (hd k ok hk hok e he hb)
      · rw [List.map_append, List.map_cons, List.pairwise_append] at hsort
        rw [List.map_append, List.pairwise_append]
        refine ⟨hsort.1, (List.pairwise_cons.1 hsort.2.1).2, fun x hx y hy => hsort.2.2 x hx y (List.mem_cons_of_mem _ hy)⟩
      · intro j hj
        have hnd : i' ∉ (pre ++ post).map (·.1) := by
          rw [List.map_append, List.map_cons, List.pairwise_append] at hsort
          rw [List.map_append]
          intro hm
          rcases List.mem_append.1 hm with hm | hm
          · exact Nat.lt_irrefl _ (hsort.2.2 i' hm i' (by simp))
          · exact Nat.lt_irrefl _ ((List.pairwise_cons.1 hsort.2.1).1 i' hm)
        by_cases hji : j = i'
        · subst hji
          have : j < listed.size := by omega
          constructor
          · intro hc; simp [this] at hc
          · intro hc; exact absurd hc hnd
        · rw [getD_set_ne true (fun h => hji h.symm), hun j hj]
          simp [hji]

/-- A region whose order is drawn. -/
theorem execs_drawW {ind : Ins → Ins → Bool} {Inv : List Ins → St → Prop} {K : St → Prop}
    (hsw : ∀ (pre : List Ins) (i : Ins) (post : List Ins) (s : St), (∀ j, j ∈ pre → ind j i = true) → Inv (pre ++ i :: post) s → execs P (pre ++ i :: post) s K → execG P i s (fun s' => execs P (pre ++ post) s' K ∧ Inv (pre ++ post) s'))
    {G : Gl} {id : Nat} {ops : Array Oper} {is : List Ins} {Q : Exit → Act → World → Prop} (hm : P.follows .mixedOrders = true) (hl : ops.size = is.length)
    (htr : ∀ (k : Nat) i, is[k]? = some i → ∃ o, ops[k]? = some o ∧ TrI P ops o i) (hp : pairsW ind ops is = true) (hQ : ∀ s X a, Rel G X s a → K s → Q .normal a X.w) {s : St} {X : Cx} {a : Act} (h : Rel G X s a) (hI : Inv is s) (hK : execs P is s K) :
    (Code.region id ops true).wp P Q a X.w := by
  refine wp_region_any hm ?_
  have hX : Rel G { X with w := { X.w with drawn := X.w.drawn + 1 } } s a := by
    have hcell : ∀ b o, World.cell? { X.w with drawn := X.w.drawn + 1 } ⟨b, o, none⟩ = X.w.cell? ⟨b, o, none⟩ := fun b o => World.cell?_of_block rfl
    refine h.change (fun _ => True) (fun _ _ h => h) ⟨fun b o v hM hc => ⟨(hcell b o).trans hc, hM⟩, fun g L hg _ _ => ⟨hg, rfl, fun _ h => h⟩, rfl⟩ (fun i d hd => .inl ⟨trivial, fun _ _ => rfl⟩)
      (fun k bx hk => .inl ⟨trivial, fun _ _ => trivial, rfl, fun _ _ _ _ _ _ => rfl⟩) ⟨rfl, rfl, rfl, Nat.le_refl _, fun _ _ => rfl⟩ (fun b _ o => Iff.rfl)
  refine any_ok hsw (X := { X with w := { X.w with drawn := X.w.drawn + 1 } }) hl htr hp hQ ops.size (is.zipIdx.map fun p => (p.2, p.1)) _ (by simp [hl]) (by simp) ?_ ?_ ?_ ?_ hX ?_ ?_
  · intro k o hk
    by_cases hlt : k < ops.size
    · simp [hlt] at hk
    · simp [hlt] at hk
  · intro p hpm
    obtain ⟨q, hq, rfl⟩ := List.mem_map.1 hpm
    have := List.mem_zipIdx hq
    simp at this
    simp only
    rw [List.getElem?_eq_getElem (by omega)]
    simp [this.2]
  · have : (is.zipIdx.map fun p => (p.2, p.1)).map (·.1) = List.range is.length := by
      rw [List.map_map]
      have e : ((fun x => x.1) ∘ fun (p : Ins × Nat) => (p.2, p.1)) = Prod.snd := rfl
      rw [e, List.zipIdx_map_snd, List.range_eq_range']
    rw [this]
    exact List.pairwise_lt_range
  · intro j hj
    have : (is.zipIdx.map fun p => (p.2, p.1)).map (·.1) = List.range is.length := by
      rw [List.map_map]
      have e : ((fun x => x.1) ∘ fun (p : Ins × Nat) => (p.2, p.1)) = Prod.snd := rfl
      rw [e, List.zipIdx_map_snd, List.range_eq_range']
    rw [this]
    simp [hj, ← hl]
  · have : (is.zipIdx.map fun p => (p.2, p.1)).map (·.2) = is := by
      rw [List.map_map]
      have e : ((fun x => x.2) ∘ fun (p : Ins × Nat) => (p.2, p.1)) = Prod.fst := rfl
      rw [e, List.zipIdx_map_fst]
    rw [this]; exact hI
  · have : (is.zipIdx.map fun p => (p.2, p.1)).map (·.2) = is := by
      rw [List.map_map]
      have e : ((fun x => x.2) ∘ fun (p : Ins × Nat) => (p.2, p.1)) = Prod.fst := rfl
      rw [e, List.zipIdx_map_fst]
    rw [this]; exact hK

theorem execs_draw {G : Gl} {id : Nat} {ops : Array Oper} {is : List Ins} {Q : Exit → Act → World → Prop} {K : St → Prop} (hm : P.follows .mixedOrders = true) (hl : ops.size = is.length)
    (htr : ∀ (k : Nat) i, is[k]? = some i → ∃ o, ops[k]? = some o ∧ TrI P ops o i) (hp : pairsB ops is = true) (hQ : ∀ s X a, Rel G X s a → K s → Q .normal a X.w) {s : St} {X : Cx} {a : Act} (h : Rel G X s a) (hK : execs P is s K) :
    (Code.region id ops true).wp P Q a X.w :=
  execs_drawW (ind := indep) (Inv := fun _ _ => True) (fun pre i post s hind _ hK => execG_mono (fun s h => ⟨h, trivial⟩) (swapFront hind hK)) hm hl htr hp hQ h trivial hK

end Go.Proofs.YtkjghcbnmipgfaaGreatDoor.Vc
