/- What becomes of the relation when places, owners, worlds change; values that change places. No condition. -/
import Derived.Test.YtkjghcbnmipgfaaGreatDoorVcPure2
namespace Go.Proofs.YtkjghcbnmipgfaaGreatDoor.Vc
open Go.RowKit
variable {P : Program}

theorem heap_cell {w : World} {b o : Nat} {cs : Array Value} {ty : TypeId} {fr : Nat × Nat} (h : w.heap[b]? = some (.cells cs ty fr)) : w.cell? ⟨b, o, none⟩ = cs[o]? := by simp [World.cell?, h]

theorem BoxRel.mono {S : Loc → Prop} (hc : ∀ L j, S L → S (.comp L j)) {X X' : Cx} (h : Ev S X X') {base k : Nat} {bx : Box} {blk : Nat} {cs : Array Value} {ty : TypeId}
    (hb : BoxRel X base k bx blk cs ty) (h1 : S (.box k)) (h2 : ∀ r o, S (.cell k r o)) (hρ : X'.ρ k = X.ρ k)
    (hr : ∀ row, row ∈ bx.rows → ∀ d, d ∈ row → ∀ j, d.ment j = true → X'.ρ j = X.ρ j) : BoxRel X' base k bx blk cs ty := by
  have hlt : blk < X.w.heap.size := (Array.getElem?_eq_some_iff.1 hb.heap).1
  obtain ⟨e1, e2, e3⟩ := h.own blk _ hb.own h1 hlt
  refine ⟨hρ.trans hb.ρ, e1, by rw [h.ex]; exact hb.hbase, e2.trans hb.heap, hb.size, hb.width, ?_, fun hl o => e3 o (hb.live hl o), ?_⟩
  · intro r o row d u hrow hd hu
    obtain ⟨hv, hone⟩ := hb.cells r o row d u hrow hd hu
    exact ⟨hv.mono hc h (h2 r o) (fun j hj => hr row (List.mem_of_getElem? hrow) d (List.mem_of_getElem? hd) j hj), hone⟩
  · intro hl
    obtain ⟨f1, f2⟩ := hb.fixed hl
    refine ⟨fun o ho => ?_, f2⟩
    have ho' : o < cs.size := Nat.lt_of_lt_of_le ho hb.size
    have hcell : X.w.cell? ⟨blk, o, none⟩ = some cs[o] := by rw [heap_cell hb.heap]; simp [ho']
    exact (h.keeps blk o _ (f1 o ho) hcell).2

theorem BX.mono {S : Loc → Prop} (hc : ∀ L j, S L → S (.comp L j)) {X X' : Cx} (h : Ev S X X') {base k : Nat} {bx : Box} (hb : BX X base k bx) (h1 : S (.box k)) (h2 : ∀ r o, S (.cell k r o)) (hρ : X'.ρ k = X.ρ k)
    (hr : ∀ row, row ∈ bx.rows → ∀ d, d ∈ row → ∀ j, d.ment j = true → X'.ρ j = X.ρ j) : BX X' base k bx := by
  unfold BX at *
  split
  · rename_i hs
    rw [if_pos hs] at hb
    obtain ⟨blk, es, clock, m1, m2, m3, m4, m5, m6, m7⟩ := hb
    have hlt : blk < X.w.heap.size := (Array.getElem?_eq_some_iff.1 m4).1
    obtain ⟨e1, e2, e3⟩ := h.own blk _ m2 h1 hlt
    refine ⟨blk, es, clock, hρ.trans m1, e1, by rw [h.ex]; exact m3, e2.trans m4, m5, fun o => e3 o (m6 o), fun i row e hi he => ?_⟩
    obtain ⟨q, n, x, f1, f2, f3⟩ := m7 i row e hi he
    exact ⟨q, n, x, f1, f2, f3.mono h.keeps⟩
  · rename_i hs
    rw [if_neg hs] at hb
    obtain ⟨blk, cs, ty, hb⟩ := hb
    exact ⟨blk, cs, ty, hb.mono hc h h1 h2 hρ hr⟩

theorem Rel.change {G : Gl} {X X' : Cx} {s : St} {a : Act} (h : Rel G X s a) (S : Loc → Prop) (hc : ∀ L j, S L → S (.comp L j)) (hev : Ev S X X')
    (hslots : ∀ (i : Nat) d, s.t[i]? = some d → (S (.tmp i) ∧ ∀ k, d.ment k = true → X'.ρ k = X.ρ k) ∨ VRel X' G.base (.tmp i) d (a.tmps.getD i undef))
    (hboxes : ∀ (k : Nat) bx, s.b[k]? = some (some bx) → (S (.box k) ∧ (∀ r o, S (.cell k r o)) ∧ X'.ρ k = X.ρ k ∧ ∀ row, row ∈ bx.rows → ∀ d, d ∈ row → ∀ j, d.ment j = true → X'.ρ j = X.ρ j) ∨
      BX X' G.base k bx)
    (hbelow : Below G.base X.w X'.w) (hold : ∀ b, b < G.base → ∀ o, X'.M b o ↔ X.M b o) : Rel G X' s a := by
  refine ⟨h.defers, h.size, ?_, ?_, h.below.trans (.of hbelow), Nat.le_trans h.hb hbelow.size, hev.ex.trans h.mold.1, fun b hb hx o => (hold b hb o).trans (h.mold.2 b hb hx o)⟩
  · intro i d hd
    rcases hslots i d hd with ⟨h1, h2⟩ | h1
    · exact (h.tmps i d hd).mono hc hev h1 h2
    · exact h1
  · intro k bx hk
    rcases hboxes k bx hk with ⟨h1, h2, h3, h4⟩ | h1
    · exact (h.boxes k bx hk).mono hc hev h1 h2 h3 h4
    · exact h1

/-- The place under the parts. -/
def Loc.root : Loc → Loc
  | .comp L _ => L.root
  | L => L

/-- Another owner: the places are moved by φ. -/
def Cx.moved (X : Cx) (φ : Loc → Loc) : Cx := { X with own := fun g => (X.own g).map φ }

theorem ev_moved (X : Cx) (φ : Loc → Loc) (S : Loc → Prop) (h : ∀ L, S L → φ L = L) : Ev S X (X.moved φ) :=
  ⟨Keeps.refl _ _, fun g L hg hS _ => ⟨by simp [Cx.moved, hg, h L hS], rfl, fun _ h => h⟩, rfl⟩

theorem OwRel.moved {X : Cx} {base : Nat} {L : Loc} {size : Nat} {n : Bool} {rows : List PV} {v : Value} (h : OwRel X base L size n rows v) (φ : Loc → Loc) : OwRel (X.moved φ) base (φ L) size n rows v := by
  rcases h with h | ⟨h0, g, cap, cur, ty, h1, h2, h3⟩
  · exact .inl h
  · exact .inr ⟨h0, g, cap, cur, ty, h1, by simp [Cx.moved, h2], h3⟩

/-- A copy doesn't ask who owns what. -/
theorem VRel.copy_moved {X : Cx} {base : Nat} {L : Loc} {d : DV} {v : Value} (h : VRel X base L d v) (φ : Loc → Loc) (L' : Loc) : VRel (X.moved φ) base L' d.copy v := by
  have h' := h.copy L'
  cases d with
  | tup ds =>
    obtain ⟨vs, h1, h2, h3⟩ := h'
    refine ⟨vs, h1, h2, fun j d u hd hu => ?_⟩
    have := h3 j d u hd hu
    rw [List.getElem?_map] at hd
    cases hj : ds[j]? with
    | none => rw [hj] at hd; simp at hd
    | some d0 =>
      rw [hj] at hd
      simp at hd
      subst hd
      cases d0 <;> exact this
  | _ => exact h'

theorem VRel.moved {X : Cx} {base : Nat} {L : Loc} {d : DV} {v : Value} (h : VRel X base L d v) (φ : Loc → Loc) (hφ : ∀ j, φ (.comp L j) = .comp (φ L) j) : VRel (X.moved φ) base (φ L) d v := by
  cases d with
  | tup ds =>
    obtain ⟨vs, h1, h2, h3⟩ := h
    refine ⟨vs, h1, h2, fun j d u hd hu => ?_⟩
    have := h3 j d u hd hu
    cases d with
    | p x => exact this
    | ow size n rows => rw [← hφ]; exact OwRel.moved this φ
  | ow size n rows => exact OwRel.moved h φ
  | _ => exact h

/-- From slot n to slot m. -/
def toSlot (n m : Nat) : Loc → Loc
  | .tmp i => if i = n then .tmp m else .tmp i
  | .comp L j => .comp (toSlot n m L) j
  | L => L

theorem toSlot_id (n m : Nat) (L : Loc) (h : L.root ≠ .tmp n) : toSlot n m L = L := by
  induction L with
  | tmp i => simp only [toSlot]; rw [if_neg]; intro e; subst e; exact h rfl
  | comp L j ih => simp only [toSlot]; rw [ih h]
  | _ => rfl

theorem setL_get {t : List DV} {n i : Nat} {v d : DV} (h : (setL t n v)[i]? = some d) : (i = n ∧ d = v ∧ n < t.length) ∨ (i ≠ n ∧ t[i]? = some d) := by
  rw [getElem?_setL] at h
  by_cases hi : i = n
  · subst hi
    rw [if_pos rfl] at h
    cases ht : t[i]? with
    | none => rw [ht] at h; simp at h
    | some e => rw [ht] at h; simp at h; exact .inl ⟨rfl, h.symm, (List.getElem?_eq_some_iff.1 ht).1⟩
  · rw [if_neg hi] at h
    exact .inr ⟨hi, h⟩

theorem Rel.toSlot {G : Gl} {X : Cx} {s : St} {a : Act} (h : Rel G X s a) (n m : Nat) :
    Rel G (X.moved (toSlot n m)) ⟨setL s.t n (getT s.t n).copy, s.b⟩ a ∧ VRel (X.moved (toSlot n m)) G.base (.tmp m) (getT s.t n) (a.tmps.getD n undef) := by
  have hv := h.get n
  have hw := h.weak n (getT s.t n).copy (hv.copy _)
  refine ⟨hw.change (fun L => L.root ≠ .tmp n) (fun L j h => h) (ev_moved X _ _ fun L hL => toSlot_id n m L hL) ?_ ?_ (Below.refl _ _) (fun _ _ _ => Iff.rfl), ?_⟩
  · intro i d hd
    rcases setL_get hd with ⟨rfl, rfl, _⟩ | ⟨hne, _⟩
    · exact .inr (hv.copy_moved _ _)
    · exact .inl ⟨fun e => hne (by simpa [Loc.root] using e), fun _ _ => rfl⟩
  · intro k bx hk
    exact .inl ⟨by simp [Loc.root], by simp [Loc.root], rfl, fun _ _ _ _ _ _ => rfl⟩
  · have := hv.moved (Vc.toSlot n m) (fun j => rfl)
    simpa [Vc.toSlot] using this

section
variable {G : Gl} {X : Cx} {s : St} {a : Act} {Q : Exit → Act → World → Prop} {o : Oper} {K : St → Prop}

theorem s_mov (h : Rel G X s a) {take : Bool} {x : Operand} {ox : O} (hx : OT x ox) (ho : o.op = .move x ∨ o.op = .assign x)
    (hK : semI P (.mov take) [ox.val s.t] s.b fun v b => K ⟨putD (degr (.mov take) [ox] s.t) o.dst v, b⟩) : o.wp P a X.w (Post G K) Q := by
  have run : (execOp a.eval o).run P X.w = .ok (.value (a.eval x)) X.w := by rcases ho with ho | ho <;> simp [execOp, ho]
  cases take with
  | false =>
    obtain ⟨Lx, rx⟩ := h.opnd hx
    simp only [semI, Bool.false_eq_true, if_false, degr] at hK
    exact wp_value h run (fun j _ => rx.copy _) hK
  | true =>
    simp only [semI, if_true] at hK
    cases ox with
    | c d =>
      simp only [degr] at hK
      exact wp_value h run (fun j _ => VRel.const hx (by intro n hn; cases hn)) hK
    | t n =>
      simp only [degr] at hK
      unfold Oper.wp
      rw [run, Oper.upon_value]
      have hxe : x = .tmp n := by cases hx; rfl
      subst hxe
      cases hd : o.dst with
      | none =>
        rw [hd] at hK
        exact ⟨_, X, (h.weak n _ ((h.get n).copy _)).put (d := none) (v := .top) (fun j hj => by cases hj), rfl, hK⟩
      | some m =>
        rw [hd] at hK
        obtain ⟨h1, h2⟩ := h.toSlot n m
        refine ⟨_, _, h1.put (d := some m) (u := a.eval (.tmp n)) (fun j hj => ?_), rfl, hK⟩
        injection hj with hj
        subst hj
        exact h2

/-- From a part of slot n to slot m. -/
def outOf (n j m : Nat) (L : Loc) : Loc :=
  match L with
  | .comp (.tmp i) j' => if i = n ∧ j' = j then .tmp m else L
  | L => L

theorem s_ext (h : Rel G X s a) {j : Nat} {x : Operand} {ox : O} (hx : OT x ox) (ho : o.op = .extract x j)
    (hK : semI P (.ext j) [ox.val s.t] s.b fun v b => K ⟨putD (degr (.ext j) [ox] s.t) o.dst v, b⟩) : o.wp P a X.w (Post G K) Q := by
  cases ox with
  | c d =>
    exfalso
    cases hx <;> simp [O.val, semI] at hK
  | t n =>
    have hxe : x = .tmp n := by cases hx; rfl
    subst hxe
    have hv := h.get n
    simp only [O.val] at hK
    simp only [degr] at hK
    generalize hg : getT s.t n = dv at *
    cases dv with
    | tup ds =>
      simp only [semI] at hK
      cases hj : ds[j]? with
      | none => simp [hj] at hK
      | some d =>
        simp only [hj] at hK
        obtain ⟨vs, ev, hl, hh⟩ := hv
        have hlt : j < vs.size := by rw [hl]; exact (List.getElem?_eq_some_iff.1 hj).1
        have hu : vs[j]? = some vs[j] := by simp [hlt]
        have hr := hh j d _ hj hu
        have ev' : a.eval (.tmp n) = .tuple vs := ev
        have run : (execOp a.eval o).run P X.w = .ok (.value vs[j]) X.w := by simp [execOp, ho, ev', Instr.extract, hlt]
        unfold Oper.wp
        rw [run, Oper.upon_value]
        have hcop : ∀ (X' : Cx), X'.M = X.M → X'.w = X.w → X'.ρ = X.ρ → (∀ j' d', j' ≠ j → ds[j']? = some d' → ∀ u, vs[j']? = some u → TRel X' G.base (.comp (.tmp n) j') d' u) → VRel X' G.base (.tmp n) (.tup (setL ds j d.copy)) (a.tmps.getD n undef) := by
          intro X' eM ew eρ hoth
          refine ⟨vs, ev, by rw [setL_length]; exact hl, fun j' d' u hd' hu' => ?_⟩
          rw [getElem?_setL] at hd'
          by_cases hjj : j' = j
          · subst hjj
            rw [if_pos rfl, hj] at hd'
            simp at hd'
            subst hd'
            have := TRel.copy (hh j' d u hj hu') (.comp (.tmp n) j')
            cases d <;> (simp only [TV.copy, TRel] at this ⊢; rw [eM, ew]; exact this)
          · rw [if_neg hjj] at hd'
            exact hoth j' d' hjj hd' u hu'
        have hw := h.weak n (.tup (setL ds j d.copy)) (hcop X rfl rfl rfl fun j' d' _ hd' u hu' => hh j' d' u hd' hu')
        cases hd : o.dst with
        | none =>
          rw [hd] at hK
          exact ⟨_, X, hw.put (d := none) (v := .top) (u := vs[j]) (fun j hj => by cases hj), rfl, hK⟩
        | some m =>
          rw [hd] at hK
          have hch : Rel G (X.moved (outOf n j m)) ⟨setL s.t n (.tup (setL ds j d.copy)), s.b⟩ a := by
            refine hw.change (fun L => L.root ≠ .tmp n) (fun L j h => h) (ev_moved X _ _ fun L hL => ?_) ?_ ?_ (Below.refl _ _) (fun _ _ _ => Iff.rfl)
            · unfold outOf
              split
              · rename_i i j' ; split
                · rename_i he; obtain ⟨rfl, rfl⟩ := he; exact absurd rfl hL
                · rfl
              · rfl
            · intro i e he
              rcases setL_get he with ⟨rfl, rfl, _⟩ | ⟨hne, _⟩
              · refine .inr (hcop _ rfl rfl rfl fun j' d' hne hd' u hu' => ?_)
                have := hh j' d' u hd' hu'
                cases d' with
                | p x => exact this
                | ow size nl rows =>
                  have e := OwRel.moved this (outOf i j m)
                  have e2 : outOf i j m (.comp (.tmp i) j') = .comp (.tmp i) j' := by simp [outOf, hne]
                  rw [e2] at e
                  exact e
              · exact .inl ⟨fun e => hne (by simpa [Loc.root] using e), fun _ _ => rfl⟩
            · intro k bx hk
              exact .inl ⟨by simp [Loc.root], by simp [Loc.root], rfl, fun _ _ _ _ _ _ => rfl⟩
          refine ⟨_, _, hch.put (d := some m) (u := vs[j]) (fun i hi => ?_), rfl, hK⟩
          injection hi with hi
          subst hi
          cases d with
          | p x => exact hr
          | ow size nl rows =>
            have e := OwRel.moved hr (outOf n j m)
            have e2 : outOf n j m (.comp (.tmp n) j) = .tmp m := by simp [outOf]
            rw [e2] at e
            exact e
    | _ => simp [semI] at hK
end

end Go.Proofs.YtkjghcbnmipgfaaGreatDoor.Vc
