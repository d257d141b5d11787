/- Part of a proof over a Go program: VcMove, VcAlloc, VcLoad, VcStore, VcFrz, VcApp. No condition. -/
import Derived.Test.YtnjphclbpgajpaaGreatDoorQ01
import Derived.Great.BuildSlice
set_option linter.unnecessarySimpa false
set_option linter.unusedSectionVars false
set_option linter.unusedSimpArgs false
set_option linter.unusedVariables false
namespace Go.Proofs.YtnjphclbpgajpaaGreatDoor.Vc
open Go.RowKit
variable {P : Program}
theorem heap_cell {w : World} {b o : Nat} {cs : Array Value} {ty : TypeId} {fr : Nat × Nat} (h : w.heap[b]? = some (.cells cs ty fr)) : w.cell? ⟨b, o, none⟩ = cs[o]? := by simp [World.cell?, h]
theorem BoxRel.mono {S : Loc → Prop} (hc : ∀ L j, S L → S (.comp L j)) {X X' : Cx} (h : Ev S X X') {base k : Nat} {bx : Box} {blk : Nat} {cs : Array Value} {ty : TypeId}
  (hb : BoxRel X base k bx blk cs ty) (h1 : S (.box k)) (h2 : ∀ r o, S (.cell k r o)) (hρ : X'.ρ k = X.ρ k)
  (hr : ∀ row, row ∈ bx.rows → ∀ d, d ∈ row → ∀ j, d.ment j = true → X'.ρ j = X.ρ j) : BoxRel X' base k bx blk cs ty := by
 have hlt : blk < X.w.heap.size := (Array.getElem?_eq_some_iff.1 hb.heap).1
 obtain ⟨e1, e2, e3⟩ := h.own blk _ hb.own h1 hlt
 refine ⟨hρ.trans hb.ρ, e1, by rw [h.ex]; exact hb.hbase, e2.trans hb.heap, hb.size, hb.width, ?_, fun hl o => e3 o (hb.live hl o), ?_⟩
 ·intro r o row d u hrow hd hu
  obtain ⟨hv, hone⟩ := hb.cells r o row d u hrow hd hu
  exact ⟨hv.mono hc h (h2 r o) (fun j hj => hr row (List.mem_of_getElem? hrow) d (List.mem_of_getElem? hd) j hj), hone⟩
 ·intro hl
  obtain ⟨f1, f2⟩ := hb.fixed hl
  refine ⟨fun o ho => ?_, f2⟩
  have ho' : o < cs.size := Nat.lt_of_lt_of_le ho hb.size
  have hcell : X.w.cell? ⟨blk, o, none⟩ = some cs[o] := by rw [heap_cell hb.heap]; simp [ho']
  exact (h.keeps blk o _ (f1 o ho) hcell).2
theorem BX.mono {S : Loc → Prop} (hc : ∀ L j, S L → S (.comp L j)) {X X' : Cx} (h : Ev S X X') {base k : Nat} {bx : Box} (hb : BX X base k bx) (h1 : S (.box k)) (h2 : ∀ r o, S (.cell k r o)) (hρ : X'.ρ k = X.ρ k)
  (hr : ∀ row, row ∈ bx.rows → ∀ d, d ∈ row → ∀ j, d.ment j = true → X'.ρ j = X.ρ j) : BX X' base k bx := by
 unfold BX at *
 split
 ·rename_i hs
  rw [if_pos hs] at hb
  obtain ⟨blk, es, clock, m1, m2, m3, m4, m5, m6, m0, m7⟩ := hb
  have hlt : blk < X.w.heap.size := (Array.getElem?_eq_some_iff.1 m4).1
  obtain ⟨e1, e2, e3⟩ := h.own blk _ m2 h1 hlt
  refine ⟨blk, es, clock, hρ.trans m1, e1, by rw [h.ex]; exact m3, e2.trans m4, m5, fun o => e3 o (m6 o), m0, fun i row e hi he => ?_⟩
  obtain ⟨q, n, d, f1, f2, f3⟩ := m7 i row e hi he
  exact ⟨q, n, d, f1, f2, f3.mono hc h (h2 i 1) fun j hj => hr row (List.mem_of_getElem? hi) d (by rw [f1]; simp) j hj⟩
 ·rename_i hs
  rw [if_neg hs] at hb
  obtain ⟨blk, cs, ty, hb⟩ := hb
  exact ⟨blk, cs, ty, hb.mono hc h h1 h2 hρ hr⟩
theorem Rel.change {G : Gl} {X X' : Cx} {s : St} {a : Act} (h : Rel G X s a) (S : Loc → Prop) (hc : ∀ L j, S L → S (.comp L j)) (hev : Ev S X X')
  (hslots : ∀ (i : Nat) d, s.t[i]? = some d → (S (.tmp i) ∧ ∀ k, d.ment k = true → X'.ρ k = X.ρ k) ∨ VRel X' G.base (.tmp i) d (a.tmps.getD i undef))
  (hboxes : ∀ (k : Nat) bx, s.b[k]? = some (some bx) → (S (.box k) ∧ (∀ r o, S (.cell k r o)) ∧ X'.ρ k = X.ρ k ∧ ∀ row, row ∈ bx.rows → ∀ d, d ∈ row → ∀ j, d.ment j = true → X'.ρ j = X.ρ j) ∨
   BX X' G.base k bx)
  (hbelow : Below G.base X.w X'.w) (hold : ∀ b, b < G.base → ∀ o, X'.M b o ↔ X.M b o) : Rel G X' s a := by
 refine ⟨h.defers, h.size, ?_, ?_, h.below.trans (.of hbelow), Nat.le_trans h.hb hbelow.size, hev.ex.trans h.mold.1, fun b hb hx o => (hold b hb o).trans (h.mold.2 b hb hx o)⟩
 ·intro i d hd
  rcases hslots i d hd with ⟨h1, h2⟩ | h1
  ·exact (h.tmps i d hd).mono hc hev h1 h2
  ·exact h1
 ·intro k bx hk
  rcases hboxes k bx hk with ⟨h1, h2, h3, h4⟩ | h1
  ·exact (h.boxes k bx hk).mono hc hev h1 h2 h3 h4
  ·exact h1
def Loc.root : Loc → Loc
 | .comp L _ => L.root
 | L => L
def Cx.moved (X : Cx) (φ : Loc → Loc) : Cx := { X with own := fun g => (X.own g).map φ }
theorem ev_moved (X : Cx) (φ : Loc → Loc) (S : Loc → Prop) (h : ∀ L, S L → φ L = L) : Ev S X (X.moved φ) :=
 ⟨Keeps.refl _ _, fun g L hg hS _ => ⟨by simp [Cx.moved, hg, h L hS], rfl, fun _ h => h⟩, rfl, fun _ => .refl _ _⟩
theorem OwRel.moved {X : Cx} {base : Nat} {L : Loc} {size : Nat} {n : Bool} {rows : List PV} {v : Value} (h : OwRel X base L size n rows v) (φ : Loc → Loc) : OwRel (X.moved φ) base (φ L) size n rows v := by
 rcases h with h | ⟨h0, g, cap, cur, ty, h1, h2, h3⟩
 ·exact .inl h
 ·exact .inr ⟨h0, g, cap, cur, ty, h1, by simp [Cx.moved, h2], h3⟩
theorem ObRel.moved {X : Cx} {base : Nat} {L : Loc} {T : Ob} {v : Value} (h : ObRel X base L T v) (φ : Loc → Loc) (hφ : ∀ L j, φ (.comp L j) = .comp (φ L) j) : ObRel (X.moved φ) base (φ L) T v :=
 ObRel.map (X := X) (X' := X.moved φ) (base := base) (base' := base) (fun L L' => L' = φ L) (fun L L' j e => by rw [e, hφ]) (Keeps.refl _ _) (fun g L L' e h1 h2 h3 _ => ⟨by simp [Cx.moved, h1, e], h2, rfl, h3⟩) h rfl
theorem VRel.copy_moved {X : Cx} {base : Nat} {L : Loc} {d : DV} {v : Value} (h : VRel X base L d v) (φ : Loc → Loc) (L' : Loc) : VRel (X.moved φ) base L' d.copy v := by
 have h' := h.copy L'
 cases d with
 | tup ds =>
  obtain ⟨vs, h1, h2, h3⟩ := h'
  refine ⟨vs, h1, h2, fun j d u hd hu => ?_⟩
  have := h3 j d u hd hu
  rw [List.getElem?_map] at hd
  cases hj : ds[j]? with
  | none => rw [hj] at hd; simp at hd
  | some d0 =>
   rw [hj] at hd
   simp at hd
   subst hd
   cases d0 <;> exact this
 | ob T => cases T <;> exact h'
 | pk o => cases o <;> exact h'
 | _ => exact h'
theorem VRel.moved {X : Cx} {base : Nat} {L : Loc} {d : DV} {v : Value} (h : VRel X base L d v) (φ : Loc → Loc) (hφ : ∀ L j, φ (.comp L j) = .comp (φ L) j) : VRel (X.moved φ) base (φ L) d v := by
 cases d with
 | ob T => exact ObRel.moved h φ hφ
 | pk o => cases o <;> exact h
 | tup ds =>
  obtain ⟨vs, h1, h2, h3⟩ := h
  refine ⟨vs, h1, h2, fun j d u hd hu => ?_⟩
  have := h3 j d u hd hu
  cases d with
  | p x => exact this
  | ow size n rows => rw [← hφ]; exact OwRel.moved this φ
 | ow size n rows => exact OwRel.moved h φ
 | _ => exact h
def toSlot (n m : Nat) : Loc → Loc
 | .tmp i => if i = n then .tmp m else .tmp i
 | .comp L j => .comp (toSlot n m L) j
 | L => L
theorem toSlot_id (n m : Nat) (L : Loc) (h : L.root ≠ .tmp n) : toSlot n m L = L := by
 induction L with
 | tmp i => simp only [toSlot]; rw [if_neg]; intro e; subst e; exact h rfl
 | comp L j ih => simp only [toSlot]; rw [ih h]
 | _ => rfl
theorem setL_get {t : List DV} {n i : Nat} {v d : DV} (h : (setL t n v)[i]? = some d) : (i = n ∧ d = v ∧ n < t.length) ∨ (i ≠ n ∧ t[i]? = some d) := by
 rw [getElem?_setL] at h
 by_cases hi : i = n
 ·subst hi
  rw [if_pos rfl] at h
  cases ht : t[i]? with
  | none => rw [ht] at h; simp at h
  | some e => rw [ht] at h; simp at h; exact .inl ⟨rfl, h.symm, (List.getElem?_eq_some_iff.1 ht).1⟩
 ·rw [if_neg hi] at h
  exact .inr ⟨hi, h⟩
theorem Rel.toSlot {G : Gl} {X : Cx} {s : St} {a : Act} (h : Rel G X s a) (n m : Nat) :
  Rel G (X.moved (toSlot n m)) ⟨setL s.t n (getT s.t n).copy, s.b⟩ a ∧ VRel (X.moved (toSlot n m)) G.base (.tmp m) (getT s.t n) (a.tmps.getD n undef) := by
 have hv := h.get n
 have hw := h.weak n (getT s.t n).copy (hv.copy _)
 refine ⟨hw.change (fun L => L.root ≠ .tmp n) (fun L j h => h) (ev_moved X _ _ fun L hL => toSlot_id n m L hL) ?_ ?_ (Below.refl _ _) (fun _ _ _ => Iff.rfl), ?_⟩
 ·intro i d hd
  rcases setL_get hd with ⟨rfl, rfl, _⟩ | ⟨hne, _⟩
  ·exact .inr (hv.copy_moved _ _)
  ·exact .inl ⟨fun e => hne (by simpa [Loc.root] using e), fun _ _ => rfl⟩
 ·intro k bx hk
  exact .inl ⟨by simp [Loc.root], by simp [Loc.root], rfl, fun _ _ _ _ _ _ => rfl⟩
 ·have := hv.moved (Vc.toSlot n m) (fun _ _ => rfl)
  simpa [Vc.toSlot] using this
section
variable {G : Gl} {X : Cx} {s : St} {a : Act} {Q : Exit → Act → World → Prop} {o : Oper} {K : St → Prop}
theorem s_mov (h : Rel G X s a) {take : Bool} {x : Operand} {ox : O} (hx : OT x ox) (ho : o.op = .move x ∨ o.op = .assign x)
  (hK : semI P (.mov take) [ox.val s.t] s.b fun v b => K ⟨putD (degr (.mov take) [ox] s.t) o.dst v, b⟩) : o.wp P a X.w (Post G K) Q := by
 have run : (execOp a.eval o).run P X.w = .ok (.value (a.eval x)) X.w := by rcases ho with ho | ho <;> simp [execOp, ho]
 cases take with
 | false =>
  obtain ⟨Lx, rx⟩ := h.opnd hx
  simp only [semI, Bool.false_eq_true, if_false, degr] at hK
  exact wp_value h run (fun j _ => rx.copy _) hK
 | true =>
  simp only [semI, if_true] at hK
  cases ox with
  | c d =>
   simp only [degr] at hK
   exact wp_value h run (fun j _ => VRel.const hx (by intro n hn; cases hn)) hK
  | t n =>
   simp only [degr] at hK
   unfold Oper.wp
   rw [run, Oper.upon_value]
   have hxe : x = .tmp n := by cases hx; rfl
   subst hxe
   cases hd : o.dst with
   | none =>
    rw [hd] at hK
    exact ⟨_, X, (h.weak n _ ((h.get n).copy _)).put (d := none) (v := .top) (fun j hj => by cases hj), rfl, hK⟩
   | some m =>
    rw [hd] at hK
    obtain ⟨h1, h2⟩ := h.toSlot n m
    refine ⟨_, _, h1.put (d := some m) (u := a.eval (.tmp n)) (fun j hj => ?_), rfl, hK⟩
    injection hj with hj
    subst hj
    exact h2
def outOf (n j m : Nat) (L : Loc) : Loc :=
 match L with
 | .comp (.tmp i) j' => if i = n ∧ j' = j then .tmp m else L
 | L => L
theorem s_ext (h : Rel G X s a) {j : Nat} {x : Operand} {ox : O} (hx : OT x ox) (ho : o.op = .extract x j)
  (hK : semI P (.ext j) [ox.val s.t] s.b fun v b => K ⟨putD (degr (.ext j) [ox] s.t) o.dst v, b⟩) : o.wp P a X.w (Post G K) Q := by
 cases ox with
 | c d =>
  exfalso
  cases hx <;> simp [O.val, semI] at hK
 | t n =>
  have hxe : x = .tmp n := by cases hx; rfl
  subst hxe
  have hv := h.get n
  simp only [O.val] at hK
  simp only [degr] at hK
  generalize hg : getT s.t n = dv at *
  cases dv with
  | tup ds =>
   simp only [semI] at hK
   cases hj : ds[j]? with
   | none => simp [hj] at hK
   | some d =>
    simp only [hj] at hK
    obtain ⟨vs, ev, hl, hh⟩ := hv
    have hlt : j < vs.size := by rw [hl]; exact (List.getElem?_eq_some_iff.1 hj).1
    have hu : vs[j]? = some vs[j] := by simp [hlt]
    have hr := hh j d _ hj hu
    have ev' : a.eval (.tmp n) = .tuple vs := ev
    have run : (execOp a.eval o).run P X.w = .ok (.value vs[j]) X.w := by simp [execOp, ho, ev', Instr.extract, hlt]
    unfold Oper.wp
    rw [run, Oper.upon_value]
    have hcop : ∀ (X' : Cx), X'.M = X.M → X'.w = X.w → X'.ρ = X.ρ → (∀ j' d', j' ≠ j → ds[j']? = some d' → ∀ u, vs[j']? = some u → TRel X' G.base (.comp (.tmp n) j') d' u) → VRel X' G.base (.tmp n) (.tup (setL ds j d.copy)) (a.tmps.getD n undef) := by
     intro X' eM ew eρ hoth
     refine ⟨vs, ev, by rw [setL_length]; exact hl, fun j' d' u hd' hu' => ?_⟩
     rw [getElem?_setL] at hd'
     by_cases hjj : j' = j
     ·subst hjj
      rw [if_pos rfl, hj] at hd'
      simp at hd'
      subst hd'
      have := TRel.copy (hh j' d u hj hu') (.comp (.tmp n) j')
      cases d <;> (simp only [TV.copy, TRel] at this ⊢; rw [eM, ew]; exact this)
     ·rw [if_neg hjj] at hd'
      exact hoth j' d' hjj hd' u hu'
    have hw := h.weak n (.tup (setL ds j d.copy)) (hcop X rfl rfl rfl fun j' d' _ hd' u hu' => hh j' d' u hd' hu')
    cases hd : o.dst with
    | none =>
     rw [hd] at hK
     exact ⟨_, X, hw.put (d := none) (v := .top) (u := vs[j]) (fun j hj => by cases hj), rfl, hK⟩
    | some m =>
     rw [hd] at hK
     have hch : Rel G (X.moved (outOf n j m)) ⟨setL s.t n (.tup (setL ds j d.copy)), s.b⟩ a := by
      refine hw.change (fun L => L.root ≠ .tmp n) (fun L j h => h) (ev_moved X _ _ fun L hL => ?_) ?_ ?_ (Below.refl _ _) (fun _ _ _ => Iff.rfl)
      ·unfold outOf
       split
       ·rename_i i j' ; split
        ·rename_i he; obtain ⟨rfl, rfl⟩ := he; exact absurd rfl hL
        ·rfl
       ·rfl
      ·intro i e he
       rcases setL_get he with ⟨rfl, rfl, _⟩ | ⟨hne, _⟩
       ·refine .inr (hcop _ rfl rfl rfl fun j' d' hne hd' u hu' => ?_)
        have := hh j' d' u hd' hu'
        cases d' with
        | p x => exact this
        | ow size nl rows =>
         have e := OwRel.moved this (outOf i j m)
         have e2 : outOf i j m (.comp (.tmp i) j') = .comp (.tmp i) j' := by simp [outOf, hne]
         rw [e2] at e
         exact e
       ·exact .inl ⟨fun e => hne (by simpa [Loc.root] using e), fun _ _ => rfl⟩
      ·intro k bx hk
       exact .inl ⟨by simp [Loc.root], by simp [Loc.root], rfl, fun _ _ _ _ _ _ => rfl⟩
     refine ⟨_, _, hch.put (d := some m) (u := vs[j]) (fun i hi => ?_), rfl, hK⟩
     injection hi with hi
     subst hi
     cases d with
     | p x => exact hr
     | ow size nl rows =>
      have e := OwRel.moved hr (outOf n j m)
      have e2 : outOf n j m (.comp (.tmp n) j) = .tmp m := by simp [outOf]
      rw [e2] at e
      exact e
  | _ => simp [semI] at hK
end
end Go.Proofs.YtnjphclbpgajpaaGreatDoor.Vc
namespace Go.Proofs.YtnjphclbpgajpaaGreatDoor.Vc
open Go.RowKit
variable {P : Program}
def Cx.grow (X : Cx) (k : Nat) (cs : Array Value) (ty : TypeId) : Cx :=
 {ρ := fun j => if j = k then some X.w.heap.size else X.ρ j
  own := fun g => if g = X.w.heap.size then some (.box k) else X.own g
  M := fun b o => if b = X.w.heap.size then True else X.M b o
  w := X.w.alloc (.cells cs ty)
  ex := X.ex }
theorem ev_grow (X : Cx) (k : Nat) (cs : Array Value) (ty : TypeId) : Ev (fun _ => True) X (X.grow k cs ty) := by
 refine ⟨fun b o v hM hc => ?_, fun g L hg _ hlt => ?_, rfl, fun g cs' ty' hg => ⟨cs', ty', (Below.heap_alloc _ _ _ (Array.getElem?_eq_some_iff.1 hg).1).trans hg, rfl⟩⟩
 ·have hlt : b < X.w.heap.size := World.block_lt_of_cell? _ _ hc
  refine ⟨by show (X.w.alloc _).cell? _ = _; rw [World.cell?_alloc_lt _ _ _ hlt]; exact hc, ?_⟩
  show ¬ (if b = X.w.heap.size then True else X.M b o)
  rw [if_neg (by omega)]
  exact hM
 ·refine ⟨?_, ?_, fun o hM => ?_⟩
  ·show (if g = X.w.heap.size then _ else X.own g) = _
   rw [if_neg (by omega)]; exact hg
  ·exact Below.heap_alloc _ _ _ hlt
  ·show (if g = X.w.heap.size then True else X.M g o)
   split
   ·trivial
   ·exact hM
theorem noRefT_get {k : Nat} {t : List DV} (h : noRefT k t = true) {i : Nat} {d : DV} (hd : t[i]? = some d) : d.ment k = false := by
 induction t generalizing i with
 | nil => simp at hd
 | cons e es ih =>
  simp only [noRefT, Bool.and_eq_true, Bool.not_eq_true'] at h
  cases i with
  | zero => simp at hd; subst hd; exact h.1
  | succ i => exact ih h.2 (by simpa using hd)
theorem noRefR_get {k : Nat} {rs : List (List DV)} (h : noRefR k rs = true) {row : List DV} (hr : row ∈ rs) {d : DV} (hd : d ∈ row) : d.ment k = false := by
 induction rs with
 | nil => simp at hr
 | cons e es ih =>
  simp only [noRefR, Bool.and_eq_true] at h
  rcases List.mem_cons.1 hr with rfl | hr
  ·obtain ⟨i, hi, he⟩ := List.getElem_of_mem hd
   exact noRefT_get h.1 (i := i) (by rw [List.getElem?_eq_getElem hi, he])
  ·exact ih h.2 hr
theorem noRefB_get {k i : Nat} {bs : List (Option Box)} (h : noRefB k i bs = true) {j : Nat} {bx : Box} (hb : bs[j]? = some (some bx)) (hne : i + j ≠ k) : noRefR k bx.rows = true := by
 induction bs generalizing i j with
 | nil => simp at hb
 | cons e es ih =>
  simp only [noRefB, Bool.and_eq_true, Bool.or_eq_true, beq_iff_eq] at h
  cases j with
  | zero =>
   simp at hb
   subst hb
   rcases h.1 with h1 | h1
   ·exact absurd (by omega) hne
   ·exact h1
  | succ j => exact ih h.2 (by simpa using hb) (by omega)
theorem Rel.grow {G : Gl} {X : Cx} {s : St} {a : Act} (h : Rel G X s a) {k : Nat} {d : Option Nat} (cs : Array Value) (ty : TypeId) (bx : Box)
  (hT : noRefT k (putD s.t d .top) = true) (hB : noRefB k 0 s.b = true)
  (hsize : cs.size = bx.rows.length * bx.size) (hwidth : ∀ row, row ∈ bx.rows → row.length = bx.size)
  (hcells : ∀ (r o : Nat) row e u, bx.rows[r]? = some row → row[o]? = some e → cs[r * bx.size + o]? = some u → VRel (X.grow k cs ty) G.base (.cell k r o) e u ∧ u.oneCell' = true)
  (hlive : bx.live = true) (hold : bx.old = false) (hne : bx.size ≠ 0) {v : DV} {u : Value} (hv : VRel (X.grow k cs ty) G.base (.tmp (d.getD 0)) v u) :
  Rel G (X.grow k cs ty) ⟨putD s.t d v, setL s.b k (some bx)⟩ (a.put d u) := by
 have hev := ev_grow X k cs ty
 have hρ : ∀ j, j ≠ k → (X.grow k cs ty).ρ j = X.ρ j := fun j hj => by show (if j = k then _ else X.ρ j) = _; rw [if_neg hj]
 have h0 : Rel G X ⟨putD s.t d .top, s.b⟩ a := by
  cases d with
  | none => exact h
  | some i => exact h.weak i .top trivial
 have h1 : Rel G (X.grow k cs ty) ⟨putD s.t d .top, setL s.b k (some bx)⟩ a := by
  have h0' : Rel G X ⟨putD s.t d .top, s.b⟩ a := h0
  refine ⟨h0'.defers, h0'.size, ?_, ?_, h0'.below.trans (.of ((Below.refl _ _).alloc h0'.hb _)), by show _ ≤ (X.w.heap.push _).size; rw [Array.size_push]; exact Nat.le_succ_of_le h0'.hb, h0'.mold.1, ?_⟩
  ·intro i e he
   have hm := noRefT_get hT he
   refine (h0'.tmps i e he).mono (fun _ _ h => h) hev trivial fun j hj => hρ j (fun e' => by subst e'; rw [hm] at hj; cases hj)
  ·intro j bx' hj
   rcases (by rw [getElem?_setL] at hj; exact hj : (if j = k then s.b[j]?.map (fun _ => some bx) else s.b[j]?) = some (some bx')) with hj
   by_cases hjk : j = k
   ·subst hjk
    rw [if_pos rfl] at hj
    have : bx' = bx := by
     cases hb : s.b[j]? with
     | none => rw [hb] at hj; simp at hj
     | some _ => rw [hb] at hj; simp at hj; exact hj.symm
    subst this
    refine BX.cell (blk := X.w.heap.size) (cs := cs) (ty := ty) hne ⟨?_, ?_, ⟨.inl h.hb, fun h => by rw [hold] at h; cases h⟩, ?_, Nat.le_of_eq hsize.symm, hwidth, hcells, fun _ o => ?_, fun hl => by rw [hlive] at hl; cases hl⟩
    ·show (if j = j then some X.w.heap.size else _) = _; rw [if_pos rfl]
    ·show (if X.w.heap.size = X.w.heap.size then _ else _) = _; rw [if_pos rfl]
    ·show (X.w.heap.push _)[_]? = _; simp
    ·show (if _ then True else _); rw [if_pos rfl]; trivial
   ·rw [if_neg hjk] at hj
    have hr := noRefB_get hB hj (by omega)
    exact (h0'.boxes j bx' hj).mono (fun _ _ h => h) hev trivial (fun _ _ => trivial) (hρ j hjk) fun row hrow e he i hi =>
     hρ i (fun e' => by subst e'; rw [noRefR_get hr hrow he] at hi; cases hi)
  ·intro b hb hx o
   have : b < X.w.heap.size := Nat.lt_of_lt_of_le hb h.hb
   show (if b = X.w.heap.size then True else X.M b o) ↔ _
   rw [if_neg (by omega)]
   exact h0'.mold.2 b hb hx o
 have h2 := h1.put (d := d) (v := v) (u := u) (fun j hj => by subst hj; exact hv)
 have e : putD (putD s.t d .top) d v = putD s.t d v := by
  cases d with
  | none => rfl
  | some i =>
   apply List.ext_getElem?
   intro j
   simp only [putD, getElem?_setL]
   by_cases hj : j = i
   ·subst hj; cases s.t[j]? <;> simp
   ·simp [hj]
 rw [e] at h2
 exact h2
section
variable {G : Gl} {X : Cx} {s : St} {a : Act} {Q : Exit → Act → World → Prop} {o : Oper} {K : St → Prop}
theorem Flat.one_of_cell {M : Nat → Nat → Prop} {w : World} {x : PV} {v : Value} (h : Flat M w x v) (hv : v.oneCell' = true) : x.one = true := by
 cases h <;> first | rfl | (simp [Value.oneCell'] at hv)
theorem copies_eq (l : List DV) : copies l = l.map DV.copy := by induction l with | nil => rfl | cons x xs ih => simp [copies, ih]
theorem ment_copy (k : Nat) (d : DV) : d.copy.ment k = d.ment k := by
 cases d with
 | ob T => cases T <;> rfl
 | _ => rfl
theorem cellsOfD_rel {X : Cx} {base : Nat} {L : Loc} {x : DV} {v : Value} (h : VRel X base L x v) {cs : List DV} (hc : cellsOfD x = some cs) :
  v.cells.size = cs.length ∧ ∀ (i : Nat) d u, cs[i]? = some d → v.cells[i]? = some u → (∀ L', VRel X base L' d.copy u) ∧ u.oneCell' = true ∧ ∀ k, d.ment k = true → x.ment k = true := by
 have single : x.isP = false → cs = [x] → v.oneCell' = true → v.cells.size = cs.length ∧ ∀ (i : Nat) d u, cs[i]? = some d → v.cells[i]? = some u → (∀ L', VRel X base L' d.copy u) ∧ u.oneCell' = true ∧ ∀ k, d.ment k = true → x.ment k = true := by
  intro _ e hone
  subst e
  rw [cells_of_one hone]
  refine ⟨rfl, fun i d u hd hu => ?_⟩
  cases i with
  | zero => simp at hd hu; subst hd; subst hu; exact ⟨fun L' => h.copy L', hone, fun _ h => h⟩
  | succ i => simp at hd
 cases x with
 | ob T => simp [cellsOfD] at hc
 | pk o => simp [cellsOfD] at hc
 | agd rs =>
  simp [cellsOfD] at hc
  subst hc
  obtain ⟨vs, rfl, h2, h3⟩ := h
  refine ⟨by rw [rfDs_eq, List.length_map]; exact h2, fun i d u hd hu => ?_⟩
  rw [rfDs_eq, List.getElem?_map] at hd
  cases hr : rs[i]? with
  | none => rw [hr] at hd; simp at hd
  | some c =>
   rw [hr] at hd
   simp only [Option.map_some, Option.some.injEq] at hd
   subst hd
   obtain ⟨f1, f2⟩ := h3 i c u hr hu
   refine ⟨fun L' => (f1.dv base L').copy L', f2, fun k hk => ?_⟩
   simp only [DV.ment, List.any_eq_true]
   exact ⟨c, List.mem_of_getElem? hr, by cases c <;> exact hk⟩
 | mh k =>
  simp [cellsOfD] at hc
  obtain ⟨blk, _, rfl⟩ := h
  exact single rfl hc.symm rfl
 | top => simp [cellsOfD] at hc
 | tup ds => simp [cellsOfD] at hc
 | p z =>
  simp [cellsOfD] at hc
  subst hc
  obtain ⟨e1, e2⟩ := Flat.cells (show Flat X.M X.w z v from h)
  refine ⟨by simpa using e1, fun i d u hd hu => ?_⟩
  rw [List.getElem?_map] at hd
  cases hz : (rowCells z)[i]? with
  | none => rw [hz] at hd; simp at hd
  | some c =>
   rw [hz] at hd
   simp at hd
   subst hd
   obtain ⟨f1, f2⟩ := e2 i c u hz hu
   exact ⟨fun L' => f1, f1.oneCell f2, fun k hk => by simp [DV.ment] at hk⟩
 | ow size n rows =>
  simp [cellsOfD] at hc
  refine single rfl hc.symm ?_
  have := OwRel.flat h
  exact this.oneCell rfl
 | addr k size r off =>
  simp [cellsOfD] at hc
  obtain ⟨blk, _, rfl⟩ := h
  exact single rfl hc.symm rfl
 | bs k size ag lo n =>
  simp [cellsOfD] at hc
  obtain ⟨blk, cap, _, _, _, _, rfl⟩ := h
  exact single rfl hc.symm rfl
 | fn f caps =>
  simp [cellsOfD] at hc
  obtain ⟨vs, rfl, _⟩ := h
  exact single rfl hc.symm rfl
theorem copy_mono_grow {X : Cx} {base k : Nat} {cs : Array Value} {ty : TypeId} {L : Loc} {d : DV} {v : Value} (h : VRel X base L d v) (hm : d.ment k = false) : VRel (X.grow k cs ty) base L d v :=
 h.mono (S := fun _ => True) (fun _ _ h => h) (ev_grow X k cs ty) trivial fun j hj => by
  show (if j = k then _ else X.ρ j) = _
  rw [if_neg (fun e => by subst e; rw [hm] at hj; cases hj)]
theorem s_box (h : Rel G X s a) {k size : Nat} {t : TypeId} {x : Operand} {ox : O} (hx : OT x ox) (ho : o.op = .box t x)
  (hsne : size ≠ 0) (hf : k < s.b.length ∧ noRefT k (putD s.t o.dst .top) = true ∧ noRefB k 0 s.b = true)
  (hK : semI P (.box k size) [ox.val s.t] s.b fun v b => K ⟨putD s.t o.dst v, b⟩) : o.wp P a X.w (Post G K) Q := by
 obtain ⟨Lx, rx⟩ := h.opnd hx
 generalize ox.val s.t = vx at *
 simp only [semI] at hK
 cases hc : cellsOfD vx with
 | none => simp [hc] at hK
 | some cs =>
  simp only [hc] at hK
  obtain ⟨hl, hm, hK⟩ := hK
  obtain ⟨e1, e2⟩ := cellsOfD_rel rx hc
  have run : (execOp a.eval o).run P X.w = .ok (.value (.pointer (some ⟨X.w.heap.size, 0, none⟩))) (X.w.alloc (.cells (a.eval x).cells t)) := by
   simp [execOp, ho, Instr.box, newVar, newRow]
  unfold Oper.wp
  rw [run, Oper.upon_value]
  refine ⟨_, X.grow k (a.eval x).cells t, h.grow (a.eval x).cells t ⟨true, size, [copies cs], false⟩ hf.2.1 hf.2.2 ?_ ?_ ?_ rfl rfl hsne (v := .addr k size 0 0) ⟨X.w.heap.size, by simp [Cx.grow], by simp⟩, rfl, hK⟩
  ·simp [e1, hl]
  ·intro row hrow
   simp at hrow
   subst hrow
   simp [copies_eq, hl]
  ·intro r i row e u hrow he hu
   cases r with
   | zero =>
    simp at hrow
    subst hrow
    rw [copies_eq, List.getElem?_map] at he
    cases hd : cs[i]? with
    | none => rw [hd] at he; simp at he
    | some d =>
     rw [hd] at he
     simp at he
     subst he
     obtain ⟨f1, f2, f3⟩ := e2 i d u hd (by simpa using hu)
     refine ⟨copy_mono_grow (f1 _) ?_, f2⟩
     rw [ment_copy]
     cases hmd : d.ment k with
     | false => rfl
     | true => have := f3 k hmd; rw [hm] at this; cases this
   | succ r => simp at hrow
inductive ZR : DV → Value → Prop
 | int (k : IntKind) (n : Int) : ZR (.p (.int k n)) (.int k n)
 | bool (b : Bool) : ZR (.p (.bool b)) (.bool b)
 | str (s : ByteArray) : ZR (.p (.str s)) (.string s)
 | nil (n : Nat) : ZR (.ow n true []) (.slice none 0 0)
 | atom (v : Value) (h : v.oneCell' = true) : ZR (.p (.atom v)) v
 | top (v : Value) (h : v.oneCell' = true) : ZR .top v
theorem ZR.rel {X : Cx} {base : Nat} {L : Loc} {d : DV} {v : Value} (h : ZR d v) : VRel X base L d v ∧ v.oneCell' = true := by
 cases h with
 | int k n => exact ⟨Flat.int k n, rfl⟩
 | bool b => exact ⟨Flat.bool b, rfl⟩
 | str s => exact ⟨Flat.str s, rfl⟩
 | nil n => exact ⟨.inl ⟨rfl, .inl ⟨rfl, rfl⟩⟩, rfl⟩
 | atom v h => exact ⟨Flat.atom v h, h⟩
 | top v h => exact ⟨trivial, h⟩
def ZRs (l : List DV) (vs : Array Value) : Prop := vs.size = l.length ∧ ∀ (i : Nat) d v, l[i]? = some d → vs[i]? = some v → ZR d v
theorem s_alloc (h : Rel G X s a) {k size : Nat} {zero : List DV} {t : TypeId} (ho : o.op = .alloc t) {i : TypeInfo} {z : Value} (hi : P.info? t = some i) (hz : i.zero = some z) (hzr : ZRs zero z.cells)
  (hsne : size ≠ 0) (hf : k < s.b.length ∧ noRefT k (putD s.t o.dst .top) = true ∧ noRefB k 0 s.b = true)
  (hK : semI P (.alloc k size zero) [] s.b fun v b => K ⟨putD s.t o.dst v, b⟩) : o.wp P a X.w (Post G K) Q := by
 simp only [semI] at hK
 obtain ⟨hl, hK⟩ := hK
 have run : (execOp a.eval o).run P X.w = .ok (.value (.pointer (some ⟨X.w.heap.size, 0, none⟩))) (X.w.alloc (.cells z.cells t)) := by
  simp [execOp, ho, Instr.alloc, zeroValue, typeInfo, hi, hz, newVar, newRow]
 unfold Oper.wp
 rw [run, Oper.upon_value]
 refine ⟨_, X.grow k z.cells t, h.grow z.cells t ⟨true, size, [zero], false⟩ hf.2.1 hf.2.2 ?_ ?_ ?_ rfl rfl hsne (v := .addr k size 0 0) ⟨X.w.heap.size, by simp [Cx.grow], by simp⟩, rfl, hK⟩
 ·simp [hzr.1, hl]
 ·intro row hrow
  simp at hrow
  subst hrow
  exact hl
 ·intro r i row e u hrow he hu
  cases r with
  | zero =>
   simp at hrow
   subst hrow
   exact (hzr.2 i e u he (by simpa using hu)).rel
  | succ r => simp at hrow
theorem s_mksl (h : Rel G X s a) {k size bytes : Nat} {ag : Bool} {zero : List DV} {t e : TypeId} {x y : Operand} {ox oy : O} (hx : OT x ox) (hy : OT y oy) (ho : o.op = .makeSlice t x y)
  (hu : P.underlying t = some (.slice e)) {i : TypeInfo} {z : Value} (hi : P.info? e = some i) (hz : i.zero = some z) (hsz : i.size = size) (hby : i.bytes = bytes) (hzr : ZRs zero z.cells)
  (hsne : size ≠ 0) (hf : k < s.b.length ∧ noRefT k (putD s.t o.dst .top) = true ∧ noRefB k 0 s.b = true)
  (hK : semI P (.mksl k size bytes ag zero) [ox.val s.t, oy.val s.t] s.b fun v b => K ⟨putD s.t o.dst v, b⟩) : o.wp P a X.w (Post G K) Q := by
 obtain ⟨_, rx⟩ := h.opnd hx
 obtain ⟨_, ry⟩ := h.opnd hy
 generalize ox.val s.t = vx at *
 generalize oy.val s.t = vy at *
 obtain ⟨k1, n, rfl⟩ : ∃ k1 l', vx = .p (.int k1 l') := by
  rcases vx with _ | x | _ | _ | _ | _ | _ <;> first | (simp [semI] at hK; done) | skip
  cases x <;> first | (simp [semI] at hK; done) | exact ⟨_, _, rfl⟩
 obtain ⟨k2, m, rfl⟩ : ∃ k1 l', vy = .p (.int k1 l') := by
  rcases vy with _ | x | _ | _ | _ | _ | _ <;> first | (simp [semI] at hK; done) | skip
  cases x <;> first | (simp [semI] at hK; done) | exact ⟨_, _, rfl⟩
 simp only [semI] at hK
 obtain ⟨rfl, h0, hb, hmax, hzl, hK⟩ := hK
 have ex := Flat.intv rx
 have ey := Flat.intv ry
 subst hsz
 subst hby
 have hm63 : n ≤ 9223372036854775807 := by simpa [maxLen] using hmax
 have hr := run_make (P := P) X.w t e i z hu hi hz k1 k2 n n h0 (Int.le_refl _) (by rw [Int.mul_comm]; omega) hm63
 have run : (execOp a.eval o).run P X.w = .ok (.value (.slice (some ⟨X.w.heap.size, 0, none⟩) n.toNat n.toNat)) (X.w.alloc (.cells (madeCells z.cells (n.toNat * i.size)) e)) := by
  simp [execOp, ho, ex, ey, hr]
 unfold Oper.wp
 rw [run, Oper.upon_value]
 have hzs : z.cells.size = i.size := hzr.1.trans hzl
 refine ⟨_, X.grow k _ e, h.grow (madeCells z.cells (n.toNat * i.size)) e ⟨true, i.size, List.replicate n.toNat zero, false⟩ hf.2.1 hf.2.2 ?_ ?_ ?_ rfl rfl hsne (v := .bs k i.size ag 0 n.toNat) ?_, rfl, hK⟩
 ·simp [size_madeCells]
 ·intro row hrow
  rw [(List.mem_replicate.1 hrow).2]
  exact hzl
 ·intro r j row d u hrow hd hu
  rw [List.getElem?_replicate] at hrow
  split at hrow
  ·rename_i hrn
   injection hrow with hrow
   subst hrow
   have hj : j < i.size := by rw [← hzl]; exact (List.getElem?_eq_some_iff.1 hd).1
   have hlt : r * i.size + j < n.toNat * i.size := by
    have : (r + 1) * i.size ≤ n.toNat * i.size := Nat.mul_le_mul_right _ hrn
    rw [Nat.add_mul] at this; omega
   have hmod : (r * i.size + j) % i.size = j := by rw [Nat.add_comm, Nat.add_mul_mod_self_right]; exact Nat.mod_eq_of_lt hj
   have hjz : j < z.cells.size := by omega
   have hu' : z.cells[j]? = some u := by
    simp only [madeCells, Array.getElem?_map] at hu
    rw [Array.getElem?_range, if_pos hlt] at hu
    simp only [Option.map_some, Option.some.injEq] at hu
    rw [hzs, hmod] at hu
    rw [← hu]
    simp [hjz]
   exact (hzr.2 j d u hd hu').rel
  ·cases hrow
 ·exact ⟨X.w.heap.size, n.toNat, by simp [Cx.grow], Nat.le_refl _, by omega, ⟨madeCells z.cells (n.toNat * i.size), e, by show (X.w.heap.push _)[_]? = _; simp, by simp [madeCells]⟩, by simp⟩
end
end Go.Proofs.YtnjphclbpgajpaaGreatDoor.Vc
namespace Go.Proofs.YtnjphclbpgajpaaGreatDoor.Vc
open Go.RowKit
variable {P : Program}
section
variable {G : Gl} {X : Cx} {s : St} {a : Act} {Q : Exit → Act → World → Prop} {o : Oper} {K : St → Prop}
theorem run_load_one {t : TypeId} {n : Nat} (ht : TyIs P t n false) {x : Operand} (ho : o.op = .load t x) {b i : Nat} (ev : a.eval x = .pointer (some ⟨b, i, none⟩)) {w : World} {v : Value}
  (hv : w.cell? ⟨b, i, none⟩ = some v) : (execOp a.eval o).run P w = .ok (.value v) w := by
 simp [execOp, ho, ev, Instr.loadAt, Instr.sureAddr, loadVar, ht.run_isAgg, run_load, hv]
theorem run_load_agg {t : TypeId} {n : Nat} (ht : TyIs P t n true) {x : Operand} (ho : o.op = .load t x) {b i : Nat} (ev : a.eval x = .pointer (some ⟨b, i, none⟩)) {w : World} (f : Nat → Value)
  (hv : ∀ j, j < n → w.cell? ⟨b, i + j, none⟩ = some (f j)) : (execOp a.eval o).run P w = .ok (.value (.agg ((List.range n).map f).toArray)) w := by
 have := run_loadCells (P := P) w ⟨b, i, none⟩ n f (fun j hj => by rw [Addr.add_lit]; exact hv j hj)
 simp [execOp, ho, ev, Instr.loadAt, Instr.sureAddr, loadVar, ht.run_isAgg, ht.run_sizeOf, this]
theorem s_loadP (h : Rel G X s a) {t : TypeId} {n : Nat} {isA take : Bool} (ht : TyIs P t n isA) {x : Operand} {ox : O} (hx : OT x ox) (ho : o.op = .load t x) {cells : List PV} {off : Nat}
  (e : ox.val s.t = .p (.ptr cells off)) (hK : semI P (.load n isA take) [ox.val s.t] s.b fun v b => K ⟨putD s.t o.dst v, b⟩) : o.wp P a X.w (Post G K) Q := by
 obtain ⟨_, rx⟩ := h.opnd hx
 rw [e] at rx hK
 simp only [semI, loadP] at hK
 generalize hv : a.eval x = v at *
 have rx' : Flat X.M X.w (.ptr cells off) v := rx
 cases rx' with
 | ptr _ _ b n0 cv hc h1 hr =>
  cases isA with
  | true =>
   simp only [if_true] at hK
   obtain ⟨hle, hK⟩ := hK
   refine wp_pv (z := .agg _) h (run_load_agg ht ho hv (fun j => cv (off + j)) fun j hj => ?_) (.agg _ _ ?_ ?_ ?_) hK
   ·have := (hc (off + j) (by omega)).1
    rw [Nat.add_assoc]; exact this
   ·rw [takeP_eq]; simp; omega
   ·intro c hcm; rw [takeP_eq] at hcm; exact h1 c (List.mem_of_mem_drop (List.mem_of_mem_take hcm))
   ·intro i c u hci hu
    rw [takeP_eq, List.getElem?_take] at hci
    split at hci
    ·rename_i hin
     rw [List.getElem?_drop] at hci
     have : u = cv (off + i) := by simpa [hin, eq_comm] using hu
     subst this
     exact hr _ c hci
    ·cases hci
  | false =>
   simp only [Bool.false_eq_true, if_false] at hK
   obtain ⟨c, hcc, hK⟩ := hK
   have hlt := (List.getElem?_eq_some_iff.1 hcc).1
   exact wp_pv (z := c) h (run_load_one ht ho hv (hc off hlt).1) (hr off c hcc) hK
theorem pvsOf_get {ds : List DV} {xs : List PV} (h : pvsOf ds = some xs) : xs.length = ds.length ∧ ∀ (i : Nat) d x, ds[i]? = some d → xs[i]? = some x → pvOf d = some x := by
 induction ds generalizing xs with
 | nil => simp [pvsOf] at h; subst h; exact ⟨rfl, fun i d x hd => by simp at hd⟩
 | cons d ds ih =>
  simp only [pvsOf] at h
  cases hd : pvOf d with
  | none => simp [hd] at h
  | some x =>
   cases hds : pvsOf ds with
   | none => simp [hd, hds] at h
   | some ys =>
    simp [hd, hds] at h
    subst h
    obtain ⟨e1, e2⟩ := ih hds
    refine ⟨by simp [e1], fun i d' x' hd' hx' => ?_⟩
    cases i with
    | zero => simp at hd' hx'; subst hd'; subst hx'; exact hd
    | succ i => exact e2 i d' x' (by simpa using hd') (by simpa using hx')
theorem BoxRel.cell {X : Cx} {base k : Nat} {bx : Box} {blk : Nat} {cs : Array Value} {ty : TypeId} (hb : BoxRel X base k bx blk cs ty) {r i : Nat} {row : List DV} (hr : bx.rows[r]? = some row) (hi : i < row.length) :
  ∃ u, cs[r * bx.size + i]? = some u ∧ X.w.cell? ⟨blk, r * bx.size + i, none⟩ = some u ∧ VRel X base (.cell k r i) row[i] u ∧ u.oneCell' = true := by
 have hw := hb.width row (List.mem_of_getElem? hr)
 have hrl := (List.getElem?_eq_some_iff.1 hr).1
 have hlt : r * bx.size + i < cs.size := by
  have := hb.size
  have : (r + 1) * bx.size ≤ bx.rows.length * bx.size := Nat.mul_le_mul_right _ hrl
  rw [Nat.add_mul] at this; omega
 have hu : cs[r * bx.size + i]? = some cs[r * bx.size + i] := by simp [hlt]
 obtain ⟨h1, h2⟩ := hb.cells r i row row[i] _ hr (by simp [hi]) hu
 exact ⟨_, hu, by rw [heap_cell hb.heap]; exact hu, h1, h2⟩
theorem BoxRel.upd {X : Cx} {base k : Nat} {bx : Box} {blk : Nat} {cs : Array Value} {ty : TypeId} (hb : BoxRel X base k bx blk cs ty) {r i : Nat} {row : List DV} (hr : bx.rows[r]? = some row) {d : DV} {own' : Nat → Option Loc}
  (ho : own' blk = some (.box k))
  (hd : ∀ u, cs[r * bx.size + i]? = some u → VRel { X with own := own' } base (.cell k r i) d u) (hp : bx.live = false → d.isP = true)
  (hcs : ∀ (r' o' : Nat) e u, ¬ (r' = r ∧ o' = i) → VRel X base (.cell k r' o') e u → VRel { X with own := own' } base (.cell k r' o') e u) :
  BoxRel { X with own := own' } base k { bx with rows := setL bx.rows r (setL row i d) } blk cs ty := by
 refine ⟨hb.ρ, ho, hb.hbase, hb.heap, by simpa [setL_length] using hb.size, ?_, ?_, hb.live, ?_⟩
 ·intro row' hrow'
  obtain ⟨j, hj⟩ := List.getElem?_of_mem hrow'
  simp only [getElem?_setL] at hj
  by_cases hjr : j = r
  ·subst hjr
   rw [if_pos rfl, hr] at hj
   simp at hj
   subst hj
   rw [setL_length]
   exact hb.width row (List.mem_of_getElem? hr)
  ·rw [if_neg hjr] at hj
   exact hb.width row' (List.mem_of_getElem? hj)
 ·intro r' o' row' e u hrow' he hu
  simp only [getElem?_setL] at hrow'
  by_cases hjr : r' = r
  ·subst hjr
   rw [if_pos rfl, hr] at hrow'
   simp at hrow'
   subst hrow'
   rw [getElem?_setL] at he
   by_cases hoo : o' = i
   ·subst hoo
    rw [if_pos rfl] at he
    cases hx : row[o']? with
    | none => rw [hx] at he; simp at he
    | some e0 =>
     rw [hx] at he
     simp at he
     subst he
     exact ⟨hd u hu, (hb.cells r' o' row e0 u hr hx hu).2⟩
   ·rw [if_neg hoo] at he
    obtain ⟨f1, f2⟩ := hb.cells r' o' row e u hr he hu
    exact ⟨hcs r' o' e u (fun hh => hoo hh.2) f1, f2⟩
  ·rw [if_neg hjr] at hrow'
   obtain ⟨f1, f2⟩ := hb.cells r' o' row' e u hrow' he hu
   exact ⟨hcs r' o' e u (fun hh => hjr hh.1) f1, f2⟩
 ·intro hl
  obtain ⟨f1, f2⟩ := hb.fixed hl
  refine ⟨by simpa [setL_length] using f1, fun row' hrow' e he => ?_⟩
  obtain ⟨j, hj⟩ := List.getElem?_of_mem hrow'
  simp only [getElem?_setL] at hj
  by_cases hjr : j = r
  ·subst hjr
   rw [if_pos rfl, hr] at hj
   simp at hj
   subst hj
   obtain ⟨q, hq⟩ := List.getElem?_of_mem he
   rw [getElem?_setL] at hq
   by_cases hqi : q = i
   ·subst hqi
    rw [if_pos rfl] at hq
    cases hx : row[q]? with
    | none => rw [hx] at hq; simp at hq
    | some e0 => rw [hx] at hq; simp at hq; subst hq; exact hp hl
   ·rw [if_neg hqi] at hq
    exact f2 row (List.mem_of_getElem? hr) e (List.mem_of_getElem? hq)
  ·rw [if_neg hjr] at hj
   exact f2 row' (List.mem_of_getElem? hj) e he
theorem getB_some {bs : List (Option Box)} {k : Nat} {bx : Box} (h : getB bs k = some bx) : bs[k]? = some (some bx) := by
 rw [getB_eq] at h
 have h := (cellB_some h).1
 cases hk : bs[k]? with
 | none => rw [hk] at h; simp at h
 | some x => rw [hk] at h; simp at h; rw [h]
theorem getB_ne {bs : List (Option Box)} {k : Nat} {bx : Box} (h : getB bs k = some bx) : bx.size ≠ 0 := by
 rw [getB_eq] at h; exact (cellB_some h).2
theorem getM_some {bs : List (Option Box)} {k : Nat} {bx : Box} (h : getM bs k = some bx) : bs[k]? = some (some bx) ∧ bx.size = 0 := by
 rw [getM_eq] at h
 obtain ⟨h1, h2⟩ := mapB_some h
 refine ⟨?_, h2⟩
 cases hk : bs[k]? with
 | none => rw [hk] at h1; simp at h1
 | some x => rw [hk] at h1; simp at h1; rw [h1]
theorem setB_get {bs : List (Option Box)} {k j : Nat} {bx bx' : Box} (h : (setL bs k (some bx))[j]? = some (some bx')) : (j = k ∧ bx' = bx) ∨ (j ≠ k ∧ bs[j]? = some (some bx')) := by
 rw [getElem?_setL] at h
 by_cases hjk : j = k
 ·subst hjk
  rw [if_pos rfl] at h
  cases hb : bs[j]? with
  | none => rw [hb] at h; simp at h
  | some _ => rw [hb] at h; simp at h; exact .inl ⟨rfl, h.symm⟩
 ·rw [if_neg hjk] at h
  exact .inr ⟨hjk, h⟩
theorem BoxRel.weak {X : Cx} {base k : Nat} {bx : Box} {blk : Nat} {cs : Array Value} {ty : TypeId} (hb : BoxRel X base k bx blk cs ty) {r i : Nat} {row : List DV} (hr : bx.rows[r]? = some row) {d : DV}
  (hd : ∀ u, cs[r * bx.size + i]? = some u → VRel X base (.cell k r i) d u) (hp : bx.live = false → d.isP = true) : BoxRel X base k { bx with rows := setL bx.rows r (setL row i d) } blk cs ty :=
 hb.upd hr hb.own hd hp fun _ _ _ _ _ h => h
def cellTo (k r i m : Nat) : Loc → Loc
 | .cell k' r' i' => if k' = k ∧ r' = r ∧ i' = i then .tmp m else .cell k' r' i'
 | .comp L j => .comp (cellTo k r i m L) j
 | L => L
theorem cellTo_id (k r i m : Nat) (L : Loc) (h : L.root ≠ .cell k r i) : cellTo k r i m L = L := by
 induction L with
 | cell k' r' i' => simp only [cellTo]; rw [if_neg]; rintro ⟨rfl, rfl, rfl⟩; exact h rfl
 | comp L j ih => simp only [cellTo]; rw [ih h]
 | _ => rfl
theorem s_loadB (h : Rel G X s a) {t : TypeId} {n : Nat} {isA take : Bool} (ht : TyIs P t n isA) {x : Operand} {ox : O} (hx : OT x ox) (ho : o.op = .load t x) {k sz r off : Nat}
  (e : ox.val s.t = .addr k sz r off) (hK : semI P (.load n isA take) [ox.val s.t] s.b fun v b => K ⟨putD s.t o.dst v, b⟩) : o.wp P a X.w (Post G K) Q := by
 obtain ⟨_, rx⟩ := h.opnd hx
 rw [e] at rx hK
 obtain ⟨blk, hρ, ev⟩ := rx
 simp only [semI] at hK
 cases hbk : getB s.b k with
 | none => simp [hbk] at hK
 | some bx =>
  simp only [hbk] at hK
  obtain ⟨rfl, row, hr, hle, hK⟩ := hK
  have hbk' := getB_some hbk
  obtain ⟨blk', cs, ty, hb⟩ := h.cbox hbk' (getB_ne hbk)
  have : blk' = blk := by have := hb.ρ; rw [hρ] at this; injection this with h; exact h.symm
  subst this
  cases isA with
  | true =>
   simp only [if_true] at hK
   cases hp : pvsOf (takeD row off n) with
   | none => simp [hp] at hK
   | some xs =>
    simp only [hp] at hK
    obtain ⟨e1, e2⟩ := pvsOf_get hp
    have hcell : ∀ j, j < n → ∃ u, X.w.cell? ⟨blk', r * bx.size + off + j, none⟩ = some u ∧ VRel X G.base (.cell k r (off + j)) (row[off + j]?.getD .top) u ∧ u.oneCell' = true := by
     intro j hj
     obtain ⟨u, _, h2, h3, h4⟩ := hb.cell hr (i := off + j) (by omega)
     refine ⟨u, by rw [Nat.add_assoc]; exact h2, ?_, h4⟩
     rw [List.getElem?_eq_getElem (by omega)]
     exact h3
    have hf : ∃ f : Nat → Value, ∀ j, j < n → X.w.cell? ⟨blk', r * bx.size + off + j, none⟩ = some (f j) ∧ VRel X G.base (.cell k r (off + j)) (row[off + j]?.getD .top) (f j) ∧ (f j).oneCell' = true := by
     refine ⟨fun j => if hj : j < n then (hcell j hj).choose else undef, fun j hj => ?_⟩
     simp only [dif_pos hj]
     exact (hcell j hj).choose_spec
    obtain ⟨f, hf⟩ := hf
    have hlen : xs.length = n := by rw [e1, takeD_eq]; simp; omega
    have hcs : ∀ (i : Nat) c, xs[i]? = some c → i < n ∧ Flat X.M X.w c (f i) ∧ c.one = true := by
     intro i c hc
     have hin : i < n := by rw [← hlen]; exact (List.getElem?_eq_some_iff.1 hc).1
     have hd : (takeD row off n)[i]? = some (row[off + i]?.getD .top) := by
      rw [takeD_eq, List.getElem?_take, if_pos hin, List.getElem?_drop, List.getElem?_eq_getElem (by omega)]; rfl
     have hpv := e2 i _ c hd hc
     have := pv_of (hf i hin).2.1 hpv
     exact ⟨hin, this, this.one_of_cell (hf i hin).2.2⟩
    refine wp_pv (z := .agg xs) h (run_load_agg ht ho ev f fun j hj => (hf j hj).1) (.agg _ _ (by simp [hlen]) ?_ ?_) hK
    ·intro c hc
     obtain ⟨i, hi⟩ := List.getElem?_of_mem hc
     exact (hcs i c hi).2.2
    ·intro i c u hc hu
     obtain ⟨hin, h1, _⟩ := hcs i c hc
     have : u = f i := by simpa [hin, eq_comm] using hu
     subst this
     exact h1
  | false =>
   simp only [Bool.false_eq_true, if_false] at hK
   obtain ⟨d, hd, hK⟩ := hK
   have hlt := (List.getElem?_eq_some_iff.1 hd).1
   obtain ⟨u, hcu, hu, hv, h1⟩ := hb.cell hr hlt
   rw [(List.getElem?_eq_some_iff.1 hd).2] at hv
   have run := run_load_one ht ho ev hu
   cases take with
   | false =>
    simp only [Bool.false_eq_true, if_false] at hK
    exact wp_value h run (fun j _ => hv.copy _) hK
   | true =>
    simp only [if_true] at hK
    unfold Oper.wp
    rw [run, Oper.upon_value]
    cases hdst : o.dst with
    | none =>
     rw [hdst] at hK
     refine ⟨_, X, ?_, rfl, hK⟩
     refine ⟨by rw [put_defers]; exact h.defers, by rw [put_size]; simpa [putD] using h.size, ?_, ?_, h.below, h.hb, h.mold⟩
     ·intro i e he; rw [put_tmps]; simpa [putD] using h.tmps i e (by simpa [putD] using he)
     ·intro j bx' hj
      rcases setB_get hj with ⟨rfl, rfl⟩ | ⟨_, hj⟩
      ·refine BX.cell (show bx.size ≠ 0 from getB_ne hbk) (hb.weak hr (fun u' hu' => ?_) fun hl => ?_)
       ·rw [hcu] at hu'; injection hu' with hu'; subst hu'; exact hv.copy _
       ·have := (hb.fixed hl).2 row (List.mem_of_getElem? hr) d (List.mem_of_getElem? hd)
        cases d <;> first | rfl | (simp [DV.isP] at this)
      ·exact h.boxes j bx' hj
    | some m =>
     rw [hdst] at hK
     have hmv := hv.moved (cellTo k r off m) (fun _ _ => rfl)
     have e1 : cellTo k r off m (.cell k r off) = .tmp m := by simp [cellTo]
     rw [e1] at hmv
     have hev := ev_moved X (cellTo k r off m) (fun L => L.root ≠ .cell k r off) fun L hL => cellTo_id k r off m L hL
     have hch : Rel G (X.moved (cellTo k r off m)) ⟨s.t, setL s.b k (some { bx with rows := setL bx.rows r (setL row off d.copy) })⟩ a := by
      refine ⟨h.defers, h.size, ?_, ?_, h.below, h.hb, h.mold⟩
      ·intro i e he
       exact (h.tmps i e he).mono (fun _ _ h => h) hev (by simp [Loc.root]) fun _ _ => rfl
      ·intro j bx' hj
       rcases setB_get hj with ⟨rfl, rfl⟩ | ⟨hne, hj⟩
       ·refine BX.cell (show bx.size ≠ 0 from getB_ne hbk) (hb.upd hr (own' := fun g => (X.own g).map (cellTo j r off m)) (by simp [hb.own, cellTo]) (fun u' hu' => ?_) (fun hl => ?_) fun r' o' e u' hne hv' => ?_)
        ·rw [hcu] at hu'; injection hu' with hu'; subst hu'; exact hv.copy_moved _ _
        ·have := (hb.fixed hl).2 row (List.mem_of_getElem? hr) d (List.mem_of_getElem? hd)
         cases d <;> first | rfl | (simp [DV.isP] at this)
        ·exact hv'.mono (fun _ _ h => h) hev (by simp only [Loc.root, ne_eq, Loc.cell.injEq, true_and]; exact hne) fun _ _ => rfl
       ·exact (h.boxes j bx' hj).mono (fun _ _ h => h) hev (by simp [Loc.root]) (fun r' o' => by simp [Loc.root, hne]) rfl fun _ _ _ _ _ _ => rfl
     refine ⟨_, _, hch.put (d := some m) (v := d) (u := u) (fun i hi => ?_), rfl, hK⟩
     injection hi with hi
     subst hi
     exact hmv
end
end Go.Proofs.YtnjphclbpgajpaaGreatDoor.Vc
namespace Go.Proofs.YtnjphclbpgajpaaGreatDoor.Vc
open Go.RowKit
variable {P : Program}
def slotTo (n k r i : Nat) : Loc → Loc
 | .tmp j => if j = n then .cell k r i else .tmp j
 | .comp L j => .comp (slotTo n k r i L) j
 | L => L
theorem slotTo_id (n k r i : Nat) (L : Loc) (h : L.root ≠ .tmp n) : slotTo n k r i L = L := by
 induction L with
 | tmp j => simp only [slotTo]; rw [if_neg]; rintro rfl; exact h rfl
 | comp L j ih => simp only [slotTo]; rw [ih h]
 | _ => rfl
theorem storeD_length (l : List DV) (o : Nat) (cs : List DV) : (storeD l o cs).length = l.length := by
 induction cs generalizing l o with
 | nil => rfl
 | cons c cs ih => simp [storeD, ih, setL_length]
theorem storeD_get (l : List DV) (o : Nat) (cs : List DV) (i : Nat) : (storeD l o cs)[i]? = if o ≤ i ∧ i < o + cs.length ∧ i < l.length then cs[i - o]? else l[i]? := by
 induction cs generalizing l o with
 | nil => simp [storeD]; intro h1 h2; omega
 | cons c cs ih =>
  rw [storeD, ih, setL_length, getElem?_setL]
  by_cases h1 : i = o
  ·subst h1
   rw [if_neg (by omega), if_pos rfl]
   by_cases hl : i < l.length
   ·rw [if_pos ⟨Nat.le_refl _, by simp, hl⟩]; simp [hl]
   ·rw [if_neg (by omega)]; simp [hl]
  ·by_cases h2 : o + 1 ≤ i ∧ i < o + 1 + cs.length ∧ i < l.length
   ·rw [if_pos h2, if_pos ⟨by omega, by simp; omega, h2.2.2⟩]
    have : i - o = (i - (o + 1)) + 1 := by omega
    rw [this]; simp
   ·rw [if_neg h2, if_neg h1, if_neg (by simp; omega)]
section
variable {G : Gl} {X : Cx} {s : St} {a : Act} {Q : Exit → Act → World → Prop} {o : Oper} {K : St → Prop}
theorem storeSrc (h : Rel G X s a) {n k r off : Nat} {y : Operand} {oy : O} (hy : OT y oy) {cs : List DV} (hc : cellsOfD (oy.val s.t) = some cs) {ox : O} :
  ∃ own', Rel G { X with own := own' } ⟨degr (.store n) [ox, oy] s.t, s.b⟩ a ∧ (a.eval y).cells.size = cs.length ∧
   ∀ (i : Nat) d u, cs[i]? = some d → (a.eval y).cells[i]? = some u → VRel { X with own := own' } G.base (.cell k r (off + i)) d u ∧ u.oneCell' = true := by
 cases oy with
 | c d =>
  refine ⟨X.own, h, ?_⟩
  have hr : ∀ L, VRel X G.base L d (a.eval y) := fun L => VRel.const (t := s.t) (o := .c d) hy (by intro n hn; cases hn)
  obtain ⟨e1, e2⟩ := cellsOfD_rel (hr (.tmp 0)) hc
  refine ⟨e1, fun i d' u hd hu => ?_⟩
  obtain ⟨f1, f2, _⟩ := e2 i d' u hd hu
  refine ⟨?_, f2⟩
  simp only [O.val] at hc
  cases d with
  | ow sz nl rows =>
   simp [cellsOfD] at hc
   subst hc
   cases i with
   | zero =>
    simp at hd
    subst hd
    have hone : (a.eval y).oneCell' = true := by
     have := OwRel.flat (hr (.tmp 0))
     exact this.oneCell rfl
    rw [cells_of_one hone] at hu
    simp at hu
    subst hu
    exact hr _
   | succ i => simp at hd
  | p z =>
   simp [cellsOfD] at hc
   subst hc
   rw [List.getElem?_map] at hd
   cases hz : (rowCells z)[i]? with
   | none => rw [hz] at hd; simp at hd
   | some c => rw [hz] at hd; simp at hd; subst hd; exact f1 _
  | top => simp [cellsOfD] at hc
  | ob T => simp [cellsOfD] at hc
  | pk o => simp [cellsOfD] at hc
  | agd rs =>
   simp [cellsOfD] at hc
   subst hc
   obtain ⟨c, rfl⟩ : ∃ c : RfV, d' = c.dv := by
    rw [rfDs_eq, List.getElem?_map] at hd
    cases hr : rs[i]? with
    | none => rw [hr] at hd; simp at hd
    | some c => rw [hr] at hd; simp at hd; exact ⟨c, hd.symm⟩
   cases c <;> exact f1 (.tmp 0)
  | mh k =>
   simp [cellsOfD] at hc; subst hc
   cases i with
   | zero => simp at hd; subst hd; exact f1 _
   | succ i => simp at hd
  | tup ds => simp [cellsOfD] at hc
  | addr k' size r' off' =>
   simp [cellsOfD] at hc; subst hc
   cases i with
   | zero => simp at hd; subst hd; exact f1 _
   | succ i => simp at hd
  | bs k' size ag lo m =>
   simp [cellsOfD] at hc; subst hc
   cases i with
   | zero => simp at hd; subst hd; exact f1 _
   | succ i => simp at hd
  | fn f caps =>
   simp [cellsOfD] at hc; subst hc
   cases i with
   | zero => simp at hd; subst hd; exact f1 _
   | succ i => simp at hd
 | t m =>
  have hye : y = .tmp m := by cases hy; rfl
  subst hye
  have hv := h.get m
  simp only [O.val] at hc
  simp only [degr]
  have hweak := h.weak m (getT s.t m).copy (hv.copy _)
  have hchange : Rel G (X.moved (slotTo m k r off)) ⟨setL s.t m (getT s.t m).copy, s.b⟩ a := by
   refine hweak.change (fun L => L.root ≠ .tmp m) (fun L j h => h) (ev_moved X _ _ fun L hL => slotTo_id m k r off L hL) ?_ ?_ (Below.refl _ _) (fun _ _ _ => Iff.rfl)
   ·intro i d hd
    rcases setL_get hd with ⟨rfl, rfl, _⟩ | ⟨hne, _⟩
    ·exact .inr (hv.copy_moved _ _)
    ·exact .inl ⟨fun e => hne (by simpa [Loc.root] using e), fun _ _ => rfl⟩
   ·intro k' bx hk
    exact .inl ⟨by simp [Loc.root], by simp [Loc.root], rfl, fun _ _ _ _ _ _ => rfl⟩
  refine ⟨_, hchange, ?_⟩
  obtain ⟨e1, e2⟩ := cellsOfD_rel hv hc
  refine ⟨e1, fun i d' u hd hu => ?_⟩
  obtain ⟨f1, f2, _⟩ := e2 i d' u hd hu
  refine ⟨?_, f2⟩
  have hcm : d'.copy = d' → VRel (X.moved (slotTo m k r off)) G.base (.cell k r (off + i)) d' u := by
   intro e
   have := (f1 (.tmp 0)).copy_moved (slotTo m k r off) (.cell k r (off + i))
   rw [e, e] at this
   exact this
  generalize hg : getT s.t m = dv at *
  cases dv with
  | ow sz nl rows =>
   simp [cellsOfD] at hc
   subst hc
   cases i with
   | zero =>
    simp at hd
    subst hd
    have hone : (a.eval (.tmp m)).oneCell' = true := by
     have := OwRel.flat hv
     exact this.oneCell rfl
    rw [cells_of_one hone] at hu
    simp at hu
    subst hu
    have := hv.moved (slotTo m k r off) (fun _ _ => rfl)
    have e : slotTo m k r off (.tmp m) = .cell k r off := by simp [slotTo]
    rw [e] at this
    exact this
   | succ i => simp at hd
  | p z =>
   simp [cellsOfD] at hc
   subst hc
   rw [List.getElem?_map] at hd
   cases hz : (rowCells z)[i]? with
   | none => rw [hz] at hd; simp at hd
   | some c => rw [hz] at hd; simp at hd; subst hd; exact hcm rfl
  | top => simp [cellsOfD] at hc
  | ob T => simp [cellsOfD] at hc
  | pk o => simp [cellsOfD] at hc
  | agd rs =>
   simp [cellsOfD] at hc
   subst hc
   obtain ⟨c, rfl⟩ : ∃ c : RfV, d' = c.dv := by
    rw [rfDs_eq, List.getElem?_map] at hd
    cases hr : rs[i]? with
    | none => rw [hr] at hd; simp at hd
    | some c => rw [hr] at hd; simp at hd; exact ⟨c, hd.symm⟩
   exact hcm (by cases c <;> rfl)
  | mh k =>
   simp [cellsOfD] at hc; subst hc
   cases i with
   | zero => simp at hd; subst hd; exact hcm rfl
   | succ i => simp at hd
  | tup ds => simp [cellsOfD] at hc
  | addr k' size r' off' =>
   simp [cellsOfD] at hc; subst hc
   cases i with
   | zero => simp at hd; subst hd; exact hcm rfl
   | succ i => simp at hd
  | bs k' size ag lo m =>
   simp [cellsOfD] at hc; subst hc
   cases i with
   | zero => simp at hd; subst hd; exact hcm rfl
   | succ i => simp at hd
  | fn f caps =>
   simp [cellsOfD] at hc; subst hc
   cases i with
   | zero => simp at hd; subst hd; exact hcm rfl
   | succ i => simp at hd
theorem splice_get (cur : Array Value) (o0 : Nat) (vs : List Value) (j : Nat) (hl : o0 + vs.length ≤ cur.size) :
  (cur.toList.take o0 ++ vs ++ cur.toList.drop (o0 + vs.length)).toArray[j]? = if o0 ≤ j ∧ j < o0 + vs.length then vs[j - o0]? else cur[j]? := by
 simp only [List.getElem?_toArray, List.append_assoc]
 rw [List.getElem?_append]
 have h1 : (cur.toList.take o0).length = o0 := by simp; omega
 rw [h1]
 by_cases hj : j < o0
 ·rw [if_pos hj, if_neg (by omega), List.getElem?_take, if_pos hj]; simp
 ·rw [if_neg hj, List.getElem?_append]
  by_cases hj2 : j - o0 < vs.length
  ·rw [if_pos hj2, if_pos (by omega)]
  ·rw [if_neg hj2, if_neg (by omega), List.getElem?_drop]
   have : o0 + vs.length + (j - o0 - vs.length) = j := by omega
   rw [this]; simp
theorem s_store (h : Rel G X s a) {t : TypeId} {n : Nat} {isA : Bool} (ht : TyIs P t n isA) {x y : Operand} {ox oy : O} (hx : OT x ox) (hy : OT y oy) (ho : o.op = .store t x y) (hdst : o.dst = none)
  (hne : ∀ m, oy = .t m → ox ≠ .t m)
  (hK : semI P (.store n) [ox.val s.t, oy.val s.t] s.b fun v b => K ⟨putD (degr (.store n) [ox, oy] s.t) o.dst v, b⟩) : o.wp P a X.w (Post G K) Q := by
 obtain ⟨_, rx⟩ := h.opnd hx
 obtain ⟨k, sz, r, off, e⟩ : ∃ k sz r off, ox.val s.t = .addr k sz r off := by
  generalize ox.val s.t = vx at *
  rcases vx with _ | _ | _ | _ | ⟨k, sz, r, off⟩ | _ | _ <;> first | exact ⟨_, _, _, _, rfl⟩ | (simp [semI] at hK)
 rw [e] at rx hK
 obtain ⟨blk, hρ, ev⟩ := rx
 simp only [semI] at hK
 cases hbk : getB s.b k with
 | none => simp [hbk] at hK
 | some bx =>
  cases hcs : cellsOfD (oy.val s.t) with
  | none => simp [hbk, hcs] at hK
  | some cs =>
   simp only [hbk, hcs] at hK
   obtain ⟨rfl, hlive, hlen, row, hr, hle, hK⟩ := hK
   obtain ⟨own', hrel, hvs, hval⟩ := storeSrc (n := n) (k := k) (r := r) (off := off) (ox := ox) h hy hcs
   generalize hX1 : ({ X with own := own' } : Cx) = X1 at *
   have eρ : X1.ρ = X.ρ := by subst hX1; rfl
   have ew : X1.w = X.w := by subst hX1; rfl
   obtain ⟨blk', cur, ty, hb⟩ := hrel.cbox (getB_some hbk) (getB_ne hbk)
   have : blk' = blk := by have := hb.ρ; rw [eρ, hρ] at this; injection this with h; exact h.symm
   subst this
   have hw := hb.width row (List.mem_of_getElem? hr)
   have hrl := (List.getElem?_eq_some_iff.1 hr).1
   generalize hvl : (a.eval y).cells.toList = vl at *
   have hvlen : vl.length = n := by rw [← hvl]; simp [hvs, hlen]
   have hget : ∀ (i : Nat), (a.eval y).cells[i]? = vl[i]? := fun i => by rw [← hvl]; simp
   have hfit : r * bx.size + off + vl.length ≤ cur.size := by
    rw [hvlen]
    have := hb.size
    have : (r + 1) * bx.size ≤ bx.rows.length * bx.size := Nat.mul_le_mul_right _ hrl
    rw [Nat.add_mul] at this; omega
   have hone : ∀ v ∈ vl, v.oneCell' = true := by
    intro v hv
    obtain ⟨i, hi⟩ := List.getElem?_of_mem hv
    have hilt := (List.getElem?_eq_some_iff.1 hi).1
    have : i < cs.length := by omega
    exact (hval i cs[i] v (by simp [this]) (by rw [hget]; exact hi)).2
   have hrow := run_storeCells_at P blk' (r * bx.size + off) ty vl 0 cur X1.w hb.heap (by simpa using hfit) hone
   simp only [Nat.add_zero] at hrow
   have hsz : (a.eval y).cells.size = n := by rw [hvs, hlen]
   rw [← ew]
   have run : (execOp a.eval o).run P X1.w = .ok .skip (X1.w.setRow blk' (cur.toList.take (r * bx.size + off) ++ vl ++ cur.toList.drop (r * bx.size + off + vl.length)).toArray) := by
    simp [execOp, ho, ev, Instr.storeAt, Instr.sureAddr, storeVar, ht.run_sizeOf, hsz, hvl, hrow]
   unfold Oper.wp
   rw [run, Oper.upon_skip, hdst]
   have hp : a.put none undef = a := rfl
   rw [hp]
   generalize hnew : (cur.toList.take (r * bx.size + off) ++ vl ++ cur.toList.drop (r * bx.size + off + vl.length)).toArray = new at *
   have hnewget : ∀ j, new[j]? = if r * bx.size + off ≤ j ∧ j < r * bx.size + off + vl.length then vl[j - (r * bx.size + off)]? else cur[j]? := by
    intro j; rw [← hnew]; exact splice_get cur _ vl j hfit
   have hnewsize : new.size = cur.size := by rw [← hnew]; simp; omega
   have hheap : (X1.w.setRow blk' new).heap[blk']? = some (.cells new ty (0, 0)) := setRow_heap _ _ cur new ty (0, 0) hb.heap
   have hlt : blk' < X1.w.heap.size := (Array.getElem?_eq_some_iff.1 hb.heap).1
   have hszA : ∀ g, SzAt X1.w (X1.w.setRow blk' new) g := by
    intro g cs' ty' hg
    by_cases e : g = blk'
    ·subst e; rw [hb.heap] at hg; injection hg with hg; injection hg with hg1 hg2; subst hg1; exact ⟨new, ty, hheap, hnewsize⟩
    ·exact ⟨cs', ty', (setRow_other _ _ _ _ e).trans hg, rfl⟩
   have hev : Ev (fun L => L ≠ .box k) X1 { X1 with w := X1.w.setRow blk' new } := by
    refine ⟨fun b i v hM hcv => ?_, fun g L hg hS hgl => ?_, rfl, hszA⟩
    ·have hbne : b ≠ blk' := fun e => by subst e; exact hM (hb.live hlive i)
     exact ⟨(World.cell?_of_block (w := X1.w) (setRow_other _ _ _ _ hbne)).trans hcv, hM⟩
    ·have hgne : g ≠ blk' := fun e => by subst e; rw [hb.own] at hg; injection hg with hg; exact hS hg.symm
     exact ⟨hg, setRow_other _ _ _ _ hgne, fun _ h => h⟩
   refine ⟨_, { X1 with w := X1.w.setRow blk' new }, ?_, rfl, hK⟩
   rw [hdst]
   refine ⟨hrel.defers, hrel.size, ?_, ?_, hrel.below.trans ⟨rfl, rfl, rfl, by simp [World.setRow], fun q hq hx => setRow_other _ _ _ _ (fun e => by subst e; exact hb.hbase.1.elim (fun h => by omega) (fun ⟨j', h⟩ => hx _ (by rw [← hrel.mold.1]; exact h))), fun _ _ => hszA _⟩, by simpa [World.setRow] using hrel.hb, hrel.mold⟩
   ·intro i d hd
    exact (hrel.tmps i d hd).mono (fun _ _ _ h => by cases h) hev (by simp) fun _ _ => rfl
   ·intro j bx' hj
    rcases setB_get hj with ⟨rfl, rfl⟩ | ⟨hne, hj⟩
    ·refine BX.cell (blk := blk') (cs := new) (ty := ty) (show bx.size ≠ 0 from getB_ne hbk) ⟨hb.ρ, hb.own, hb.hbase, hheap, by simpa [setL_length, hnewsize] using hb.size, ?_, ?_, fun _ o => hb.live hlive o, fun hl => by rw [hlive] at hl; cases hl⟩
     ·intro row' hrow'
      obtain ⟨q, hq⟩ := List.getElem?_of_mem hrow'
      simp only [getElem?_setL] at hq
      by_cases hqr : q = r
      ·subst hqr
       rw [if_pos rfl, hr] at hq
       simp at hq
       subst hq
       rw [storeD_length]; exact hw
      ·rw [if_neg hqr] at hq
       exact hb.width row' (List.mem_of_getElem? hq)
     ·intro r' o' row' d u hrow' hd hu
      simp only [getElem?_setL] at hrow'
      rw [hnewget] at hu
      dsimp only at hu
      by_cases hqr : r' = r
      ·subst hqr
       rw [if_pos rfl, hr] at hrow'
       simp at hrow'
       subst hrow'
       rw [storeD_get] at hd
       by_cases hin : off ≤ o' ∧ o' < off + cs.length ∧ o' < row.length
       ·rw [if_pos hin] at hd
        have e0 : r' * bx.size + o' - (r' * bx.size + off) = o' - off := by omega
        rw [if_pos (by omega), e0] at hu
        obtain ⟨f1, f2⟩ := hval (o' - off) d u hd (by rw [hget]; exact hu)
        have e1 : off + (o' - off) = o' := by omega
        rw [e1] at f1
        exact ⟨f1.mono (fun _ _ _ h => by cases h) hev (by simp) fun _ _ => rfl, f2⟩
       ·rw [if_neg hin] at hd
        have hol := (List.getElem?_eq_some_iff.1 hd).1
        rw [if_neg (by omega)] at hu
        obtain ⟨f1, f2⟩ := hb.cells r' o' row d u hr hd hu
        exact ⟨f1.mono (fun _ _ _ h => by cases h) hev (by simp) fun _ _ => rfl, f2⟩
      ·rw [if_neg hqr] at hrow'
       have hw' := hb.width row' (List.mem_of_getElem? hrow')
       have hol := (List.getElem?_eq_some_iff.1 hd).1
       have hout : ¬ (r * bx.size + off ≤ r' * bx.size + o' ∧ r' * bx.size + o' < r * bx.size + off + vl.length) := by
        rintro ⟨g1, g2⟩
        rcases Nat.lt_or_gt_of_ne hqr with hlt' | hgt'
        ·have : (r' + 1) * bx.size ≤ r * bx.size := Nat.mul_le_mul_right _ hlt'
         rw [Nat.add_mul] at this; omega
        ·have : (r + 1) * bx.size ≤ r' * bx.size := Nat.mul_le_mul_right _ hgt'
         rw [Nat.add_mul] at this; omega
       rw [if_neg hout] at hu
       obtain ⟨f1, f2⟩ := hb.cells r' o' row' d u hrow' hd hu
       exact ⟨f1.mono (fun _ _ _ h => by cases h) hev (by simp) fun _ _ => rfl, f2⟩
    ·exact (hrel.boxes j bx' hj).mono (fun _ _ _ h => by cases h) hev (by simp [hne]) (fun _ _ => by simp) rfl fun _ _ _ _ _ _ => rfl
end
end Go.Proofs.YtnjphclbpgajpaaGreatDoor.Vc
namespace Go.Proofs.YtnjphclbpgajpaaGreatDoor.Vc
open Go.RowKit
variable {P : Program}
theorem flatten_get {α : Type} {size : Nat} (rows : List (List α)) (hw : ∀ row, row ∈ rows → row.length = size) (j : Nat) (d : α) (h : rows.flatten[j]? = some d) :
  ∃ r o row, j = r * size + o ∧ rows[r]? = some row ∧ row[o]? = some d ∧ o < size := by
 induction rows generalizing j with
 | nil => simp at h
 | cons row rows ih =>
  have h0 := hw row (by simp)
  rw [List.flatten_cons, List.getElem?_append] at h
  by_cases hj : j < row.length
  ·rw [if_pos hj] at h
   exact ⟨0, j, row, by simp, by simp, h, by omega⟩
  ·rw [if_neg hj] at h
   obtain ⟨r, o, row', e1, e2, e3, e4⟩ := ih (fun row hr => hw row (by simp [hr])) _ h
   refine ⟨r + 1, o, row', ?_, by simpa using e2, e3, e4⟩
   rw [Nat.add_mul]; omega
theorem cellsP_get {ds : List DV} {xs : List PV} (h : cellsP ds = some xs) : xs.length = ds.length ∧ ∀ (i : Nat) x, xs[i]? = some x → ds[i]? = some (.p x) := by
 induction ds generalizing xs with
 | nil => simp [cellsP] at h; subst h; exact ⟨rfl, fun i x hx => by simp at hx⟩
 | cons d ds ih =>
  cases d with
  | p y =>
   simp only [cellsP] at h
   cases hds : cellsP ds with
   | none => simp [hds] at h
   | some ys =>
    simp [hds] at h
    subst h
    obtain ⟨e1, e2⟩ := ih hds
    refine ⟨by simp [e1], fun i x hx => ?_⟩
    cases i with
    | zero => simp at hx; subst hx; rfl
    | succ i => exact e2 i x (by simpa using hx)
  | _ => simp [cellsP] at h
theorem rowsP_get {ag : Bool} {rs : List (List DV)} {xs : List PV} (h : rowsP ag rs = some xs) : xs.length = rs.length ∧ ∀ (i : Nat) x, xs[i]? = some x → ∃ row cs, rs[i]? = some row ∧ cellsP row = some cs ∧ x = (if ag then .agg cs else cs.headD (.bool false)) := by
 induction rs generalizing xs with
 | nil => simp [rowsP] at h; subst h; exact ⟨rfl, fun i x hx => by simp at hx⟩
 | cons row rs ih =>
  simp only [rowsP] at h
  cases hc : cellsP row with
  | none => simp [hc] at h
  | some cs =>
   cases hrs : rowsP ag rs with
   | none => simp [hc, hrs] at h
   | some ys =>
    simp only [hc, hrs, Option.some.injEq] at h
    subst h
    obtain ⟨e1, e2⟩ := ih hrs
    refine ⟨by simp [e1], fun i x hx => ?_⟩
    cases i with
    | zero => simp only [List.getElem?_cons_zero, Option.some.injEq] at hx; subst hx; exact ⟨row, cs, rfl, hc, rfl⟩
    | succ i => exact e2 i x (by simpa using hx)
section
variable {G : Gl} {X : Cx} {s : St} {a : Act}
theorem capFrz (h : Rel G X s a) {c : CapV} {x : PV} {v : Value} (hc : CRel X c v) (hf : c.frz s.b = some x) : Flat X.M X.w x v := by
 cases c with
 | p y => simp [CapV.frz] at hf; subst hf; exact hc
 | addr k size r off =>
  obtain ⟨blk, hρ, rfl⟩ := hc
  simp only [CapV.frz] at hf
  cases hb : getB s.b k with
  | none => simp [hb] at hf
  | some bx =>
   simp only [hb] at hf
   cases hl : bx.live with
   | true => simp [hl] at hf
   | false =>
    simp only [hl, Bool.false_eq_true, if_false] at hf
    cases hcs : cellsP bx.rows.flatten with
    | none => simp [hcs] at hf
    | some cs =>
     simp [hcs] at hf
     subst hf
     obtain ⟨blk', cur, ty, hbr⟩ := h.cbox (getB_some hb) (getB_ne hb)
     have : blk' = blk := by have := hbr.ρ; rw [hρ] at this; injection this with h; exact h.symm
     subst this
     obtain ⟨e1, e2⟩ := cellsP_get hcs
     obtain ⟨f1, f2⟩ := hbr.fixed hl
     have hlen : cs.length = bx.rows.length * bx.size := by
      rw [e1, List.length_flatten]
      have : bx.rows.map List.length = List.replicate bx.rows.length bx.size := by
       apply List.eq_replicate_iff.2
       refine ⟨by simp, fun n hn => ?_⟩
       obtain ⟨row, hrow, rfl⟩ := List.mem_map.1 hn
       exact hbr.width row hrow
      rw [this]; simp
     have hcell : ∀ (j : Nat) c, cs[j]? = some c → ∃ u, cur[j]? = some u ∧ Flat X.M X.w c u ∧ u.oneCell' = true := by
      intro j c hc
      obtain ⟨r', o', row, e3, e4, e5, e6⟩ := flatten_get bx.rows hbr.width j (.p c) (e2 j c hc)
      obtain ⟨u, g1, g2, g3, g4⟩ := hbr.cell e4 (i := o') (List.getElem?_eq_some_iff.1 e5).1
      rw [(List.getElem?_eq_some_iff.1 e5).2] at g3
      subst e3
      exact ⟨u, g1, g3, g4⟩
     have := Flat.ptr (M := X.M) (w := X.w) cs (r * size + off) blk' 0 (fun j => cur.getD j undef) (fun j hj => ?_) (fun c hc => ?_) (fun j c hc => ?_)
     ·simpa using this
     ·rw [hlen] at hj
      have hj' : j < cur.size := Nat.lt_of_lt_of_le hj hbr.size
      refine ⟨by rw [heap_cell hbr.heap]; simp [Array.getD, hj'], by simpa using f1 j hj⟩
     ·obtain ⟨j, hj⟩ := List.getElem?_of_mem hc
      obtain ⟨u, _, g1, g2⟩ := hcell j c hj
      exact g1.one_of_cell g2
     ·obtain ⟨u, g0, g1, _⟩ := hcell j c hc
      have : cur.getD j undef = u := by
       have := (Array.getElem?_eq_some_iff.1 g0)
       simp [Array.getD, this.1, this.2]
      rw [this]; exact g1
theorem capsFrz (h : Rel G X s a) {caps : List CapV} {xs : List PV} (hf : capsF s.b caps = some xs) : xs.length = caps.length ∧
  ∀ (j : Nat) c x u, caps[j]? = some c → xs[j]? = some x → CRel X c u → Flat X.M X.w x u := by
 induction caps generalizing xs with
 | nil => simp [capsF] at hf; subst hf; exact ⟨rfl, fun j c x u hc => by simp at hc⟩
 | cons c cs ih =>
  simp only [capsF] at hf
  cases h1 : c.frz s.b with
  | none => simp [h1] at hf
  | some x =>
   cases h2 : capsF s.b cs with
   | none => simp [h1, h2] at hf
   | some ys =>
    simp [h1, h2] at hf
    subst hf
    obtain ⟨e1, e2⟩ := ih h2
    refine ⟨by simp [e1], fun j c' x' u hc hx hr => ?_⟩
    cases j with
    | zero => simp at hc hx; subst hc; subst hx; exact capFrz h hr h1
    | succ j => exact e2 j c' x' u (by simpa using hc) (by simpa using hx) hr
theorem frzBs (h : Rel G X s a) {L : Loc} {k size lo n : Nat} {ag : Bool} {x : PV} {v : Value} (hv : VRel X G.base L (.bs k size ag lo n) v) (hf : bsF s.b k size ag lo n = some x) : Flat X.M X.w x v := by
 obtain ⟨blk, cap, hρ, hnc, hcm, _, rfl⟩ := hv
 simp only [bsF] at hf
 cases hb : getB s.b k with
 | none => simp [hb] at hf
 | some bx =>
  simp only [hb] at hf
  split at hf
  ·rename_i hcond
   obtain ⟨hl, hag, rfl, rfl, rfl⟩ := hcond
   cases hrs : rowsP ag bx.rows with
   | none => simp [hrs] at hf
   | some rows =>
    simp [hrs] at hf
    subst hf
    obtain ⟨blk', cur, ty, hbr⟩ := h.cbox (getB_some hb) (getB_ne hb)
    have : blk' = blk := by have := hbr.ρ; rw [hρ] at this; injection this with h; exact h.symm
    subst this
    obtain ⟨e1, e2⟩ := rowsP_get hrs
    obtain ⟨f1, f2⟩ := hbr.fixed hl
    have hrow : ∀ (i : Nat) x, rows[i]? = some x → (rowCells x).length = bx.size ∧ ∀ (j : Nat) c, (rowCells x)[j]? = some c → ∃ u, cur[i * bx.size + j]? = some u ∧ Flat X.M X.w c u ∧ c.one = true := by
     intro i x hx
     obtain ⟨row, cs, g1, g2, rfl⟩ := e2 i x hx
     obtain ⟨c1, c2⟩ := cellsP_get g2
     have hw := hbr.width row (List.mem_of_getElem? g1)
     have hcells : ∀ (j : Nat) c, cs[j]? = some c → ∃ u, cur[i * bx.size + j]? = some u ∧ Flat X.M X.w c u ∧ c.one = true := by
      intro j c hc
      have hd := c2 j c hc
      obtain ⟨u, q1, q2, q3, q4⟩ := hbr.cell g1 (i := j) (List.getElem?_eq_some_iff.1 hd).1
      rw [(List.getElem?_eq_some_iff.1 hd).2] at q3
      exact ⟨u, q1, q3, Flat.one_of_cell q3 q4⟩
     cases ag with
     | true => simp only [if_true, rowCells]; exact ⟨by rw [c1, hw], hcells⟩
     | false =>
      simp only [Bool.false_eq_true, if_false, false_or] at hag ⊢
      match cs, c1, hcells with
      | [c0], _, hcells =>
       obtain ⟨u, q1, q2, q3⟩ := hcells 0 c0 rfl
       rw [show ([c0] : List PV).headD (.bool false) = c0 from rfl, rowCells_of_one q3]
       exact ⟨by simp [hag], hcells⟩
      | [], c1, _ => simp at c1; omega
      | _ :: _ :: _, c1, _ => simp at c1; omega
    have := Flat.sl (M := X.M) (w := X.w) bx.size rows blk' 0 cap (fun j => cur.getD j undef) (by rw [e1]; exact hnc) hcm (fun j hj => ?_) (fun x hx => ?_) (fun x hx c hc => ?_) (fun i j x c hx hc => ?_)
    ·rw [e1] at this; simpa using this
    ·rw [e1] at hj
     have hj' : j < cur.size := Nat.lt_of_lt_of_le hj hbr.size
     exact ⟨by rw [heap_cell hbr.heap]; simp [Array.getD, hj'], by simpa using f1 j hj⟩
    ·obtain ⟨i, hi⟩ := List.getElem?_of_mem hx
     exact (hrow i x hi).1
    ·obtain ⟨i, hi⟩ := List.getElem?_of_mem hx
     obtain ⟨j, hj⟩ := List.getElem?_of_mem hc
     obtain ⟨u, _, _, q⟩ := (hrow i x hi).2 j c hj
     exact q
    ·obtain ⟨u, q0, q1, _⟩ := (hrow i x hx).2 j c hc
     have : cur.getD (i * bx.size + j) undef = u := by
      have := (Array.getElem?_eq_some_iff.1 q0)
      simp [Array.getD, this.1, this.2]
     rw [this]; exact q1
  ·cases hf
theorem frzRf (h : Rel G X s a) {c : RfV} {x : PV} {v : Value} (hv : RRel X c v) (hf : c.frz s.b = some x) : Flat X.M X.w x v := by
 cases c with
 | p y => simp [RfV.frz] at hf; subst hf; exact hv
 | addr k size r off => exact capFrz (c := .addr k size r off) h hv hf
 | bs k size ag lo n => exact frzBs h (L := .tmp 0) hv hf
 | mh k => simp [RfV.frz] at hf
theorem rfsGet (h : Rel G X s a) : ∀ {cs : List RfV} {xs : List PV}, rfsF s.b cs = some xs → xs.length = cs.length ∧ ∀ (j : Nat) c x v, cs[j]? = some c → xs[j]? = some x → RRel X c v → Flat X.M X.w x v
 | [], xs, hf => by simp [rfsF] at hf; subst hf; exact ⟨rfl, fun j c x v hc => by simp at hc⟩
 | c :: cs, xs, hf => by
  simp only [rfsF] at hf
  cases h1 : c.frz s.b with
  | none => simp [h1] at hf
  | some y =>
   cases h2 : rfsF s.b cs with
   | none => simp [h1, h2] at hf
   | some ys =>
    simp [h1, h2] at hf
    subst hf
    obtain ⟨e1, e2⟩ := rfsGet h h2
    refine ⟨by simp [e1], fun j c' x' u hc hx hr => ?_⟩
    cases j with
    | zero => simp at hc hx; subst hc; subst hx; exact frzRf h hr h1
    | succ j => exact e2 j c' x' u (by simpa using hc) (by simpa using hx) hr
theorem frz (h : Rel G X s a) {L : Loc} {d : DV} {x : PV} {v : Value} (hv : VRel X G.base L d v) (hf : d.frz s.b = some x) : Flat X.M X.w x v := by
 cases d with
 | top => simp [DV.frz] at hf
 | mh k => simp [DV.frz] at hf
 | ob T => simp [DV.frz] at hf
 | pk o => simp [DV.frz] at hf
 | agd cs =>
  simp only [DV.frz] at hf
  cases hc : rfsF s.b cs with
  | none => simp [hc] at hf
  | some xs =>
   simp [hc] at hf
   subst hf
   obtain ⟨e1, e2⟩ := rfsGet h hc
   obtain ⟨vs, rfl, hl, hh⟩ := hv
   refine .agg xs vs (by rw [hl, e1]) (fun c hcm => ?_) fun i c u hci hu => ?_
   ·obtain ⟨i, hi⟩ := List.getElem?_of_mem hcm
    have hil : i < cs.length := by rw [← e1]; exact (List.getElem?_eq_some_iff.1 hi).1
    have hiv : i < vs.size := by rw [hl]; exact hil
    obtain ⟨q1, q2⟩ := hh i cs[i] vs[i] (by simp [hil]) (by simp [hiv])
    exact (e2 i cs[i] c vs[i] (by simp [hil]) hi q1).one_of_cell q2
   ·have hi : i < cs.length := by rw [← e1]; exact (List.getElem?_eq_some_iff.1 hci).1
    exact e2 i cs[i] c u (by simp [hi]) hci (hh i cs[i] u (by simp [hi]) hu).1
 | tup ds => simp [DV.frz] at hf
 | p y => simp [DV.frz] at hf; subst hf; exact hv
 | ow size n rows => simp [DV.frz] at hf; subst hf; exact OwRel.flat hv
 | addr k size r off => exact capFrz (c := .addr k size r off) h hv hf
 | fn f caps =>
  simp only [DV.frz] at hf
  cases hc : capsF s.b caps with
  | none => simp [hc] at hf
  | some xs =>
   simp [hc] at hf
   subst hf
   obtain ⟨e1, e2⟩ := capsFrz h hc
   obtain ⟨vs, rfl, hl, hh⟩ := hv
   refine .fn f xs vs (by rw [hl, e1]) fun i c u hci hu => ?_
   have hi : i < caps.length := by rw [← e1]; exact (List.getElem?_eq_some_iff.1 hci).1
   exact e2 i caps[i] c u (by simp [hi]) hci (hh i caps[i] u (by simp [hi]) hu)
 | bs k size ag lo n => exact frzBs h hv hf
theorem frzsGet (h : Rel G X s a) {xs : List Operand} {os : List O} (hl : os.length = xs.length) (ho : ∀ (i : Nat) x o, xs[i]? = some x → os[i]? = some o → OT x o) {ys : List PV} (hf : frzs s.b (os.map (O.val s.t)) = some ys) :
  ys.length = xs.length ∧ ∀ (j : Nat) x y, xs[j]? = some x → ys[j]? = some y → Flat X.M X.w y (a.eval x) := by
 induction os generalizing xs ys with
 | nil =>
  simp [frzs] at hf
  subst hf
  cases xs with
  | nil => exact ⟨rfl, fun j x y hx => by simp at hx⟩
  | cons x xs => simp at hl
 | cons o os ih =>
  cases xs with
  | nil => simp at hl
  | cons x xs =>
   simp only [List.map_cons, frzs] at hf
   cases h1 : (o.val s.t).frz s.b with
   | none => simp [h1] at hf
   | some y =>
    cases h2 : frzs s.b (os.map (O.val s.t)) with
    | none => simp [h1, h2] at hf
    | some ys' =>
     simp [h1, h2] at hf
     subst hf
     obtain ⟨e1, e2⟩ := ih (xs := xs) (by simpa using hl) (fun i x o hx ho' => ho (i + 1) x o (by simpa using hx) (by simpa using ho')) h2
     refine ⟨by simp [e1], fun j x' y' hx hy => ?_⟩
     cases j with
     | zero =>
      simp at hx hy
      subst hx
      subst hy
      obtain ⟨L, hr⟩ := h.opnd (ho 0 x o rfl rfl)
      exact frz h hr h1
     | succ j => exact e2 j x' y' (by simpa using hx) (by simpa using hy)
end
end Go.Proofs.YtnjphclbpgajpaaGreatDoor.Vc
namespace Go.Proofs.YtnjphclbpgajpaaGreatDoor.Vc
open Go.RowKit
variable {P : Program}
def Cx.fresh (X : Cx) (m n0 : Nat) (w' : World) : Cx :=
 {ρ := X.ρ
  own := fun g => if g = X.w.heap.size then some (.tmp m) else X.own g
  M := fun b o => if b = X.w.heap.size then n0 ≤ o else X.M b o
  w := w'
  ex := X.ex }
structure NewBlock (w w' : World) (cs : Array Value) (ty : TypeId) : Prop where
 heap : w'.heap = w.heap.push (.cells cs ty)
 os : w'.os = w.os
 tape : w'.tape = w.tape
 output : w'.output = w.output
theorem NewBlock.below {w w' : World} {cs : Array Value} {ty : TypeId} (h : NewBlock w w' cs ty) {B : Nat} (hB : B ≤ w.heap.size) : Below B w w' := by
 refine ⟨h.os, h.tape, h.output, by rw [h.heap]; simp, fun k hk => ?_⟩
 rw [h.heap, Array.getElem?_push, if_neg (by omega)]
theorem NewBlock.alloc (w : World) (cs : Array Value) (ty : TypeId) : NewBlock w (w.alloc (.cells cs ty)) cs ty := ⟨rfl, rfl, rfl, rfl⟩
theorem NewBlock.drew (w : World) (cs : Array Value) (ty : TypeId) : NewBlock w (w.drew.alloc (.cells cs ty)) cs ty := ⟨rfl, rfl, rfl, rfl⟩
theorem NewBlock.new {w w' : World} {cs : Array Value} {ty : TypeId} (h : NewBlock w w' cs ty) : w'.heap[w.heap.size]? = some (.cells cs ty (0, 0)) := by rw [h.heap]; simp
theorem ev_fresh {X : Cx} {m n0 : Nat} {w' : World} {cs : Array Value} {ty : TypeId} (h : NewBlock X.w w' cs ty) : Ev (fun _ => True) X (X.fresh m n0 w') := by
 refine ⟨fun b o v hM hc => ?_, fun g L hg _ hlt => ⟨?_, ?_, fun o hM => ?_⟩, rfl, .below fun b hb => (h.below (Nat.le_refl _)).block b hb⟩
 ·have hlt : b < X.w.heap.size := World.block_lt_of_cell? _ _ hc
  refine ⟨(World.cell?_of_block (w := X.w) ((h.below (Nat.le_refl _)).block b hlt)).trans hc, ?_⟩
  show ¬ (if b = X.w.heap.size then _ else X.M b o)
  rw [if_neg (by omega)]; exact hM
 ·show (if g = X.w.heap.size then _ else X.own g) = _
  rw [if_neg (by omega)]; exact hg
 ·exact (h.below (Nat.le_refl _)).block g hlt
 ·show (if g = X.w.heap.size then _ else X.M g o)
  rw [if_neg (by omega)]; exact hM
theorem Rel.fresh {G : Gl} {X : Cx} {s : St} {a : Act} (h : Rel G X s a) (m n0 : Nat) {w' : World} {cs : Array Value} {ty : TypeId} (hn : NewBlock X.w w' cs ty) : Rel G (X.fresh m n0 w') s a := by
 refine h.change (fun _ => True) (fun _ _ h => h) (ev_fresh hn) (fun i d hd => .inl ⟨trivial, fun _ _ => rfl⟩) (fun k bx hk => .inl ⟨trivial, fun _ _ => trivial, rfl, fun _ _ _ _ _ _ => rfl⟩) (hn.below h.hb) (fun b hb o => ?_)
 have := h.hb
 show (if b = X.w.heap.size then _ else X.M b o) ↔ _
 rw [if_neg (by omega)]
theorem Flat.list {M : Nat → Nat → Prop} {w : World} {size : Nat} {nl : Bool} {rows : List PV} {v : Value} (h : Flat M w (.sl size nl rows) v) :
  (∀ row, row ∈ rows → (rowCells row).length = size ∧ ∀ c, c ∈ rowCells row → c.one = true) ∧
  ∃ (vs : List Value), vs.length = rows.length * size ∧
   ((rows = [] ∧ ∃ b2 c2, v = .slice b2 0 c2) ∨ ∃ b o cap, v = .slice (some ⟨b, o, none⟩) rows.length cap ∧ ∀ j u, vs[j]? = some u → w.cell? ⟨b, o + j, none⟩ = some u) ∧
   (∀ (i j : Nat) row c, rows[i]? = some row → (rowCells row)[j]? = some c → ∃ u, vs[i * size + j]? = some u ∧ Flat M w c u) ∧ (∀ u, u ∈ vs → u.oneCell' = true) := by
 cases h with
 | nilsl => exact ⟨fun row hr => by simp at hr, [], by simp, .inl ⟨rfl, _, _, rfl⟩, fun i j row c hr => by simp at hr, fun u hu => by simp at hu⟩
 | sl0 => exact ⟨fun row hr => by simp at hr, [], by simp, .inl ⟨rfl, _, _, rfl⟩, fun i j row c hr => by simp at hr, fun u hu => by simp at hu⟩
 | sl _ _ b off cap cv hcap hmax hc hs h1 hr =>
  refine ⟨fun row hrow => ⟨hs row hrow, h1 row hrow⟩, (List.range (rows.length * size)).map cv, by simp, .inr ⟨b, off, cap, rfl, fun j u hu => ?_⟩, fun i j row c hri hcj => ?_, fun u hu => ?_⟩
  ·rw [List.getElem?_map] at hu
   cases hj : (List.range (rows.length * size))[j]? with
   | none => rw [hj] at hu; simp at hu
   | some k =>
    rw [hj] at hu
    have hk := List.getElem?_eq_some_iff.1 hj
    have hjl : j < rows.length * size := by simpa using hk.1
    have : k = j := by have := hk.2; simp at this; exact this.symm
    subst this
    simp at hu
    subst hu
    exact (hc k hjl).1
  ·have hil := (List.getElem?_eq_some_iff.1 hri).1
   have hjl := (List.getElem?_eq_some_iff.1 hcj).1
   rw [hs row (List.mem_of_getElem? hri)] at hjl
   have hlt : i * size + j < rows.length * size := by
    have : (i + 1) * size ≤ rows.length * size := Nat.mul_le_mul_right _ hil
    rw [Nat.add_mul] at this; omega
   exact ⟨cv (i * size + j), by simp [hlt], hr i j row c hri hcj⟩
  ·obtain ⟨k, hk, rfl⟩ := List.mem_map.1 hu
   have hk : k < rows.length * size := by simpa using hk
   have hsz : 0 < size := by
    rcases Nat.eq_zero_or_pos size with h0 | h0
    ·subst h0; simp at hk
    ·exact h0
   have hkr : k / size < rows.length := (Nat.div_lt_iff_lt_mul hsz).2 hk
   have hkm := Nat.mod_lt k hsz
   have hrow : rows[k / size]? = some rows[k / size] := by simp [hkr]
   have hm := List.mem_of_getElem? hrow
   have hl : k % size < (rowCells rows[k / size]).length := by rw [hs _ hm]; exact hkm
   have hcell : (rowCells rows[k / size])[k % size]? = some (rowCells rows[k / size])[k % size] := by simp [hl]
   have := hr (k / size) (k % size) _ _ hrow hcell
   have e : k / size * size + k % size = k := by rw [Nat.mul_comm]; exact Nat.div_add_mod k size
   rw [e] at this
   exact this.oneCell (h1 _ hm _ (List.mem_of_getElem? hcell))
theorem flat_block {M : Nat → Nat → Prop} {w : World} {size : Nat} {rows : List PV} {g cap : Nat} {cur : Array Value} {ty : TypeId} (hg : w.heap[g]? = some (.cells cur ty (0, 0))) (hcap : rows.length ≤ cap) (hmax : cap ≤ maxLen)
  (hM : ∀ o, o < rows.length * size → ¬ M g o) (hsz : rows.length * size ≤ cur.size) (hs : ∀ row, row ∈ rows → (rowCells row).length = size ∧ ∀ c, c ∈ rowCells row → c.one = true)
  (hr : ∀ (i j : Nat) row c, rows[i]? = some row → (rowCells row)[j]? = some c → ∃ u, cur[i * size + j]? = some u ∧ Flat M w c u) : Flat M w (.sl size false rows) (.slice (some ⟨g, 0, none⟩) rows.length cap) := by
 refine .sl size rows g 0 cap (fun j => cur.getD j undef) hcap hmax (fun j hj => ⟨?_, by simpa using hM j hj⟩) (fun row h => (hs row h).1) (fun row h => (hs row h).2) fun i j row c h1 h2 => ?_
 ·rw [Nat.zero_add, heap_cell hg]
  have : j < cur.size := by omega
  simp [Array.getD, this]
 ·obtain ⟨u, e, hu⟩ := hr i j row c h1 h2
  have : cur.getD (i * size + j) undef = u := by
   have := Array.getElem?_eq_some_iff.1 e
   simp [Array.getD, this.1, this.2]
  rw [this]; exact hu
section
variable {G : Gl} {X : Cx} {s : St} {a : Act} {Q : Exit → Act → World → Prop} {o : Oper} {K : St → Prop}
theorem s_bsl (h : Rel G X s a) {size n : Nat} {t e : TypeId} {parts : Array (Nat × Operand)} {os : List O} {xs : List Operand} (ho : o.op = .buildSlice t n parts) {d : Nat} (hd : o.dst = some d)
  (hu : P.underlying t = some (.slice e)) {i : TypeInfo} {z : Value} (hi : P.info? e = some i) (hz : i.zero = some z) (hsz : i.size = size) (hpos : 0 < size) (hn : n * size ≤ 16777216) (hnm : n ≤ maxLen)
  (hp : parts.toList = (xs.zipIdx 0).map fun x => (x.2, x.1)) (hl : os.length = xs.length) (hos : ∀ (j : Nat) x oo, xs[j]? = some x → os[j]? = some oo → OT x oo)
  (hK : semI P (.bsl size n) (os.map (O.val s.t)) s.b fun v b => K ⟨putD s.t o.dst v, b⟩) : o.wp P a X.w (Post G K) Q := by
 simp only [semI] at hK
 cases hps : pvsOf (os.map (O.val s.t)) with
 | none => simp [hps] at hK
 | some rows =>
  simp only [hps] at hK
  obtain ⟨hrl, hrs, hK⟩ := hK
  obtain ⟨e1, e2⟩ := pvsOf_get hps
  subst hsz
  have hlen : xs.length = n := by rw [← hrl, e1]; simp [hl]
  have hrow : ∀ (j : Nat) x r, xs[j]? = some x → rows[j]? = some r → Flat X.M X.w r (a.eval x) := by
   intro j x r hx hr
   have hj := (List.getElem?_eq_some_iff.1 hx).1
   have hoj : os[j]? = some os[j] := by simp [show j < os.length by omega]
   obtain ⟨L, hv⟩ := h.opnd (hos j x os[j] hx hoj)
   exact pv_of hv (e2 j _ r (by rw [List.getElem?_map, hoj]; rfl) hr)
  generalize hvs : xs.map a.eval = vs
  have hvl : vs.length = n := by rw [← hvs]; simp [hlen]
  have hvcells : ∀ v ∈ vs, v.cells.size = i.size := by
   intro v hv
   rw [← hvs] at hv
   obtain ⟨x, hx, rfl⟩ := List.mem_map.1 hv
   obtain ⟨j, hj⟩ := List.getElem?_of_mem hx
   have hjl := (List.getElem?_eq_some_iff.1 hj).1
   have hr : rows[j]? = some rows[j] := by simp [show j < rows.length by omega]
   rw [(hrow j x _ hj hr).cells.1, hrs _ (List.mem_of_getElem? hr)]
  have hev : (parts.map fun (i, x) => (i, a.eval x)).toList = (vs.zipIdx 0).map fun x => (x.2, x.1) := by
   rw [Array.toList_map, hp, ← hvs, List.zipIdx_map, List.map_map, List.map_map]
   rfl
  rw [hd] at hK
  by_cases hn0 : n = 0
  ·subst hn0
   have hxs : xs = [] := List.eq_nil_of_length_eq_zero hlen
   have hrows : rows = [] := List.eq_nil_of_length_eq_zero hrl
   subst hxs
   subst hrows
   have hp0 : (parts.map fun (i, x) => (i, a.eval x)) = #[] := by
    apply Array.ext'
    rw [hev, ← hvs]; rfl
   have run : (execOp a.eval o).run P X.w = .ok (.value (.slice (some ⟨X.w.heap.size, 0, none⟩) 0 0)) (X.w.alloc (.cells #[] e)) := by
    simp only [execOp, ho, hp0]
    simp [Instr.buildSlice, run_underlying hu, sizeOf, typeInfo, hi, newRow, Instr.fill, Array.range_zero']
   unfold Oper.wp
   rw [run, Oper.upon_value, hd]
   have hnb := NewBlock.alloc X.w #[] e
   exact ⟨_, _, (h.fresh d 0 hnb).put (d := some d) (v := .ow i.size false []) (fun j hj => .inl ⟨rfl, .inr ⟨rfl, _, _, rfl⟩⟩), rfl, hK⟩
  ·have hcap := Go.Great.fill_whole hpos vs ((Array.range (n * i.size)).map (z.cells[· % z.cells.size]!)) hvcells (by simp [hvl])
   have hr := run_buildSlice (P := P) X.w t e n (parts.map fun (i, x) => (i, a.eval x)) _ i z hu hi hz (by omega) (by
    intro h0
    rcases Nat.mul_eq_zero.1 h0 with h0 | h0 <;> omega) (by rw [hev]; exact hcap)
   generalize hcur : (vs.flatMap fun v => v.cells.toList).toArray = cur at *
   have run : (execOp a.eval o).run P X.w = .ok (.value (.slice (some ⟨X.w.heap.size, 0, none⟩) n n)) (X.w.alloc (.cells cur e)) := by
    simp only [execOp, ho, Sem.run_bind]
    rw [hr]; rfl
   have hcg : ∀ k, cur[k]? = (vs[k / i.size]?).bind (fun v => v.cells[k % i.size]?) := by
    intro k; rw [← hcur, List.getElem?_toArray]; exact Go.Great.flat_get hpos vs hvcells k
   have hcs : cur.size = n * i.size := by
    rw [← hcur, List.size_toArray, List.length_flatMap]
    have : vs.map (fun v => v.cells.toList.length) = List.replicate vs.length i.size := by
     apply List.eq_replicate_iff.2
     refine ⟨by simp, fun m hm => ?_⟩
     obtain ⟨v, hv, rfl⟩ := List.mem_map.1 hm
     simpa using hvcells v hv
    rw [this]; simp [hvl]
   unfold Oper.wp
   rw [run, Oper.upon_value, hd]
   have hnb := NewBlock.alloc X.w cur e
   have hev' := ev_fresh (m := d) (n0 := n * i.size) hnb
   refine ⟨_, _, (h.fresh d (n * i.size) hnb).put (d := some d) (v := .ow i.size false rows) (fun j hj => ?_), rfl, hK⟩
   injection hj with hj
   subst hj
   have hfl : Flat (X.fresh d (n * i.size) (X.w.alloc (.cells cur e))).M (X.w.alloc (.cells cur e)) (.sl i.size false rows) (.slice (some ⟨X.w.heap.size, 0, none⟩) rows.length n) := by
    refine flat_block hnb.new (by omega) hnm (fun o ho => ?_) (by rw [hrl, hcs]; exact Nat.le_refl _) (fun row hrm => ?_) (fun k j row c hr hc => ?_)
    ·show ¬ (if X.w.heap.size = X.w.heap.size then n * i.size ≤ o else _)
     rw [if_pos rfl]; rw [hrl] at ho; omega
    ·obtain ⟨j, hj⟩ := List.getElem?_of_mem hrm
     have hjl := (List.getElem?_eq_some_iff.1 hj).1
     have hx : xs[j]? = some xs[j] := by simp [show j < xs.length by omega]
     obtain ⟨c1, c2⟩ := (hrow j _ row hx hj).cells
     refine ⟨hrs row hrm, fun c hc => ?_⟩
     obtain ⟨q, hq⟩ := List.getElem?_of_mem hc
     have hql := (List.getElem?_eq_some_iff.1 hq).1
     have : (a.eval xs[j]).cells[q]? = some (a.eval xs[j]).cells[q] := by simp [show q < (a.eval xs[j]).cells.size by omega]
     exact (c2 q c _ hq this).2
    ·have hkl := (List.getElem?_eq_some_iff.1 hr).1
     have hx : xs[k]? = some xs[k] := by simp [show k < xs.length by omega]
     obtain ⟨c1, c2⟩ := (hrow k _ row hx hr).cells
     have hjl := (List.getElem?_eq_some_iff.1 hc).1
     have hjs : j < i.size := by rw [hrs row (List.mem_of_getElem? hr)] at hjl; exact hjl
     have hu' : (a.eval xs[k]).cells[j]? = some (a.eval xs[k]).cells[j] := by simp [show j < (a.eval xs[k]).cells.size by omega]
     have hvk : ∀ (l : List Value), xs.map a.eval = l → l[k]? = some (a.eval xs[k]) := fun l hl => by rw [← hl, List.getElem?_map, hx]; rfl
     refine ⟨_, ?_, (c2 j c _ hc hu').1.mono hev'.keeps⟩
     rw [hcg, Nat.mul_comm, Nat.mul_add_div hpos, Nat.div_eq_of_lt hjs, Nat.mul_add_mod, Nat.mod_eq_of_lt hjs, Nat.add_zero, hvk vs hvs]
     exact hu'
   refine .inr ⟨rfl, X.w.heap.size, n, cur, e, by rw [hrl], ?_, h.hb, hnb.new, hcs, ?_, fun o ho => ?_⟩
   ·show (if X.w.heap.size = X.w.heap.size then _ else _) = _; rw [if_pos rfl]
   ·rw [hrl] at hfl; exact hfl
   ·show (if X.w.heap.size = X.w.heap.size then n * i.size ≤ o else _)
    rw [if_pos rfl]; rw [hrl] at ho; exact ho
theorem run_append_zero {t ty e : TypeId} (hu : P.underlying t = some (.slice e)) {i : TypeInfo} (hi : P.info? e = some i) (b : Option Addr) (n c : Nat) (hnc : n ≤ c) (b2 : Option Addr) (c2 : Nat) (w : World) :
  (Builtin.append_ #[t, t] ty #[.slice b n c, .slice b2 0 c2]).run P w = .ok (.slice b n c) w := by
 have hu2 : ∀ w, (underlying t).run P w = .ok (.slice e) w := run_underlying hu
 cases b <;> cases b2 <;> simp [Builtin.append_, hu2, sizeOf, typeInfo, hi, Builtin.lenOf, hnc, Builtin.firstCells, loadCells, loadCellsFrom, storeCells]
theorem run_append_room' {t ty e ty' : TypeId} {i : TypeInfo} (ht : P.underlying t = some (.slice e)) (hi : P.info? e = some i)
  (w : World) (g sLen sCap : Nat) (cur : Array Value) (hg : w.heap[g]? = some (.cells cur ty' (0, 0)))
  (b : Addr) (m c : Nat) (news : List Value) (hl : news.length = m * i.size) (hnews : ∀ j u, news[j]? = some u → w.cell? (b.add j) = some u) (h1 : ∀ u ∈ news, u.oneCell' = true)
  (hroom : sLen + m ≤ sCap) (hfit : sLen * i.size + news.length ≤ cur.size) :
  (Builtin.append_ #[t, t] ty #[.slice (some ⟨g, 0, none⟩) sLen sCap, .slice (some b) m c]).run P w =
   .ok (.slice (some ⟨g, 0, none⟩) (sLen + m) sCap) (w.setRow g (cur.toList.take (sLen * i.size) ++ news ++ cur.toList.drop (sLen * i.size + news.length)).toArray) := by
 have hf := run_firstCells_some (P := P) w i.size m b m c news hl hnews
 have hst := run_storeCells_at P g (sLen * i.size) ty' news 0 cur w hg (by simpa using hfit) h1
 simp only [Nat.add_zero] at hst
 simp [Builtin.append_, run_underlying ht, sizeOf, typeInfo, hi, Builtin.lenOf, hroom, hf, Addr.add_lit, hst]
theorem rows_append {size : Nat} {M : Nat → Nat → Prop} {w : World} {r1 r2 : List PV} {v1 v2 : List Value} (h1 : v1.length = r1.length * size)
  (f1 : ∀ (i j : Nat) row c, r1[i]? = some row → (rowCells row)[j]? = some c → ∃ u, v1[i * size + j]? = some u ∧ Flat M w c u)
  (f2 : ∀ (i j : Nat) row c, r2[i]? = some row → (rowCells row)[j]? = some c → ∃ u, v2[i * size + j]? = some u ∧ Flat M w c u) (hs1 : ∀ row, row ∈ r1 → (rowCells row).length = size) :
  ∀ (i j : Nat) row c, (r1 ++ r2)[i]? = some row → (rowCells row)[j]? = some c → ∃ u, (v1 ++ v2)[i * size + j]? = some u ∧ Flat M w c u := by
 intro i j row c hr hc
 rw [List.getElem?_append] at hr
 by_cases hi : i < r1.length
 ·rw [if_pos hi] at hr
  obtain ⟨u, hu, hf⟩ := f1 i j row c hr hc
  exact ⟨u, by rw [List.getElem?_append, if_pos (List.getElem?_eq_some_iff.1 hu).1]; exact hu, hf⟩
 ·rw [if_neg hi] at hr
  obtain ⟨u, hu, hf⟩ := f2 _ j row c hr hc
  refine ⟨u, ?_, hf⟩
  have : r1.length * size ≤ i * size := Nat.mul_le_mul_right _ (by omega)
  rw [List.getElem?_append, if_neg (by rw [h1]; omega), h1]
  have e : i * size + j - r1.length * size = (i - r1.length) * size + j := by rw [Nat.sub_mul]; omega
  rw [e]; exact hu
theorem own_new {X : Cx} {base d : Nat} {w' : World} {size : Nat} {rows : List PV} {vs : List Value} {cap : Nat} {rest : Array Value} {ty : TypeId} (hb : base ≤ X.w.heap.size)
  (hn : NewBlock X.w w' (vs.toArray ++ rest) ty) (hvl : vs.length = rows.length * size) (hcap : rows.length ≤ cap) (hmax : cap ≤ maxLen) (hsz : vs.length + rest.size = cap * size)
  (hs : ∀ row, row ∈ rows → (rowCells row).length = size ∧ ∀ c, c ∈ rowCells row → c.one = true)
  (hr : ∀ (i j : Nat) row c, rows[i]? = some row → (rowCells row)[j]? = some c → ∃ u, vs[i * size + j]? = some u ∧ Flat X.M X.w c u) :
  OwRel (X.fresh d (rows.length * size) w') base (.tmp d) size false rows (.slice (some ⟨X.w.heap.size, 0, none⟩) rows.length cap) := by
 have hev := ev_fresh (m := d) (n0 := rows.length * size) hn
 refine .inr ⟨rfl, X.w.heap.size, cap, _, ty, rfl, ?_, hb, hn.new, by simp [hsz], ?_, fun o ho => ?_⟩
 ·show (if X.w.heap.size = X.w.heap.size then _ else _) = _; rw [if_pos rfl]
 ·refine flat_block hn.new hcap hmax (fun o ho => ?_) (by simp [hvl]) hs (fun i j row c h1 h2 => ?_)
  ·show ¬ (if X.w.heap.size = X.w.heap.size then rows.length * size ≤ o else _)
   rw [if_pos rfl]; omega
  ·obtain ⟨u, hu, hf⟩ := hr i j row c h1 h2
   refine ⟨u, ?_, hf.mono hev.keeps⟩
   have := (List.getElem?_eq_some_iff.1 hu).1
   rw [Array.getElem?_append, if_pos (by simpa using this)]
   simpa using hu
 ·show (if X.w.heap.size = X.w.heap.size then rows.length * size ≤ o else _)
  rw [if_pos rfl]; exact ho
theorem appendCore (h : Rel G X s a) {d size bytes : Nat} (hd : ∀ e, s.t[d]? = some e → e = .top) {nl : Bool} {rows : List PV} {v : Value} (ho : OwRel X G.base (.tmp d) size nl rows v)
  {t ty e : TypeId} (hu : P.underlying t = some (.slice e)) {i : TypeInfo} {z : Value} (hi : P.info? e = some i) (hz : i.zero = some z) (hsz : i.size = size) (hby : i.bytes = bytes) (hzs : z.cells.size = size)
  {sz2 : Nat} {nl2 : Bool} {rows2 : List PV} {x : Value} (hx : Flat X.M X.w (.sl sz2 nl2 rows2) x) (h2 : sz2 = size ∨ rows2 = []) (hb : (rows.length + rows2.length) * bytes ≤ 140737488355328) (hm : rows.length + rows2.length ≤ maxLen) :
  ∃ v' w' X', (Builtin.append_ #[t, t] ty #[v, x]).run P X.w = .ok v' w' ∧ X'.w = w' ∧ Rel G X' s a ∧ OwRel X' G.base (.tmp d) size (nl && rows2.isEmpty) (rows ++ rows2) v' := by
 subst hsz
 subst hby
 obtain ⟨hs2, news, hnl, hform, hnr, hone⟩ := hx.list
 obtain ⟨hs1, olds, hol, hform1, hor, hone1⟩ := ho.flat.list
 have hm63 : rows.length + rows2.length ≤ 9223372036854775807 := by simpa [maxLen] using hm
 have ⟨bx, cx, ex⟩ := hx.slv
 by_cases hr2 : rows2 = []
 ·subst hr2
  have hvc : ∃ b n c, v = .slice b n c ∧ n ≤ c := by
   rcases ho with ⟨rfl, ⟨_, rfl⟩ | ⟨_, b, o, rfl⟩⟩ | ⟨_, g, cap, cur, ty', rfl, _, _, _, _, hf, _⟩
   ·exact ⟨_, _, _, rfl, Nat.le_refl _⟩
   ·exact ⟨_, _, _, rfl, Nat.le_refl _⟩
   ·refine ⟨_, _, _, rfl, ?_⟩
    cases hf with
    | sl _ _ _ _ _ _ hcap => exact hcap
    | sl0 => exact Nat.zero_le _
  obtain ⟨b, n, c, rfl, hnc⟩ := hvc
  subst ex
  exact ⟨_, _, X, run_append_zero hu hi b n c hnc bx cx X.w, rfl, h, by simpa using ho⟩
 ·have hsz2 : sz2 = i.size := h2.resolve_right hr2
  subst hsz2
  have hpos2 : 0 < rows2.length := List.length_pos_iff.2 hr2
  have hem : rows2.isEmpty = false := by cases rows2 with | nil => exact absurd rfl hr2 | cons _ _ => rfl
  rw [hem, Bool.and_false]
  obtain ⟨b2, o2, cap2, rfl, hnews⟩ : ∃ b o cap, x = .slice (some ⟨b, o, none⟩) rows2.length cap ∧ ∀ j u, news[j]? = some u → X.w.cell? ((⟨b, o, none⟩ : Addr).add j) = some u := by
   rcases hform with ⟨e, _⟩ | ⟨b, o, cap, rfl, hc⟩
   ·exact absurd e hr2
   ·exact ⟨b, o, cap, rfl, fun j u hj => by rw [Addr.add_lit]; exact hc j u hj⟩
  have hall : ∀ row, row ∈ rows ++ rows2 → (rowCells row).length = i.size ∧ ∀ c, c ∈ rowCells row → c.one = true := by
   intro row hr
   rcases List.mem_append.1 hr with hr | hr
   ·exact hs1 row hr
   ·exact hs2 row hr
  have hrows := rows_append hol hor hnr (fun row hr => (hs1 row hr).1)
  have hvl : (olds ++ news).length = (rows ++ rows2).length * i.size := by simp [hol, hnl, Nat.add_mul]
  have grow : ∀ (old : Nat) v' (w' : World), old < rows.length + rows2.length → v' = .slice (some ⟨X.w.heap.size, 0, none⟩) (rows.length + rows2.length) (grownCap X.w (rows.length + rows2.length) old e) →
    w' = X.w.drew.alloc (.cells (olds.toArray ++ news.toArray ++ Builtin.zeroCells z.cells (grownCap X.w (rows.length + rows2.length) old e - (rows.length + rows2.length))) e) →
    ∃ X', X'.w = w' ∧ Rel G X' s a ∧ OwRel X' G.base (.tmp d) i.size false (rows ++ rows2) v' := by
   intro old v' w' hlt ev ew
   subst ev
   subst ew
   have hge := grownCap_ge X.w (rows.length + rows2.length) old e
   have hcm := grownCap_le_maxLen X.w (rows.length + rows2.length) old e hm
   have hn := NewBlock.drew X.w ((olds ++ news).toArray ++ Builtin.zeroCells z.cells (grownCap X.w (rows.length + rows2.length) old e - (rows.length + rows2.length))) e
   have e1 : (olds ++ news).toArray = olds.toArray ++ news.toArray := by simp
   rw [e1] at hn
   refine ⟨_, rfl, h.fresh d ((rows ++ rows2).length * i.size) hn, ?_⟩
   rw [← e1] at hn
   have := own_new (base := G.base) (d := d) (rows := rows ++ rows2) (cap := grownCap X.w (rows.length + rows2.length) old e) h.hb hn hvl (by simpa using hge) hcm (by
    rw [hvl, size_zeroCells, hzs, ← Nat.add_mul]; congr 1; simp; omega) hall hrows
   rw [List.length_append] at this
   rw [List.length_append]
   rw [e1] at this
   exact this
  rcases ho with ⟨rfl, hv⟩ | ⟨rfl, g, cap, cur, ty', rfl, g1, g2, g3, g4, g5, g6⟩
  ·have ho0 : olds = [] := List.eq_nil_of_length_eq_zero (by simpa using hol)
   subst ho0
   rcases hv with ⟨_, rfl⟩ | ⟨_, b, o, rfl⟩
   ·have hr := run_append_nil (P := P) X.w t ty e i z hu hi hz ⟨b2, o2, none⟩ rows2.length cap2 news hnl hnews hpos2 (by simp at hm63; omega) (by simp at hb; omega)
    obtain ⟨X', e1, e2, e3⟩ := grow 0 (.slice (some ⟨X.w.heap.size, 0, none⟩) rows2.length (grownCap X.w rows2.length 0 e)) _ (by simpa using hpos2) (by simp) rfl
    refine ⟨_, _, X', hr, ?_, e2, e3⟩
    rw [e1]; simp
   ·have hr := run_append_grow (P := P) X.w t ty e i z hu hi hz ⟨b, o, none⟩ 0 0 [] (by simp) (fun j u hj => by simp at hj) ⟨b2, o2, none⟩ rows2.length cap2 news hnl hnews (by omega) (by simp at hm63; omega)
     (growslice_fits (by omega) (by simpa using hb))
    obtain ⟨X', e1, e2, e3⟩ := grow 0 (.slice (some ⟨X.w.heap.size, 0, none⟩) (0 + rows2.length) (grownCap X.w (0 + rows2.length) 0 e)) _ (by simpa using hpos2) (by simp) rfl
    refine ⟨_, _, X', hr, ?_, e2, e3⟩
    rw [e1]; simp
  ·have hcapr : rows.length ≤ cap ∧ cap ≤ maxLen := by
    cases g5 with
    | sl _ _ _ _ _ _ hcap hmax => exact ⟨hcap, hmax⟩
    | sl0 => exact ⟨Nat.zero_le _, Nat.zero_le _⟩
   by_cases hroom : rows.length + rows2.length ≤ cap
   ·have hfit : rows.length * i.size + news.length ≤ cur.size := by rw [hnl, g4, ← Nat.add_mul]; exact Nat.mul_le_mul_right _ hroom
    have hr := run_append_room' (P := P) (ty := ty) hu hi X.w g rows.length cap cur g3 ⟨b2, o2, none⟩ rows2.length cap2 news hnl hnews hone hroom hfit
    generalize hnew : (cur.toList.take (rows.length * i.size) ++ news ++ cur.toList.drop (rows.length * i.size + news.length)).toArray = new at *
    have hnewget : ∀ j, new[j]? = if rows.length * i.size ≤ j ∧ j < rows.length * i.size + news.length then news[j - rows.length * i.size]? else cur[j]? := by
     intro j; rw [← hnew]; exact splice_get cur _ news j hfit
    have hnewsize : new.size = cur.size := by rw [← hnew]; simp; omega
    have hheap : (X.w.setRow g new).heap[g]? = some (.cells new ty' (0, 0)) := setRow_heap _ _ cur new ty' (0, 0) g3
    have holds : ∀ (j : Nat) u, olds[j]? = some u → cur[j]? = some u := by
     intro j u hj
     rcases hform1 with ⟨e0, _⟩ | ⟨b', o', cap', e1, hc⟩
     ·have h1 := (List.getElem?_eq_some_iff.1 hj).1
      rw [hol, e0] at h1
      simp at h1
     ·injection e1 with e1 e2 e3
      injection e1 with e1
      injection e1 with e1 e4
      subst e1
      subst e4
      have := hc j u hj
      rw [Nat.zero_add, heap_cell g3] at this
      exact this
    generalize hX' : ({ X with M := fun b o => X.M b o ∧ ¬ (b = g ∧ o < (rows.length + rows2.length) * i.size), w := X.w.setRow g new } : Cx) = X'
    have eM : ∀ b o, X'.M b o ↔ X.M b o ∧ ¬ (b = g ∧ o < (rows.length + rows2.length) * i.size) := by subst hX'; exact fun _ _ => Iff.rfl
    have ew : X'.w = X.w.setRow g new := by subst hX'; rfl
    have eo : X'.own = X.own := by subst hX'; rfl
    have eρ : X'.ρ = X.ρ := by subst hX'; rfl
    have hev : Ev (fun L => L.root ≠ .tmp d) X X' := by
     refine ⟨fun b o u hM hc => ⟨?_, fun hM' => hM ((eM b o).1 hM').1⟩, fun g' L hg' hS hlt => ?_, by subst hX'; rfl, by rw [ew]; exact .heap g3 hheap hnewsize fun b hb _ => setRow_other _ _ _ _ hb⟩
     ·rw [ew]
      by_cases hbg : b = g
      ·subst hbg
       have ho : o < rows.length * i.size := by
        rcases Nat.lt_or_ge o (rows.length * i.size) with h0 | h0
        ·exact h0
        ·exact absurd (g6 o h0) hM
       rw [heap_cell g3] at hc
       rw [heap_cell hheap, hnewget, if_neg (by omega)]
       exact hc
      ·exact (World.cell?_of_block (w := X.w) (setRow_other _ _ _ _ hbg)).trans hc
     ·have hne : g' ≠ g := fun e => by subst e; rw [g1] at hg'; injection hg' with hg'; subst hg'; exact hS rfl
      exact ⟨by rw [eo]; exact hg', by rw [ew]; exact setRow_other _ _ _ _ hne, fun o hM => (eM g' o).2 ⟨hM, fun hh => hne hh.1⟩⟩
    refine ⟨_, _, X', hr, ew, ?_, ?_⟩
    ·refine h.change (fun L => L.root ≠ .tmp d) (fun L j h => h) hev (fun j e he => ?_) (fun k bx hk => .inl ⟨by simp [Loc.root], by simp [Loc.root], by rw [eρ], fun _ _ _ _ _ _ => by rw [eρ]⟩) ?_ (fun b hb o => ?_)
     ·by_cases hj : j = d
      ·subst hj
       rw [hd e he]
       exact .inr trivial
      ·exact .inl ⟨by simp [Loc.root, hj], fun _ _ => by rw [eρ]⟩
     ·rw [ew]
      exact ⟨rfl, rfl, rfl, by simp [World.setRow], fun q hq => setRow_other _ _ _ _ (by omega)⟩
     ·rw [eM]
      exact ⟨fun h => h.1, fun h => ⟨h, fun hh => by omega⟩⟩
    ·refine .inr ⟨rfl, g, cap, new, ty', by rw [List.length_append], by rw [eo]; exact g1, g2, by rw [ew]; exact hheap, by rw [hnewsize]; exact g4, ?_, fun o ho => (eM g o).2 ⟨g6 o (by
      rw [List.length_append, Nat.add_mul] at ho; omega), fun hh => by rw [List.length_append] at ho; omega⟩⟩
     have := flat_block (M := X'.M) (w := X'.w) (size := i.size) (rows := rows ++ rows2) (g := g) (cap := cap) (cur := new) (ty := ty') (by rw [ew]; exact hheap) (by rw [List.length_append]; exact hroom) hcapr.2 (fun o ho hM => ?_) (by
      rw [hnewsize, List.length_append, Nat.add_mul]; rw [hnl] at hfit; omega) hall (fun k j row c hk hc => ?_)
     ·rw [List.length_append] at this; exact this
     ·rw [List.length_append] at ho
      exact ((eM g o).1 hM).2 ⟨rfl, ho⟩
     ·obtain ⟨u, hu', hf⟩ := hrows k j row c hk hc
      refine ⟨u, ?_, hf.mono hev.keeps⟩
      rw [hnewget]
      rw [List.getElem?_append, hol] at hu'
      by_cases hlt : k * i.size + j < rows.length * i.size
      ·rw [if_pos hlt] at hu'
       rw [if_neg (by omega)]
       exact holds _ _ hu'
      ·rw [if_neg hlt] at hu'
       have := (List.getElem?_eq_some_iff.1 hu').1
       rw [if_pos (by omega)]
       exact hu'
   ·have hr := run_append_grow (P := P) X.w t ty e i z hu hi hz ⟨g, 0, none⟩ rows.length cap olds hol (fun j u hj => ?_) ⟨b2, o2, none⟩ rows2.length cap2 news hnl hnews (by omega) (by omega) (growslice_fits (by omega) hb)
    ·obtain ⟨X', e1, e2, e3⟩ := grow cap _ _ (by omega) rfl rfl
     exact ⟨_, _, X', hr, e1, e2, e3⟩
    ·rcases hform1 with ⟨e0, _⟩ | ⟨b', o', cap', e1, hc⟩
     ·have h1 := (List.getElem?_eq_some_iff.1 hj).1
      rw [hol, e0] at h1
      simp at h1
     ·injection e1 with e1 e2 e3
      injection e1 with e1
      injection e1 with e1 e4
      subst e1
      subst e4
      rw [Addr.add_lit]; exact hc j u hj
theorem app_nil {K : DV → List (Option Box) → Prop} {size bytes sz : Nat} {y : DV} {b : List (Option Box)} (hK : semI P (.app size bytes) [.p (.sl sz true []), y] b K) : semI P (.app size bytes) [.ow sz true [], y] b K := by
 cases hfz : y.frz b with
 | none => simp [semI, hfz] at hK
 | some x => cases x with
  | sl sz2 nl2 rows2 =>
   simp only [semI, hfz] at hK
   obtain ⟨a1, a2, a3, a4, a5⟩ := hK
   simp only [semI, hfz]
   exact ⟨.inl a1, a2, by simpa using a3, by simpa using a4, by simpa using a5⟩
  | _ => simp [semI, hfz] at hK
theorem ow_of_nil {X : Cx} {base : Nat} {L : Loc} {sz : Nat} {v : Value} (h : Flat X.M X.w (.sl sz true []) v) : OwRel X base L sz true [] v := .inl ⟨rfl, .inl ⟨rfl, by cases h; rfl⟩⟩
theorem s_app (h : Rel G X s a) {size bytes : Nat} {x y : Operand} {ox oy : O} {t e : TypeId} (hx : OT x ox) (hy : OT y oy) (ho : o.op = .call { callee := .builtin .append, args := #[x, y], argTypes := #[t, t] })
  {d : Nat} (hd : o.dst = some d) (hu : P.underlying t = some (.slice e)) {i : TypeInfo} {z : Value} (hi : P.info? e = some i) (hz : i.zero = some z) (hsz : i.size = size) (hby : i.bytes = bytes) (hzs : z.cells.size = size)
  (hK : semI P (.app size bytes) [ox.val s.t, oy.val s.t] s.b fun v b => K ⟨putD (degr (.app size bytes) [ox, oy] s.t) o.dst v, b⟩) : o.wp P a X.w (Post G K) Q := by
 obtain ⟨sz, nl, rows, e1, hK⟩ : ∃ sz nl rows, (ox.val s.t = .ow sz nl rows ∨ (ox.val s.t = .p (.sl sz true []) ∧ nl = true ∧ rows = [])) ∧
   semI P (.app size bytes) [.ow sz nl rows, oy.val s.t] s.b fun v b => K ⟨putD (degr (.app size bytes) [ox, oy] s.t) o.dst v, b⟩ := by
  revert hK
  generalize ox.val s.t = vx
  intro hK
  cases vx with
  | ow sz nl rows => exact ⟨_, _, _, .inl rfl, hK⟩
  | p x => cases x with
   | sl sz nl rows => cases nl with
    | true => cases rows with
     | nil =>
      refine ⟨sz, true, [], .inr ⟨rfl, rfl, rfl⟩, ?_⟩
      exact app_nil hK
     | cons _ _ => simp [semI] at hK
    | false => simp [semI] at hK
   | _ => simp [semI] at hK
  | _ => simp [semI] at hK
 obtain ⟨L, ry⟩ := h.opnd hy
 simp only [semI] at hK
 generalize hfz : (oy.val s.t).frz s.b = fz at *
 match fz, hK with
 | some (.sl sz2 nl2 rows2), hK =>
  obtain ⟨c1, c2, c3, c4, hK⟩ := hK
  have hflat := frz h ry hfz
  have hsrc : ∃ X1, X1.w = X.w ∧ X1.M = X.M ∧ Rel G X1 ⟨degr (.app size bytes) [ox, oy] s.t, s.b⟩ a ∧ OwRel X1 G.base (.tmp d) size nl rows (a.eval x) := by
   have fix : ∀ {X1 : Cx} {v : Value}, OwRel X1 G.base (.tmp d) sz nl rows v → OwRel X1 G.base (.tmp d) size nl rows v := by
    intro X1 v hv
    rcases c1 with rfl | ⟨rfl, rfl⟩
    ·exact hv
    ·rcases hv with hv | ⟨h0, g, cap, cur, ty, g0, g1, g2, g3, g4, g5, g6⟩
     ·exact .inl hv
     ·cases h0
   cases ox with
   | c dv =>
    refine ⟨X, rfl, rfl, h, fix ?_⟩
    have := VRel.const (X := X) (base := G.base) (L := .tmp d) (a := a) (t := s.t) hx (by intro n hn; cases hn)
    rcases e1 with e1 | ⟨e1, rfl, rfl⟩
    ·rw [e1] at this
     exact this
    ·rw [e1] at this
     exact ow_of_nil this
   | t n =>
    have hxe : x = .tmp n := by cases hx; rfl
    subst hxe
    obtain ⟨h1, h2⟩ := h.toSlot n d
    simp only [O.val] at e1
    rcases e1 with e1 | ⟨e1, rfl, rfl⟩
    ·rw [e1] at h2
     exact ⟨X.moved (toSlot n d), rfl, rfl, h1, fix h2⟩
    ·rw [e1] at h2
     exact ⟨X.moved (toSlot n d), rfl, rfl, h1, fix (ow_of_nil h2)⟩
  obtain ⟨X1, ew, eM, hrel, how⟩ := hsrc
  have hrel' := hrel.weak d .top trivial
  obtain ⟨v', w', X', hrun, ew', hrel2, how2⟩ := appendCore (ty := o.type) hrel' (fun e he => by
   rcases setL_get he with ⟨_, rfl, _⟩ | ⟨hne, _⟩
   ·rfl
   ·exact absurd rfl hne) how hu hi hz hsz hby hzs (by rw [ew, eM]; exact hflat) c2 c3 c4
  rw [ew] at hrun
  have run : (execOp a.eval o).run P X.w = .ok (.value v') w' := by
   simp [execOp, ho, resolve, invoke, builtin, hrun]
  unfold Oper.wp
  rw [run, Oper.upon_value]
  have hput := hrel2.put (d := some d) (v := .ow size (nl && rows2.isEmpty) (rows ++ rows2)) (u := v') (fun j hj => by injection hj with hj; subst hj; exact how2)
  rw [hd] at hK
  rw [hd]
  refine ⟨_, X', ?_, ew', hK⟩
  have e2 : ∀ (l : List DV) (v : DV), putD (setL l d .top) (some d) v = putD l (some d) v := by
   intro l v
   apply List.ext_getElem?
   intro j
   simp only [putD, getElem?_setL]
   by_cases hj : j = d
   ·subst hj; cases l[j]? <;> simp
   ·simp [hj]
  rw [e2] at hput
  exact hput
end
end Go.Proofs.YtnjphclbpgajpaaGreatDoor.Vc
