/- New boxes. No condition. -/
import Derived.Test.YtkjghcbnmipgfaaGreatDoorVcMove
namespace Go.Proofs.YtkjghcbnmipgfaaGreatDoor.Vc
open Go.RowKit
variable {P : Program}

/-- A new block for box k. -/
def Cx.grow (X : Cx) (k : Nat) (cs : Array Value) (ty : TypeId) : Cx :=
  { ρ := fun j => if j = k then some X.w.heap.size else X.ρ j
    own := fun g => if g = X.w.heap.size then some (.box k) else X.own g
    M := fun b o => if b = X.w.heap.size then True else X.M b o
    w := X.w.alloc (.cells cs ty)
    ex := X.ex }

theorem ev_grow (X : Cx) (k : Nat) (cs : Array Value) (ty : TypeId) : Ev (fun _ => True) X (X.grow k cs ty) := by
  refine ⟨fun b o v hM hc => ?_, fun g L hg _ hlt => ?_, rfl⟩
  · have hlt : b < X.w.heap.size := World.block_lt_of_cell? _ _ hc
    refine ⟨by show (X.w.alloc _).cell? _ = _; rw [World.cell?_alloc_lt _ _ _ hlt]; exact hc, ?_⟩
    show ¬ (if b = X.w.heap.size then True else X.M b o)
    rw [if_neg (by omega)]
    exact hM
  · refine ⟨?_, ?_, fun o hM => ?_⟩
    · show (if g = X.w.heap.size then _ else X.own g) = _
      rw [if_neg (by omega)]; exact hg
    · exact Below.heap_alloc _ _ _ hlt
    · show (if g = X.w.heap.size then True else X.M g o)
      split
      · trivial
      · exact hM

theorem noRefT_get {k : Nat} {t : List DV} (h : noRefT k t = true) {i : Nat} {d : DV} (hd : t[i]? = some d) : d.ment k = false := by
  induction t generalizing i with
  | nil => simp at hd
  | cons e es ih =>
    simp only [noRefT, Bool.and_eq_true, Bool.not_eq_true'] at h
    cases i with
    | zero => simp at hd; subst hd; exact h.1
    | succ i => exact ih h.2 (by simpa using hd)
theorem noRefR_get {k : Nat} {rs : List (List DV)} (h : noRefR k rs = true) {row : List DV} (hr : row ∈ rs) {d : DV} (hd : d ∈ row) : d.ment k = false := by
  induction rs with
  | nil => simp at hr
  | cons e es ih =>
    simp only [noRefR, Bool.and_eq_true] at h
    rcases List.mem_cons.1 hr with rfl | hr
    · obtain ⟨i, hi, he⟩ := List.getElem_of_mem hd
      exact noRefT_get h.1 (i := i) (by rw [List.getElem?_eq_getElem hi, he])
    · exact ih h.2 hr
theorem noRefB_get {k i : Nat} {bs : List (Option Box)} (h : noRefB k i bs = true) {j : Nat} {bx : Box} (hb : bs[j]? = some (some bx)) (hne : i + j ≠ k) : noRefR k bx.rows = true := by
  induction bs generalizing i j with
  | nil => simp at hb
  | cons e es ih =>
    simp only [noRefB, Bool.and_eq_true, Bool.or_eq_true, beq_iff_eq] at h
    cases j with
    | zero =>
      simp at hb
      subst hb
      rcases h.1 with h1 | h1
      · exact absurd (by omega) hne
      · exact h1
    | succ j => exact ih h.2 (by simpa using hb) (by omega)

/-- A new block becomes box k; slot d, if any, takes v. -/
theorem Rel.grow {G : Gl} {X : Cx} {s : St} {a : Act} (h : Rel G X s a) {k : Nat} {d : Option Nat} (cs : Array Value) (ty : TypeId) (bx : Box)
    (hT : noRefT k (putD s.t d .top) = true) (hB : noRefB k 0 s.b = true)
    (hsize : cs.size = bx.rows.length * bx.size) (hwidth : ∀ row, row ∈ bx.rows → row.length = bx.size)
    (hcells : ∀ (r o : Nat) row e u, bx.rows[r]? = some row → row[o]? = some e → cs[r * bx.size + o]? = some u → VRel (X.grow k cs ty) G.base (.cell k r o) e u ∧ u.oneCell' = true)
    (hlive : bx.live = true) (hold : bx.old = false) (hne : bx.size ≠ 0) {v : DV} {u : Value} (hv : VRel (X.grow k cs ty) G.base (.tmp (d.getD 0)) v u) :
    Rel G (X.grow k cs ty) ⟨putD s.t d v, setL s.b k (some bx)⟩ (a.put d u) := by
  have hev := ev_grow X k cs ty
  have hρ : ∀ j, j ≠ k → (X.grow k cs ty).ρ j = X.ρ j := fun j hj => by show (if j = k then _ else X.ρ j) = _; rw [if_neg hj]
  have h0 : Rel G X ⟨putD s.t d .top, s.b⟩ a := by
    cases d with
    | none => exact h
    | some i => exact h.weak i .top trivial
  have h1 : Rel G (X.grow k cs ty) ⟨putD s.t d .top, setL s.b k (some bx)⟩ a := by
    have h0' : Rel G X ⟨putD s.t d .top, s.b⟩ a := h0
    refine ⟨h0'.defers, h0'.size, ?_, ?_, h0'.below.trans (.of ((Below.refl _ _).alloc h0'.hb _)), by show _ ≤ (X.w.heap.push _).size; rw [Array.size_push]; exact Nat.le_succ_of_le h0'.hb, h0'.mold.1, ?_⟩
    · intro i e he
      have hm := noRefT_get hT he
      refine (h0'.tmps i e he).mono (fun _ _ h => h) hev trivial fun j hj => hρ j (fun e' => by subst e'; rw [hm] at hj; cases hj)
    · intro j bx' hj
      rcases (by rw [getElem?_setL] at hj; exact hj : (if j = k then s.b[j]?.map (fun _ => some bx) else s.b[j]?) = some (some bx')) with hj
      by_cases hjk : j = k
      · subst hjk
        rw [if_pos rfl] at hj
        have : bx' = bx := by
          cases hb : s.b[j]? with
          | none => rw [hb] at hj; simp at hj
          | some _ => rw [hb] at hj; simp at hj; exact hj.symm
        subst this
        refine BX.cell (blk := X.w.heap.size) (cs := cs) (ty := ty) hne ⟨?_, ?_, .inl ⟨hold, h.hb⟩, ?_, Nat.le_of_eq hsize.symm, hwidth, hcells, fun _ o => ?_, fun hl => by rw [hlive] at hl; cases hl⟩
        · show (if j = j then some X.w.heap.size else _) = _; rw [if_pos rfl]
        · show (if X.w.heap.size = X.w.heap.size then _ else _) = _; rw [if_pos rfl]
        · show (X.w.heap.push _)[_]? = _; simp
        · show (if _ then True else _); rw [if_pos rfl]; trivial
      · rw [if_neg hjk] at hj
        have hr := noRefB_get hB hj (by omega)
        exact (h0'.boxes j bx' hj).mono (fun _ _ h => h) hev trivial (fun _ _ => trivial) (hρ j hjk) fun row hrow e he i hi =>
          hρ i (fun e' => by subst e'; rw [noRefR_get hr hrow he] at hi; cases hi)
    · intro b hb hx o
      have : b < X.w.heap.size := Nat.lt_of_lt_of_le hb h.hb
      show (if b = X.w.heap.size then True else X.M b o) ↔ _
      rw [if_neg (by omega)]
      exact h0'.mold.2 b hb hx o
  have h2 := h1.put (d := d) (v := v) (u := u) (fun j hj => by subst hj; exact hv)
  have e : putD (putD s.t d .top) d v = putD s.t d v := by
    cases d with
    | none => rfl
    | some i =>
      apply List.ext_getElem?
      intro j
      simp only [putD, getElem?_setL]
      by_cases hj : j = i
      · subst hj; cases s.t[j]? <;> simp
      · simp [hj]
  rw [e] at h2
  exact h2

section
variable {G : Gl} {X : Cx} {s : St} {a : Act} {Q : Exit → Act → World → Prop} {o : Oper} {K : St → Prop}

theorem Flat.one_of_cell {M : Nat → Nat → Prop} {w : World} {x : PV} {v : Value} (h : Flat M w x v) (hv : v.oneCell' = true) : x.one = true := by
  cases h <;> first | rfl | (simp [Value.oneCell'] at hv)

theorem copies_eq (l : List DV) : copies l = l.map DV.copy := by induction l with | nil => rfl | cons x xs ih => simp [copies, ih]

theorem ment_copy (k : Nat) (d : DV) : d.copy.ment k = d.ment k := by cases d <;> rfl

/-- The cells of a value hold its cells' data. -/
theorem cellsOfD_rel {X : Cx} {base : Nat} {L : Loc} {x : DV} {v : Value} (h : VRel X base L x v) {cs : List DV} (hc : cellsOfD x = some cs) :
    v.cells.size = cs.length ∧ ∀ (i : Nat) d u, cs[i]? = some d → v.cells[i]? = some u → (∀ L', VRel X base L' d.copy u) ∧ u.oneCell' = true ∧ ∀ k, d.ment k = true → x.ment k = true := by
  have single : x.isP = false → cs = [x] → v.oneCell' = true → v.cells.size = cs.length ∧ ∀ (i : Nat) d u, cs[i]? = some d → v.cells[i]? = some u → (∀ L', VRel X base L' d.copy u) ∧ u.oneCell' = true ∧ ∀ k, d.ment k = true → x.ment k = true := by
    intro _ e hone
    subst e
    rw [cells_of_one hone]
    refine ⟨rfl, fun i d u hd hu => ?_⟩
    cases i with
    | zero => simp at hd hu; subst hd; subst hu; exact ⟨fun L' => h.copy L', hone, fun _ h => h⟩
    | succ i => simp at hd
  cases x with
  | mh k => simp [cellsOfD] at hc
  | top => simp [cellsOfD] at hc
  | tup ds => simp [cellsOfD] at hc
  | p z =>
    simp [cellsOfD] at hc
    subst hc
    obtain ⟨e1, e2⟩ := Flat.cells (show Flat X.M X.w z v from h)
    refine ⟨by simpa using e1, fun i d u hd hu => ?_⟩
    rw [List.getElem?_map] at hd
    cases hz : (rowCells z)[i]? with
    | none => rw [hz] at hd; simp at hd
    | some c =>
      rw [hz] at hd
      simp at hd
      subst hd
      obtain ⟨f1, f2⟩ := e2 i c u hz hu
      exact ⟨fun L' => f1, f1.oneCell f2, fun k hk => by simp [DV.ment] at hk⟩
  | ow size n rows =>
    simp [cellsOfD] at hc
    refine single rfl hc.symm ?_
    have := OwRel.flat h
    exact this.oneCell rfl
  | addr k size r off =>
    simp [cellsOfD] at hc
    obtain ⟨blk, _, rfl⟩ := h
    exact single rfl hc.symm rfl
  | bs k size ag lo n =>
    simp [cellsOfD] at hc
    obtain ⟨blk, cap, _, _, _, rfl⟩ := h
    exact single rfl hc.symm rfl
  | fn f caps =>
    simp [cellsOfD] at hc
    obtain ⟨vs, rfl, _⟩ := h
    exact single rfl hc.symm rfl

theorem copy_mono_grow {X : Cx} {base k : Nat} {cs : Array Value} {ty : TypeId} {L : Loc} {d : DV} {v : Value} (h : VRel X base L d v) (hm : d.ment k = false) : VRel (X.grow k cs ty) base L d v :=
  h.mono (S := fun _ => True) (fun _ _ h => h) (ev_grow X k cs ty) trivial fun j hj => by
    show (if j = k then _ else X.ρ j) = _
    rw [if_neg (fun e => by subst e; rw [hm] at hj; cases hj)]

theorem s_box (h : Rel G X s a) {k size : Nat} {t : TypeId} {x : Operand} {ox : O} (hx : OT x ox) (ho : o.op = .box t x)
    (hsne : size ≠ 0) (hf : k < s.b.length ∧ noRefT k (putD s.t o.dst .top) = true ∧ noRefB k 0 s.b = true)
    (hK : semI P (.box k size) [ox.val s.t] s.b fun v b => K ⟨putD s.t o.dst v, b⟩) : o.wp P a X.w (Post G K) Q := by
  obtain ⟨Lx, rx⟩ := h.opnd hx
  generalize ox.val s.t = vx at *
  simp only [semI] at hK
  cases hc : cellsOfD vx with
  | none => simp [hc] at hK
  | some cs =>
    simp only [hc] at hK
    obtain ⟨hl, hm, hK⟩ := hK
    obtain ⟨e1, e2⟩ := cellsOfD_rel rx hc
    have run : (execOp a.eval o).run P X.w = .ok (.value (.pointer (some ⟨X.w.heap.size, 0, none⟩))) (X.w.alloc (.cells (a.eval x).cells t)) := by
      simp [execOp, ho, Instr.box, newVar, newRow]
    unfold Oper.wp
    rw [run, Oper.upon_value]
    refine ⟨_, X.grow k (a.eval x).cells t, h.grow (a.eval x).cells t ⟨true, size, [copies cs], false⟩ hf.2.1 hf.2.2 ?_ ?_ ?_ rfl rfl hsne (v := .addr k size 0 0) ⟨X.w.heap.size, by simp [Cx.grow], by simp⟩, rfl, hK⟩
    · simp [e1, hl]
    · intro row hrow
      simp at hrow
      subst hrow
      simp [copies_eq, hl]
    · intro r i row e u hrow he hu
      cases r with
      | zero =>
        simp at hrow
        subst hrow
        rw [copies_eq, List.getElem?_map] at he
        cases hd : cs[i]? with
        | none => rw [hd] at he; simp at he
        | some d =>
          rw [hd] at he
          simp at he
          subst he
          obtain ⟨f1, f2, f3⟩ := e2 i d u hd (by simpa using hu)
          refine ⟨copy_mono_grow (f1 _) ?_, f2⟩
          rw [ment_copy]
          cases hmd : d.ment k with
          | false => rfl
          | true => have := f3 k hmd; rw [hm] at this; cases this
      | succ r => simp at hrow

/-- What a zero value holds, in every world. -/
inductive ZR : DV → Value → Prop
  | int (k : IntKind) (n : Int) : ZR (.p (.int k n)) (.int k n)
  | bool (b : Bool) : ZR (.p (.bool b)) (.bool b)
  | str (s : ByteArray) : ZR (.p (.str s)) (.string s)
  | nil (n : Nat) : ZR (.ow n true []) (.slice none 0 0)
  | atom (v : Value) (h : v.oneCell' = true) : ZR (.p (.atom v)) v
  | top (v : Value) (h : v.oneCell' = true) : ZR .top v

theorem ZR.rel {X : Cx} {base : Nat} {L : Loc} {d : DV} {v : Value} (h : ZR d v) : VRel X base L d v ∧ v.oneCell' = true := by
  cases h with
  | int k n => exact ⟨Flat.int k n, rfl⟩
  | bool b => exact ⟨Flat.bool b, rfl⟩
  | str s => exact ⟨Flat.str s, rfl⟩
  | nil n => exact ⟨.inl ⟨rfl, .inl ⟨rfl, rfl⟩⟩, rfl⟩
  | atom v h => exact ⟨Flat.atom v h, h⟩
  | top v h => exact ⟨trivial, h⟩

def ZRs (l : List DV) (vs : Array Value) : Prop := vs.size = l.length ∧ ∀ (i : Nat) d v, l[i]? = some d → vs[i]? = some v → ZR d v

theorem s_alloc (h : Rel G X s a) {k size : Nat} {zero : List DV} {t : TypeId} (ho : o.op = .alloc t) {i : TypeInfo} {z : Value} (hi : P.info? t = some i) (hz : i.zero = some z) (hzr : ZRs zero z.cells)
    (hsne : size ≠ 0) (hf : k < s.b.length ∧ noRefT k (putD s.t o.dst .top) = true ∧ noRefB k 0 s.b = true)
    (hK : semI P (.alloc k size zero) [] s.b fun v b => K ⟨putD s.t o.dst v, b⟩) : o.wp P a X.w (Post G K) Q := by
  simp only [semI] at hK
  obtain ⟨hl, hK⟩ := hK
  have run : (execOp a.eval o).run P X.w = .ok (.value (.pointer (some ⟨X.w.heap.size, 0, none⟩))) (X.w.alloc (.cells z.cells t)) := by
    simp [execOp, ho, Instr.alloc, zeroValue, typeInfo, hi, hz, newVar, newRow]
  unfold Oper.wp
  rw [run, Oper.upon_value]
  refine ⟨_, X.grow k z.cells t, h.grow z.cells t ⟨true, size, [zero], false⟩ hf.2.1 hf.2.2 ?_ ?_ ?_ rfl rfl hsne (v := .addr k size 0 0) ⟨X.w.heap.size, by simp [Cx.grow], by simp⟩, rfl, hK⟩
  · simp [hzr.1, hl]
  · intro row hrow
    simp at hrow
    subst hrow
    exact hl
  · intro r i row e u hrow he hu
    cases r with
    | zero =>
      simp at hrow
      subst hrow
      exact (hzr.2 i e u he (by simpa using hu)).rel
    | succ r => simp at hrow

theorem s_mksl (h : Rel G X s a) {k size bytes : Nat} {ag : Bool} {zero : List DV} {t e : TypeId} {x y : Operand} {ox oy : O} (hx : OT x ox) (hy : OT y oy) (ho : o.op = .makeSlice t x y)
    (hu : P.underlying t = some (.slice e)) {i : TypeInfo} {z : Value} (hi : P.info? e = some i) (hz : i.zero = some z) (hsz : i.size = size) (hby : i.bytes = bytes) (hzr : ZRs zero z.cells)
    (hsne : size ≠ 0) (hf : k < s.b.length ∧ noRefT k (putD s.t o.dst .top) = true ∧ noRefB k 0 s.b = true)
    (hK : semI P (.mksl k size bytes ag zero) [ox.val s.t, oy.val s.t] s.b fun v b => K ⟨putD s.t o.dst v, b⟩) : o.wp P a X.w (Post G K) Q := by
  obtain ⟨_, rx⟩ := h.opnd hx
  obtain ⟨_, ry⟩ := h.opnd hy
  generalize ox.val s.t = vx at *
  generalize oy.val s.t = vy at *
  obtain ⟨k1, n, rfl⟩ : ∃ k1 l', vx = .p (.int k1 l') := by
    rcases vx with _ | x | _ | _ | _ | _ | _ <;> first | (simp [semI] at hK; done) | skip
    cases x <;> first | (simp [semI] at hK; done) | exact ⟨_, _, rfl⟩
  obtain ⟨k2, m, rfl⟩ : ∃ k1 l', vy = .p (.int k1 l') := by
    rcases vy with _ | x | _ | _ | _ | _ | _ <;> first | (simp [semI] at hK; done) | skip
    cases x <;> first | (simp [semI] at hK; done) | exact ⟨_, _, rfl⟩
  simp only [semI] at hK
  obtain ⟨rfl, h0, hb, hmax, hzl, hK⟩ := hK
  have ex := Flat.intv rx
  have ey := Flat.intv ry
  subst hsz
  subst hby
  have hm63 : n ≤ 9223372036854775807 := by simpa [maxLen] using hmax
  have hr := run_make (P := P) X.w t e i z hu hi hz k1 k2 n n h0 (Int.le_refl _) (by rw [Int.mul_comm]; omega) hm63
  have run : (execOp a.eval o).run P X.w = .ok (.value (.slice (some ⟨X.w.heap.size, 0, none⟩) n.toNat n.toNat)) (X.w.alloc (.cells (madeCells z.cells (n.toNat * i.size)) e)) := by
    simp [execOp, ho, ex, ey, hr]
  unfold Oper.wp
  rw [run, Oper.upon_value]
  have hzs : z.cells.size = i.size := hzr.1.trans hzl
  refine ⟨_, X.grow k _ e, h.grow (madeCells z.cells (n.toNat * i.size)) e ⟨true, i.size, List.replicate n.toNat zero, false⟩ hf.2.1 hf.2.2 ?_ ?_ ?_ rfl rfl hsne (v := .bs k i.size ag 0 n.toNat) ?_, rfl, hK⟩
  · simp [size_madeCells]
  · intro row hrow
    rw [(List.mem_replicate.1 hrow).2]
    exact hzl
  · intro r j row d u hrow hd hu
    rw [List.getElem?_replicate] at hrow
    split at hrow
    · rename_i hrn
      injection hrow with hrow
      subst hrow
      have hj : j < i.size := by rw [← hzl]; exact (List.getElem?_eq_some_iff.1 hd).1
      have hlt : r * i.size + j < n.toNat * i.size := by
        have : (r + 1) * i.size ≤ n.toNat * i.size := Nat.mul_le_mul_right _ hrn
        rw [Nat.add_mul] at this; omega
      have hmod : (r * i.size + j) % i.size = j := by rw [Nat.add_comm, Nat.add_mul_mod_self_right]; exact Nat.mod_eq_of_lt hj
      have hjz : j < z.cells.size := by omega
      have hu' : z.cells[j]? = some u := by
        simp only [madeCells, Array.getElem?_map] at hu
        rw [Array.getElem?_range, if_pos hlt] at hu
        simp only [Option.map_some, Option.some.injEq] at hu
        rw [hzs, hmod] at hu
        rw [← hu]
        simp [hjz]
      exact (hzr.2 j d u hd hu').rel
    · cases hrow
  · exact ⟨X.w.heap.size, n.toNat, by simp [Cx.grow], Nat.le_refl _, by omega, by simp⟩
end

end Go.Proofs.YtkjghcbnmipgfaaGreatDoor.Vc
