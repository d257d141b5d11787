/- What is handed on reads as data. No condition. -/
import Derived.Test.YtkjghcbnmipgfaaGreatDoorVcStore
namespace Go.Proofs.YtkjghcbnmipgfaaGreatDoor.Vc
open Go.RowKit
variable {P : Program}

theorem flatten_get {α : Type} {size : Nat} (rows : List (List α)) (hw : ∀ row, row ∈ rows → row.length = size) (j : Nat) (d : α) (h : rows.flatten[j]? = some d) :
    ∃ r o row, j = r * size + o ∧ rows[r]? = some row ∧ row[o]? = some d ∧ o < size := by
  induction rows generalizing j with
  | nil => simp at h
  | cons row rows ih =>
    have h0 := hw row (by simp)
    rw [List.flatten_cons, List.getElem?_append] at h
    by_cases hj : j < row.length
    · rw [if_pos hj] at h
      exact ⟨0, j, row, by simp, by simp, h, by omega⟩
    · rw [if_neg hj] at h
      obtain ⟨r, o, row', e1, e2, e3, e4⟩ := ih (fun row hr => hw row (by simp [hr])) _ h
      refine ⟨r + 1, o, row', ?_, by simpa using e2, e3, e4⟩
      rw [Nat.add_mul]; omega

theorem cellsP_get {ds : List DV} {xs : List PV} (h : cellsP ds = some xs) : xs.length = ds.length ∧ ∀ (i : Nat) x, xs[i]? = some x → ds[i]? = some (.p x) := by
  induction ds generalizing xs with
  | nil => simp [cellsP] at h; subst h; exact ⟨rfl, fun i x hx => by simp at hx⟩
  | cons d ds ih =>
    cases d with
    | p y =>
      simp only [cellsP] at h
      cases hds : cellsP ds with
      | none => simp [hds] at h
      | some ys =>
        simp [hds] at h
        subst h
        obtain ⟨e1, e2⟩ := ih hds
        refine ⟨by simp [e1], fun i x hx => ?_⟩
        cases i with
        | zero => simp at hx; subst hx; rfl
        | succ i => exact e2 i x (by simpa using hx)
    | _ => simp [cellsP] at h

theorem rowsP_get {ag : Bool} {rs : List (List DV)} {xs : List PV} (h : rowsP ag rs = some xs) : xs.length = rs.length ∧ ∀ (i : Nat) x, xs[i]? = some x → ∃ row cs, rs[i]? = some row ∧ cellsP row = some cs ∧ x = (if ag then .agg cs else cs.headD (.bool false)) := by
  induction rs generalizing xs with
  | nil => simp [rowsP] at h; subst h; exact ⟨rfl, fun i x hx => by simp at hx⟩
  | cons row rs ih =>
    simp only [rowsP] at h
    cases hc : cellsP row with
    | none => simp [hc] at h
    | some cs =>
      cases hrs : rowsP ag rs with
      | none => simp [hc, hrs] at h
      | some ys =>
        simp only [hc, hrs, Option.some.injEq] at h
        subst h
        obtain ⟨e1, e2⟩ := ih hrs
        refine ⟨by simp [e1], fun i x hx => ?_⟩
        cases i with
        | zero => simp only [List.getElem?_cons_zero, Option.some.injEq] at hx; subst hx; exact ⟨row, cs, rfl, hc, rfl⟩
        | succ i => exact e2 i x (by simpa using hx)

section
variable {G : Gl} {X : Cx} {s : St} {a : Act}

theorem capFrz (h : Rel G X s a) {c : CapV} {x : PV} {v : Value} (hc : CRel X c v) (hf : c.frz s.b = some x) : Flat X.M X.w x v := by
  cases c with
  | p y => simp [CapV.frz] at hf; subst hf; exact hc
  | addr k size r off =>
    obtain ⟨blk, hρ, rfl⟩ := hc
    simp only [CapV.frz] at hf
    cases hb : getB s.b k with
    | none => simp [hb] at hf
    | some bx =>
      simp only [hb] at hf
      cases hl : bx.live with
      | true => simp [hl] at hf
      | false =>
        simp only [hl, Bool.false_eq_true, if_false] at hf
        cases hcs : cellsP bx.rows.flatten with
        | none => simp [hcs] at hf
        | some cs =>
          simp [hcs] at hf
          subst hf
          obtain ⟨blk', cur, ty, hbr⟩ := h.cbox (getB_some hb) (getB_ne hb)
          have : blk' = blk := by have := hbr.ρ; rw [hρ] at this; injection this with h; exact h.symm
          subst this
          obtain ⟨e1, e2⟩ := cellsP_get hcs
          obtain ⟨f1, f2⟩ := hbr.fixed hl
          have hlen : cs.length = bx.rows.length * bx.size := by
            rw [e1, List.length_flatten]
            have : bx.rows.map List.length = List.replicate bx.rows.length bx.size := by
              apply List.eq_replicate_iff.2
              refine ⟨by simp, fun n hn => ?_⟩
              obtain ⟨row, hrow, rfl⟩ := List.mem_map.1 hn
              exact hbr.width row hrow
            rw [this]; simp
          have hcell : ∀ (j : Nat) c, cs[j]? = some c → ∃ u, cur[j]? = some u ∧ Flat X.M X.w c u ∧ u.oneCell' = true := by
            intro j c hc
            obtain ⟨r', o', row, e3, e4, e5, e6⟩ := flatten_get bx.rows hbr.width j (.p c) (e2 j c hc)
            obtain ⟨u, g1, g2, g3, g4⟩ := hbr.cell e4 (i := o') (List.getElem?_eq_some_iff.1 e5).1
            rw [(List.getElem?_eq_some_iff.1 e5).2] at g3
            subst e3
            exact ⟨u, g1, g3, g4⟩
          have := Flat.ptr (M := X.M) (w := X.w) cs (r * size + off) blk' 0 (fun j => cur.getD j undef) (fun j hj => ?_) (fun c hc => ?_) (fun j c hc => ?_)
          · simpa using this
          · rw [hlen] at hj
            have hj' : j < cur.size := Nat.lt_of_lt_of_le hj hbr.size
            refine ⟨by rw [heap_cell hbr.heap]; simp [Array.getD, hj'], by simpa using f1 j hj⟩
          · obtain ⟨j, hj⟩ := List.getElem?_of_mem hc
            obtain ⟨u, _, g1, g2⟩ := hcell j c hj
            exact g1.one_of_cell g2
          · obtain ⟨u, g0, g1, _⟩ := hcell j c hc
            have : cur.getD j undef = u := by
              have := (Array.getElem?_eq_some_iff.1 g0)
              simp [Array.getD, this.1, this.2]
            rw [this]; exact g1

theorem capsFrz (h : Rel G X s a) {caps : List CapV} {xs : List PV} (hf : capsF s.b caps = some xs) : xs.length = caps.length ∧
    ∀ (j : Nat) c x u, caps[j]? = some c → xs[j]? = some x → CRel X c u → Flat X.M X.w x u := by
  induction caps generalizing xs with
  | nil => simp [capsF] at hf; subst hf; exact ⟨rfl, fun j c x u hc => by simp at hc⟩
  | cons c cs ih =>
    simp only [capsF] at hf
    cases h1 : c.frz s.b with
    | none => simp [h1] at hf
    | some x =>
      cases h2 : capsF s.b cs with
      | none => simp [h1, h2] at hf
      | some ys =>
        simp [h1, h2] at hf
        subst hf
        obtain ⟨e1, e2⟩ := ih h2
        refine ⟨by simp [e1], fun j c' x' u hc hx hr => ?_⟩
        cases j with
        | zero => simp at hc hx; subst hc; subst hx; exact capFrz h hr h1
        | succ j => exact e2 j c' x' u (by simpa using hc) (by simpa using hx) hr

theorem frz (h : Rel G X s a) {L : Loc} {d : DV} {x : PV} {v : Value} (hv : VRel X G.base L d v) (hf : d.frz s.b = some x) : Flat X.M X.w x v := by
  cases d with
  | top => simp [DV.frz] at hf
  | mh k => simp [DV.frz] at hf
  | tup ds => simp [DV.frz] at hf
  | p y => simp [DV.frz] at hf; subst hf; exact hv
  | ow size n rows => simp [DV.frz] at hf; subst hf; exact OwRel.flat hv
  | addr k size r off => exact capFrz (c := .addr k size r off) h hv hf
  | fn f caps =>
    simp only [DV.frz] at hf
    cases hc : capsF s.b caps with
    | none => simp [hc] at hf
    | some xs =>
      simp [hc] at hf
      subst hf
      obtain ⟨e1, e2⟩ := capsFrz h hc
      obtain ⟨vs, rfl, hl, hh⟩ := hv
      refine .fn f xs vs (by rw [hl, e1]) fun i c u hci hu => ?_
      have hi : i < caps.length := by rw [← e1]; exact (List.getElem?_eq_some_iff.1 hci).1
      exact e2 i caps[i] c u (by simp [hi]) hci (hh i caps[i] u (by simp [hi]) hu)
  | bs k size ag lo n =>
    obtain ⟨blk, cap, hρ, hnc, hcm, rfl⟩ := hv
    simp only [DV.frz] at hf
    cases hb : getB s.b k with
    | none => simp [hb] at hf
    | some bx =>
      simp only [hb] at hf
      split at hf
      · rename_i hcond
        obtain ⟨hl, hag, rfl, rfl, rfl⟩ := hcond
        cases hrs : rowsP ag bx.rows with
        | none => simp [hrs] at hf
        | some rows =>
          simp [hrs] at hf
          subst hf
          obtain ⟨blk', cur, ty, hbr⟩ := h.cbox (getB_some hb) (getB_ne hb)
          have : blk' = blk := by have := hbr.ρ; rw [hρ] at this; injection this with h; exact h.symm
          subst this
          obtain ⟨e1, e2⟩ := rowsP_get hrs
          obtain ⟨f1, f2⟩ := hbr.fixed hl
          have hrow : ∀ (i : Nat) x, rows[i]? = some x → (rowCells x).length = bx.size ∧ ∀ (j : Nat) c, (rowCells x)[j]? = some c → ∃ u, cur[i * bx.size + j]? = some u ∧ Flat X.M X.w c u ∧ c.one = true := by
            intro i x hx
            obtain ⟨row, cs, g1, g2, rfl⟩ := e2 i x hx
            obtain ⟨c1, c2⟩ := cellsP_get g2
            have hw := hbr.width row (List.mem_of_getElem? g1)
            have hcells : ∀ (j : Nat) c, cs[j]? = some c → ∃ u, cur[i * bx.size + j]? = some u ∧ Flat X.M X.w c u ∧ c.one = true := by
              intro j c hc
              have hd := c2 j c hc
              obtain ⟨u, q1, q2, q3, q4⟩ := hbr.cell g1 (i := j) (List.getElem?_eq_some_iff.1 hd).1
              rw [(List.getElem?_eq_some_iff.1 hd).2] at q3
              exact ⟨u, q1, q3, Flat.one_of_cell q3 q4⟩
            cases ag with
            | true => simp only [if_true, rowCells]; exact ⟨by rw [c1, hw], hcells⟩
            | false =>
              simp only [Bool.false_eq_true, if_false, false_or] at hag ⊢
              match cs, c1, hcells with
              | [c0], _, hcells =>
                obtain ⟨u, q1, q2, q3⟩ := hcells 0 c0 rfl
                rw [show ([c0] : List PV).headD (.bool false) = c0 from rfl, rowCells_of_one q3]
                exact ⟨by simp [hag], hcells⟩
              | [], c1, _ => simp at c1; omega
              | _ :: _ :: _, c1, _ => simp at c1; omega
          have := Flat.sl (M := X.M) (w := X.w) bx.size rows blk' 0 cap (fun j => cur.getD j undef) (by rw [e1]; exact hnc) hcm (fun j hj => ?_) (fun x hx => ?_) (fun x hx c hc => ?_) (fun i j x c hx hc => ?_)
          · rw [e1] at this; simpa using this
          · rw [e1] at hj
            have hj' : j < cur.size := Nat.lt_of_lt_of_le hj hbr.size
            exact ⟨by rw [heap_cell hbr.heap]; simp [Array.getD, hj'], by simpa using f1 j hj⟩
          · obtain ⟨i, hi⟩ := List.getElem?_of_mem hx
            exact (hrow i x hi).1
          · obtain ⟨i, hi⟩ := List.getElem?_of_mem hx
            obtain ⟨j, hj⟩ := List.getElem?_of_mem hc
            obtain ⟨u, _, _, q⟩ := (hrow i x hi).2 j c hj
            exact q
          · obtain ⟨u, q0, q1, _⟩ := (hrow i x hx).2 j c hc
            have : cur.getD (i * bx.size + j) undef = u := by
              have := (Array.getElem?_eq_some_iff.1 q0)
              simp [Array.getD, this.1, this.2]
            rw [this]; exact q1
      · cases hf

theorem frzsGet (h : Rel G X s a) {xs : List Operand} {os : List O} (hl : os.length = xs.length) (ho : ∀ (i : Nat) x o, xs[i]? = some x → os[i]? = some o → OT x o) {ys : List PV} (hf : frzs s.b (os.map (O.val s.t)) = some ys) :
    ys.length = xs.length ∧ ∀ (j : Nat) x y, xs[j]? = some x → ys[j]? = some y → Flat X.M X.w y (a.eval x) := by
  induction os generalizing xs ys with
  | nil =>
    simp [frzs] at hf
    subst hf
    cases xs with
    | nil => exact ⟨rfl, fun j x y hx => by simp at hx⟩
    | cons x xs => simp at hl
  | cons o os ih =>
    cases xs with
    | nil => simp at hl
    | cons x xs =>
      simp only [List.map_cons, frzs] at hf
      cases h1 : (o.val s.t).frz s.b with
      | none => simp [h1] at hf
      | some y =>
        cases h2 : frzs s.b (os.map (O.val s.t)) with
        | none => simp [h1, h2] at hf
        | some ys' =>
          simp [h1, h2] at hf
          subst hf
          obtain ⟨e1, e2⟩ := ih (xs := xs) (by simpa using hl) (fun i x o hx ho' => ho (i + 1) x o (by simpa using hx) (by simpa using ho')) h2
          refine ⟨by simp [e1], fun j x' y' hx hy => ?_⟩
          cases j with
          | zero =>
            simp at hx hy
            subst hx
            subst hy
            obtain ⟨L, hr⟩ := h.opnd (ho 0 x o rfl rfl)
            exact frz h hr h1
          | succ j => exact e2 j x' y' (by simpa using hx) (by simpa using hy)
end

end Go.Proofs.YtkjghcbnmipgfaaGreatDoor.Vc
