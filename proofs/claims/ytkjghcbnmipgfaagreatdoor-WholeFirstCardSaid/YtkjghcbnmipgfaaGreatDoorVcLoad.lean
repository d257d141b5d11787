/- Loads and stores. No condition. -/
import Derived.Test.YtkjghcbnmipgfaaGreatDoorVcAlloc
namespace Go.Proofs.YtkjghcbnmipgfaaGreatDoor.Vc
open Go.RowKit
variable {P : Program}

section
variable {G : Gl} {X : Cx} {s : St} {a : Act} {Q : Exit → Act → World → Prop} {o : Oper} {K : St → Prop}

theorem run_load_one {t : TypeId} {n : Nat} (ht : TyIs P t n false) {x : Operand} (ho : o.op = .load t x) {b i : Nat} (ev : a.eval x = .pointer (some ⟨b, i, none⟩)) {w : World} {v : Value}
    (hv : w.cell? ⟨b, i, none⟩ = some v) : (execOp a.eval o).run P w = .ok (.value v) w := by
  simp [execOp, ho, ev, Instr.loadAt, Instr.sureAddr, loadVar, ht.run_isAgg, run_load, hv]

theorem run_load_agg {t : TypeId} {n : Nat} (ht : TyIs P t n true) {x : Operand} (ho : o.op = .load t x) {b i : Nat} (ev : a.eval x = .pointer (some ⟨b, i, none⟩)) {w : World} (f : Nat → Value)
    (hv : ∀ j, j < n → w.cell? ⟨b, i + j, none⟩ = some (f j)) : (execOp a.eval o).run P w = .ok (.value (.agg ((List.range n).map f).toArray)) w := by
  have := run_loadCells (P := P) w ⟨b, i, none⟩ n f (fun j hj => by rw [Addr.add_lit]; exact hv j hj)
  simp [execOp, ho, ev, Instr.loadAt, Instr.sureAddr, loadVar, ht.run_isAgg, ht.run_sizeOf, this]

theorem s_loadP (h : Rel G X s a) {t : TypeId} {n : Nat} {isA take : Bool} (ht : TyIs P t n isA) {x : Operand} {ox : O} (hx : OT x ox) (ho : o.op = .load t x) {cells : List PV} {off : Nat}
    (e : ox.val s.t = .p (.ptr cells off)) (hK : semI P (.load n isA take) [ox.val s.t] s.b fun v b => K ⟨putD s.t o.dst v, b⟩) : o.wp P a X.w (Post G K) Q := by
  obtain ⟨_, rx⟩ := h.opnd hx
  rw [e] at rx hK
  simp only [semI, loadP] at hK
  generalize hv : a.eval x = v at *
  have rx' : Flat X.M X.w (.ptr cells off) v := rx
  cases rx' with
  | ptr _ _ b n0 cv hc h1 hr =>
    cases isA with
    | true =>
      simp only [if_true] at hK
      obtain ⟨hle, hK⟩ := hK
      refine wp_pv (z := .agg _) h (run_load_agg ht ho hv (fun j => cv (off + j)) fun j hj => ?_) (.agg _ _ ?_ ?_ ?_) hK
      · have := (hc (off + j) (by omega)).1
        rw [Nat.add_assoc]; exact this
      · rw [takeP_eq]; simp; omega
      · intro c hcm; rw [takeP_eq] at hcm; exact h1 c (List.mem_of_mem_drop (List.mem_of_mem_take hcm))
      · intro i c u hci hu
        rw [takeP_eq, List.getElem?_take] at hci
        split at hci
        · rename_i hin
          rw [List.getElem?_drop] at hci
          have : u = cv (off + i) := by simpa [hin, eq_comm] using hu
          subst this
          exact hr _ c hci
        · cases hci
    | false =>
      simp only [Bool.false_eq_true, if_false] at hK
      obtain ⟨c, hcc, hK⟩ := hK
      have hlt := (List.getElem?_eq_some_iff.1 hcc).1
      exact wp_pv (z := c) h (run_load_one ht ho hv (hc off hlt).1) (hr off c hcc) hK

theorem pvsOf_get {ds : List DV} {xs : List PV} (h : pvsOf ds = some xs) : xs.length = ds.length ∧ ∀ (i : Nat) d x, ds[i]? = some d → xs[i]? = some x → pvOf d = some x := by
  induction ds generalizing xs with
  | nil => simp [pvsOf] at h; subst h; exact ⟨rfl, fun i d x hd => by simp at hd⟩
  | cons d ds ih =>
    simp only [pvsOf] at h
    cases hd : pvOf d with
    | none => simp [hd] at h
    | some x =>
      cases hds : pvsOf ds with
      | none => simp [hd, hds] at h
      | some ys =>
        simp [hd, hds] at h
        subst h
        obtain ⟨e1, e2⟩ := ih hds
        refine ⟨by simp [e1], fun i d' x' hd' hx' => ?_⟩
        cases i with
        | zero => simp at hd' hx'; subst hd'; subst hx'; exact hd
        | succ i => exact e2 i d' x' (by simpa using hd') (by simpa using hx')

/-- The cells of a box. -/
theorem BoxRel.cell {X : Cx} {base k : Nat} {bx : Box} {blk : Nat} {cs : Array Value} {ty : TypeId} (hb : BoxRel X base k bx blk cs ty) {r i : Nat} {row : List DV} (hr : bx.rows[r]? = some row) (hi : i < row.length) :
    ∃ u, cs[r * bx.size + i]? = some u ∧ X.w.cell? ⟨blk, r * bx.size + i, none⟩ = some u ∧ VRel X base (.cell k r i) row[i] u ∧ u.oneCell' = true := by
  have hw := hb.width row (List.mem_of_getElem? hr)
  have hrl := (List.getElem?_eq_some_iff.1 hr).1
  have hlt : r * bx.size + i < cs.size := by
    have := hb.size
    have : (r + 1) * bx.size ≤ bx.rows.length * bx.size := Nat.mul_le_mul_right _ hrl
    rw [Nat.add_mul] at this; omega
  have hu : cs[r * bx.size + i]? = some cs[r * bx.size + i] := by simp [hlt]
  obtain ⟨h1, h2⟩ := hb.cells r i row row[i] _ hr (by simp [hi]) hu
  exact ⟨_, hu, by rw [heap_cell hb.heap]; exact hu, h1, h2⟩

/-- One cell's content is known less well; the owners may have turned. -/
theorem BoxRel.upd {X : Cx} {base k : Nat} {bx : Box} {blk : Nat} {cs : Array Value} {ty : TypeId} (hb : BoxRel X base k bx blk cs ty) {r i : Nat} {row : List DV} (hr : bx.rows[r]? = some row) {d : DV} {own' : Nat → Option Loc}
    (ho : own' blk = some (.box k))
    (hd : ∀ u, cs[r * bx.size + i]? = some u → VRel { X with own := own' } base (.cell k r i) d u) (hp : bx.live = false → d.isP = true)
    (hcs : ∀ (r' o' : Nat) e u, ¬ (r' = r ∧ o' = i) → VRel X base (.cell k r' o') e u → VRel { X with own := own' } base (.cell k r' o') e u) :
    BoxRel { X with own := own' } base k { bx with rows := setL bx.rows r (setL row i d) } blk cs ty := by
  refine ⟨hb.ρ, ho, hb.hbase, hb.heap, by simpa [setL_length] using hb.size, ?_, ?_, hb.live, ?_⟩
  · intro row' hrow'
    obtain ⟨j, hj⟩ := List.getElem?_of_mem hrow'
    simp only [getElem?_setL] at hj
    by_cases hjr : j = r
    · subst hjr
      rw [if_pos rfl, hr] at hj
      simp at hj
      subst hj
      rw [setL_length]
      exact hb.width row (List.mem_of_getElem? hr)
    · rw [if_neg hjr] at hj
      exact hb.width row' (List.mem_of_getElem? hj)
  · intro r' o' row' e u hrow' he hu
    simp only [getElem?_setL] at hrow'
    by_cases hjr : r' = r
    · subst hjr
      rw [if_pos rfl, hr] at hrow'
      simp at hrow'
      subst hrow'
      rw [getElem?_setL] at he
      by_cases hoo : o' = i
      · subst hoo
        rw [if_pos rfl] at he
        cases hx : row[o']? with
        | none => rw [hx] at he; simp at he
        | some e0 =>
          rw [hx] at he
          simp at he
          subst he
          exact ⟨hd u hu, (hb.cells r' o' row e0 u hr hx hu).2⟩
      · rw [if_neg hoo] at he
        obtain ⟨f1, f2⟩ := hb.cells r' o' row e u hr he hu
        exact ⟨hcs r' o' e u (fun hh => hoo hh.2) f1, f2⟩
    · rw [if_neg hjr] at hrow'
      obtain ⟨f1, f2⟩ := hb.cells r' o' row' e u hrow' he hu
      exact ⟨hcs r' o' e u (fun hh => hjr hh.1) f1, f2⟩
  · intro hl
    obtain ⟨f1, f2⟩ := hb.fixed hl
    refine ⟨by simpa [setL_length] using f1, fun row' hrow' e he => ?_⟩
    obtain ⟨j, hj⟩ := List.getElem?_of_mem hrow'
    simp only [getElem?_setL] at hj
    by_cases hjr : j = r
    · subst hjr
      rw [if_pos rfl, hr] at hj
      simp at hj
      subst hj
      obtain ⟨q, hq⟩ := List.getElem?_of_mem he
      rw [getElem?_setL] at hq
      by_cases hqi : q = i
      · subst hqi
        rw [if_pos rfl] at hq
        cases hx : row[q]? with
        | none => rw [hx] at hq; simp at hq
        | some e0 => rw [hx] at hq; simp at hq; subst hq; exact hp hl
      · rw [if_neg hqi] at hq
        exact f2 row (List.mem_of_getElem? hr) e (List.mem_of_getElem? hq)
    · rw [if_neg hjr] at hj
      exact f2 row' (List.mem_of_getElem? hj) e he

theorem getB_some {bs : List (Option Box)} {k : Nat} {bx : Box} (h : getB bs k = some bx) : bs[k]? = some (some bx) := by
  rw [getB_eq] at h
  have h := (cellB_some h).1
  cases hk : bs[k]? with
  | none => rw [hk] at h; simp at h
  | some x => rw [hk] at h; simp at h; rw [h]

theorem getB_ne {bs : List (Option Box)} {k : Nat} {bx : Box} (h : getB bs k = some bx) : bx.size ≠ 0 := by
  rw [getB_eq] at h; exact (cellB_some h).2
theorem getM_some {bs : List (Option Box)} {k : Nat} {bx : Box} (h : getM bs k = some bx) : bs[k]? = some (some bx) ∧ bx.size = 0 := by
  rw [getM_eq] at h
  obtain ⟨h1, h2⟩ := mapB_some h
  refine ⟨?_, h2⟩
  cases hk : bs[k]? with
  | none => rw [hk] at h1; simp at h1
  | some x => rw [hk] at h1; simp at h1; rw [h1]

theorem setB_get {bs : List (Option Box)} {k j : Nat} {bx bx' : Box} (h : (setL bs k (some bx))[j]? = some (some bx')) : (j = k ∧ bx' = bx) ∨ (j ≠ k ∧ bs[j]? = some (some bx')) := by
  rw [getElem?_setL] at h
  by_cases hjk : j = k
  · subst hjk
    rw [if_pos rfl] at h
    cases hb : bs[j]? with
    | none => rw [hb] at h; simp at h
    | some _ => rw [hb] at h; simp at h; exact .inl ⟨rfl, h.symm⟩
  · rw [if_neg hjk] at h
    exact .inr ⟨hjk, h⟩

theorem BoxRel.weak {X : Cx} {base k : Nat} {bx : Box} {blk : Nat} {cs : Array Value} {ty : TypeId} (hb : BoxRel X base k bx blk cs ty) {r i : Nat} {row : List DV} (hr : bx.rows[r]? = some row) {d : DV}
    (hd : ∀ u, cs[r * bx.size + i]? = some u → VRel X base (.cell k r i) d u) (hp : bx.live = false → d.isP = true) : BoxRel X base k { bx with rows := setL bx.rows r (setL row i d) } blk cs ty :=
  hb.upd hr hb.own hd hp fun _ _ _ _ _ h => h

/-- From a cell to slot m. -/
def cellTo (k r i m : Nat) : Loc → Loc
  | .cell k' r' i' => if k' = k ∧ r' = r ∧ i' = i then .tmp m else .cell k' r' i'
  | .comp L j => .comp (cellTo k r i m L) j
  | L => L

theorem cellTo_id (k r i m : Nat) (L : Loc) (h : L.root ≠ .cell k r i) : cellTo k r i m L = L := by
  induction L with
  | cell k' r' i' => simp only [cellTo]; rw [if_neg]; rintro ⟨rfl, rfl, rfl⟩; exact h rfl
  | comp L j ih => simp only [cellTo]; rw [ih h]
  | _ => rfl

theorem s_loadB (h : Rel G X s a) {t : TypeId} {n : Nat} {isA take : Bool} (ht : TyIs P t n isA) {x : Operand} {ox : O} (hx : OT x ox) (ho : o.op = .load t x) {k sz r off : Nat}
    (e : ox.val s.t = .addr k sz r off) (hK : semI P (.load n isA take) [ox.val s.t] s.b fun v b => K ⟨putD s.t o.dst v, b⟩) : o.wp P a X.w (Post G K) Q := by
  obtain ⟨_, rx⟩ := h.opnd hx
  rw [e] at rx hK
  obtain ⟨blk, hρ, ev⟩ := rx
  simp only [semI] at hK
  cases hbk : getB s.b k with
  | none => simp [hbk] at hK
  | some bx =>
    simp only [hbk] at hK
    obtain ⟨rfl, row, hr, hle, hK⟩ := hK
    have hbk' := getB_some hbk
    obtain ⟨blk', cs, ty, hb⟩ := h.cbox hbk' (getB_ne hbk)
    have : blk' = blk := by have := hb.ρ; rw [hρ] at this; injection this with h; exact h.symm
    subst this
    cases isA with
    | true =>
      simp only [if_true] at hK
      cases hp : pvsOf (takeD row off n) with
      | none => simp [hp] at hK
      | some xs =>
        simp only [hp] at hK
        obtain ⟨e1, e2⟩ := pvsOf_get hp
        have hcell : ∀ j, j < n → ∃ u, X.w.cell? ⟨blk', r * bx.size + off + j, none⟩ = some u ∧ VRel X G.base (.cell k r (off + j)) (row[off + j]?.getD .top) u ∧ u.oneCell' = true := by
          intro j hj
          obtain ⟨u, _, h2, h3, h4⟩ := hb.cell hr (i := off + j) (by omega)
          refine ⟨u, by rw [Nat.add_assoc]; exact h2, ?_, h4⟩
          rw [List.getElem?_eq_getElem (by omega)]
          exact h3
        have hf : ∃ f : Nat → Value, ∀ j, j < n → X.w.cell? ⟨blk', r * bx.size + off + j, none⟩ = some (f j) ∧ VRel X G.base (.cell k r (off + j)) (row[off + j]?.getD .top) (f j) ∧ (f j).oneCell' = true := by
          refine ⟨fun j => if hj : j < n then (hcell j hj).choose else undef, fun j hj => ?_⟩
          simp only [dif_pos hj]
          exact (hcell j hj).choose_spec
        obtain ⟨f, hf⟩ := hf
        have hlen : xs.length = n := by rw [e1, takeD_eq]; simp; omega
        have hcs : ∀ (i : Nat) c, xs[i]? = some c → i < n ∧ Flat X.M X.w c (f i) ∧ c.one = true := by
          intro i c hc
          have hin : i < n := by rw [← hlen]; exact (List.getElem?_eq_some_iff.1 hc).1
          have hd : (takeD row off n)[i]? = some (row[off + i]?.getD .top) := by
            rw [takeD_eq, List.getElem?_take, if_pos hin, List.getElem?_drop, List.getElem?_eq_getElem (by omega)]; rfl
          have hpv := e2 i _ c hd hc
          have := pv_of (hf i hin).2.1 hpv
          exact ⟨hin, this, this.one_of_cell (hf i hin).2.2⟩
        refine wp_pv (z := .agg xs) h (run_load_agg ht ho ev f fun j hj => (hf j hj).1) (.agg _ _ (by simp [hlen]) ?_ ?_) hK
        · intro c hc
          obtain ⟨i, hi⟩ := List.getElem?_of_mem hc
          exact (hcs i c hi).2.2
        · intro i c u hc hu
          obtain ⟨hin, h1, _⟩ := hcs i c hc
          have : u = f i := by simpa [hin, eq_comm] using hu
          subst this
          exact h1
    | false =>
      simp only [Bool.false_eq_true, if_false] at hK
      obtain ⟨d, hd, hK⟩ := hK
      have hlt := (List.getElem?_eq_some_iff.1 hd).1
      obtain ⟨u, hcu, hu, hv, h1⟩ := hb.cell hr hlt
      rw [(List.getElem?_eq_some_iff.1 hd).2] at hv
      have run := run_load_one ht ho ev hu
      cases take with
      | false =>
        simp only [Bool.false_eq_true, if_false] at hK
        exact wp_value h run (fun j _ => hv.copy _) hK
      | true =>
        simp only [if_true] at hK
        unfold Oper.wp
        rw [run, Oper.upon_value]
        cases hdst : o.dst with
        | none =>
          rw [hdst] at hK
          refine ⟨_, X, ?_, rfl, hK⟩
          refine ⟨by rw [put_defers]; exact h.defers, by rw [put_size]; simpa [putD] using h.size, ?_, ?_, h.below, h.hb, h.mold⟩
          · intro i e he; rw [put_tmps]; simpa [putD] using h.tmps i e (by simpa [putD] using he)
          · intro j bx' hj
            rcases setB_get hj with ⟨rfl, rfl⟩ | ⟨_, hj⟩
            · refine BX.cell (show bx.size ≠ 0 from getB_ne hbk) (hb.weak hr (fun u' hu' => ?_) fun hl => ?_)
              · rw [hcu] at hu'; injection hu' with hu'; subst hu'; exact hv.copy _
              · have := (hb.fixed hl).2 row (List.mem_of_getElem? hr) d (List.mem_of_getElem? hd)
                cases d <;> first | rfl | (simp [DV.isP] at this)
            · exact h.boxes j bx' hj
        | some m =>
          rw [hdst] at hK
          have hmv := hv.moved (cellTo k r off m) (fun j => rfl)
          have e1 : cellTo k r off m (.cell k r off) = .tmp m := by simp [cellTo]
          rw [e1] at hmv
          have hev := ev_moved X (cellTo k r off m) (fun L => L.root ≠ .cell k r off) fun L hL => cellTo_id k r off m L hL
          have hch : Rel G (X.moved (cellTo k r off m)) ⟨s.t, setL s.b k (some { bx with rows := setL bx.rows r (setL row off d.copy) })⟩ a := by
            refine ⟨h.defers, h.size, ?_, ?_, h.below, h.hb, h.mold⟩
            · intro i e he
              exact (h.tmps i e he).mono (fun _ _ h => h) hev (by simp [Loc.root]) fun _ _ => rfl
            · intro j bx' hj
              rcases setB_get hj with ⟨rfl, rfl⟩ | ⟨hne, hj⟩
              · refine BX.cell (show bx.size ≠ 0 from getB_ne hbk) (hb.upd hr (own' := fun g => (X.own g).map (cellTo j r off m)) (by simp [hb.own, cellTo]) (fun u' hu' => ?_) (fun hl => ?_) fun r' o' e u' hne hv' => ?_)
                · rw [hcu] at hu'; injection hu' with hu'; subst hu'; exact hv.copy_moved _ _
                · have := (hb.fixed hl).2 row (List.mem_of_getElem? hr) d (List.mem_of_getElem? hd)
                  cases d <;> first | rfl | (simp [DV.isP] at this)
                · exact hv'.mono (fun _ _ h => h) hev (by simp only [Loc.root, ne_eq, Loc.cell.injEq, true_and]; exact hne) fun _ _ => rfl
              · exact (h.boxes j bx' hj).mono (fun _ _ h => h) hev (by simp [Loc.root]) (fun r' o' => by simp [Loc.root, hne]) rfl fun _ _ _ _ _ _ => rfl
          refine ⟨_, _, hch.put (d := some m) (v := d) (u := u) (fun i hi => ?_), rfl, hK⟩
          injection hi with hi
          subst hi
          exact hmv
end

end Go.Proofs.YtkjghcbnmipgfaaGreatDoor.Vc
