/- Stores. No condition. -/
import Derived.Test.YtkjghcbnmipgfaaGreatDoorVcLoad
namespace Go.Proofs.YtkjghcbnmipgfaaGreatDoor.Vc
open Go.RowKit
variable {P : Program}

/-- From slot n to a cell. -/
def slotTo (n k r i : Nat) : Loc → Loc
  | .tmp j => if j = n then .cell k r i else .tmp j
  | .comp L j => .comp (slotTo n k r i L) j
  | L => L

theorem slotTo_id (n k r i : Nat) (L : Loc) (h : L.root ≠ .tmp n) : slotTo n k r i L = L := by
  induction L with
  | tmp j => simp only [slotTo]; rw [if_neg]; rintro rfl; exact h rfl
  | comp L j ih => simp only [slotTo]; rw [ih h]
  | _ => rfl

theorem storeD_length (l : List DV) (o : Nat) (cs : List DV) : (storeD l o cs).length = l.length := by
  induction cs generalizing l o with
  | nil => rfl
  | cons c cs ih => simp [storeD, ih, setL_length]
theorem storeD_get (l : List DV) (o : Nat) (cs : List DV) (i : Nat) : (storeD l o cs)[i]? = if o ≤ i ∧ i < o + cs.length ∧ i < l.length then cs[i - o]? else l[i]? := by
  induction cs generalizing l o with
  | nil => simp [storeD]; intro h1 h2; omega
  | cons c cs ih =>
    rw [storeD, ih, setL_length, getElem?_setL]
    by_cases h1 : i = o
    · subst h1
      rw [if_neg (by omega), if_pos rfl]
      by_cases hl : i < l.length
      · rw [if_pos ⟨Nat.le_refl _, by simp, hl⟩]; simp [hl]
      · rw [if_neg (by omega)]; simp [hl]
    · by_cases h2 : o + 1 ≤ i ∧ i < o + 1 + cs.length ∧ i < l.length
      · rw [if_pos h2, if_pos ⟨by omega, by simp; omega, h2.2.2⟩]
        have : i - o = (i - (o + 1)) + 1 := by omega
        rw [this]; simp
      · rw [if_neg h2, if_neg h1, if_neg (by simp; omega)]

section
variable {G : Gl} {X : Cx} {s : St} {a : Act} {Q : Exit → Act → World → Prop} {o : Oper} {K : St → Prop}

theorem ment_of_isP {d : DV} (h : d.isP = true) (k : Nat) : d.ment k = false := by cases d <;> first | rfl | (simp [DV.isP] at h)

/-- What is stored, with the cell as its place. -/
theorem storeSrc (h : Rel G X s a) {n k r off : Nat} {y : Operand} {oy : O} (hy : OT y oy) {cs : List DV} (hc : cellsOfD (oy.val s.t) = some cs) {ox : O} :
    ∃ own', Rel G { X with own := own' } ⟨degr (.store n) [ox, oy] s.t, s.b⟩ a ∧ (a.eval y).cells.size = cs.length ∧
      ∀ (i : Nat) d u, cs[i]? = some d → (a.eval y).cells[i]? = some u → VRel { X with own := own' } G.base (.cell k r (off + i)) d u ∧ u.oneCell' = true := by
  cases oy with
  | c d =>
    refine ⟨X.own, h, ?_⟩
    have hr : ∀ L, VRel X G.base L d (a.eval y) := fun L => VRel.const (t := s.t) (o := .c d) hy (by intro n hn; cases hn)
    obtain ⟨e1, e2⟩ := cellsOfD_rel (hr (.tmp 0)) hc
    refine ⟨e1, fun i d' u hd hu => ?_⟩
    obtain ⟨f1, f2, _⟩ := e2 i d' u hd hu
    refine ⟨?_, f2⟩
    simp only [O.val] at hc
    cases d with
    | ow sz nl rows =>
      simp [cellsOfD] at hc
      subst hc
      cases i with
      | zero =>
        simp at hd
        subst hd
        have hone : (a.eval y).oneCell' = true := by
          have := OwRel.flat (hr (.tmp 0))
          exact this.oneCell rfl
        rw [cells_of_one hone] at hu
        simp at hu
        subst hu
        exact hr _
      | succ i => simp at hd
    | p z =>
      simp [cellsOfD] at hc
      subst hc
      rw [List.getElem?_map] at hd
      cases hz : (rowCells z)[i]? with
      | none => rw [hz] at hd; simp at hd
      | some c => rw [hz] at hd; simp at hd; subst hd; exact f1 _
    | top => simp [cellsOfD] at hc
    | mh k => simp [cellsOfD] at hc
    | tup ds => simp [cellsOfD] at hc
    | addr k' size r' off' =>
      simp [cellsOfD] at hc; subst hc
      cases i with
      | zero => simp at hd; subst hd; exact f1 _
      | succ i => simp at hd
    | bs k' size ag lo m =>
      simp [cellsOfD] at hc; subst hc
      cases i with
      | zero => simp at hd; subst hd; exact f1 _
      | succ i => simp at hd
    | fn f caps =>
      simp [cellsOfD] at hc; subst hc
      cases i with
      | zero => simp at hd; subst hd; exact f1 _
      | succ i => simp at hd
  | t m =>
    have hye : y = .tmp m := by cases hy; rfl
    subst hye
    have hv := h.get m
    simp only [O.val] at hc
    simp only [degr]
    have hweak := h.weak m (getT s.t m).copy (hv.copy _)
    have hchange : Rel G (X.moved (slotTo m k r off)) ⟨setL s.t m (getT s.t m).copy, s.b⟩ a := by
      refine hweak.change (fun L => L.root ≠ .tmp m) (fun L j h => h) (ev_moved X _ _ fun L hL => slotTo_id m k r off L hL) ?_ ?_ (Below.refl _ _) (fun _ _ _ => Iff.rfl)
      · intro i d hd
        rcases setL_get hd with ⟨rfl, rfl, _⟩ | ⟨hne, _⟩
        · exact .inr (hv.copy_moved _ _)
        · exact .inl ⟨fun e => hne (by simpa [Loc.root] using e), fun _ _ => rfl⟩
      · intro k' bx hk
        exact .inl ⟨by simp [Loc.root], by simp [Loc.root], rfl, fun _ _ _ _ _ _ => rfl⟩
    refine ⟨_, hchange, ?_⟩
    obtain ⟨e1, e2⟩ := cellsOfD_rel hv hc
    refine ⟨e1, fun i d' u hd hu => ?_⟩
    obtain ⟨f1, f2, _⟩ := e2 i d' u hd hu
    refine ⟨?_, f2⟩
    have hcm : d'.copy = d' → VRel (X.moved (slotTo m k r off)) G.base (.cell k r (off + i)) d' u := by
      intro e
      have := (f1 (.tmp 0)).copy_moved (slotTo m k r off) (.cell k r (off + i))
      rw [e, e] at this
      exact this
    generalize hg : getT s.t m = dv at *
    cases dv with
    | ow sz nl rows =>
      simp [cellsOfD] at hc
      subst hc
      cases i with
      | zero =>
        simp at hd
        subst hd
        have hone : (a.eval (.tmp m)).oneCell' = true := by
          have := OwRel.flat hv
          exact this.oneCell rfl
        rw [cells_of_one hone] at hu
        simp at hu
        subst hu
        have := hv.moved (slotTo m k r off) (fun j => rfl)
        have e : slotTo m k r off (.tmp m) = .cell k r off := by simp [slotTo]
        rw [e] at this
        exact this
      | succ i => simp at hd
    | p z =>
      simp [cellsOfD] at hc
      subst hc
      rw [List.getElem?_map] at hd
      cases hz : (rowCells z)[i]? with
      | none => rw [hz] at hd; simp at hd
      | some c => rw [hz] at hd; simp at hd; subst hd; exact hcm rfl
    | top => simp [cellsOfD] at hc
    | mh k => simp [cellsOfD] at hc
    | tup ds => simp [cellsOfD] at hc
    | addr k' size r' off' =>
      simp [cellsOfD] at hc; subst hc
      cases i with
      | zero => simp at hd; subst hd; exact hcm rfl
      | succ i => simp at hd
    | bs k' size ag lo m =>
      simp [cellsOfD] at hc; subst hc
      cases i with
      | zero => simp at hd; subst hd; exact hcm rfl
      | succ i => simp at hd
    | fn f caps =>
      simp [cellsOfD] at hc; subst hc
      cases i with
      | zero => simp at hd; subst hd; exact hcm rfl
      | succ i => simp at hd

theorem splice_get (cur : Array Value) (o0 : Nat) (vs : List Value) (j : Nat) (hl : o0 + vs.length ≤ cur.size) :
    (cur.toList.take o0 ++ vs ++ cur.toList.drop (o0 + vs.length)).toArray[j]? = if o0 ≤ j ∧ j < o0 + vs.length then vs[j - o0]? else cur[j]? := by
  simp only [List.getElem?_toArray, List.append_assoc]
  rw [List.getElem?_append]
  have h1 : (cur.toList.take o0).length = o0 := by simp; omega
  rw [h1]
  by_cases hj : j < o0
  · rw [if_pos hj, if_neg (by omega), List.getElem?_take, if_pos hj]; simp
  · rw [if_neg hj, List.getElem?_append]
    by_cases hj2 : j - o0 < vs.length
    · rw [if_pos hj2, if_pos (by omega)]
    · rw [if_neg hj2, if_neg (by omega), List.getElem?_drop]
      have : o0 + vs.length + (j - o0 - vs.length) = j := by omega
      rw [this]; simp

theorem s_store (h : Rel G X s a) {t : TypeId} {n : Nat} {isA : Bool} (ht : TyIs P t n isA) {x y : Operand} {ox oy : O} (hx : OT x ox) (hy : OT y oy) (ho : o.op = .store t x y) (hdst : o.dst = none)
    (hne : ∀ m, oy = .t m → ox ≠ .t m)
    (hK : semI P (.store n) [ox.val s.t, oy.val s.t] s.b fun v b => K ⟨putD (degr (.store n) [ox, oy] s.t) o.dst v, b⟩) : o.wp P a X.w (Post G K) Q := by
  obtain ⟨_, rx⟩ := h.opnd hx
  obtain ⟨k, sz, r, off, e⟩ : ∃ k sz r off, ox.val s.t = .addr k sz r off := by
    generalize ox.val s.t = vx at *
    rcases vx with _ | _ | _ | _ | ⟨k, sz, r, off⟩ | _ | _ <;> first | exact ⟨_, _, _, _, rfl⟩ | (simp [semI] at hK)
  rw [e] at rx hK
  obtain ⟨blk, hρ, ev⟩ := rx
  simp only [semI] at hK
  cases hbk : getB s.b k with
  | none => simp [hbk] at hK
  | some bx =>
    cases hcs : cellsOfD (oy.val s.t) with
    | none => simp [hbk, hcs] at hK
    | some cs =>
      simp only [hbk, hcs] at hK
      obtain ⟨rfl, hlive, hlen, row, hr, hle, hK⟩ := hK
      obtain ⟨own', hrel, hvs, hval⟩ := storeSrc (n := n) (k := k) (r := r) (off := off) (ox := ox) h hy hcs
      generalize hX1 : ({ X with own := own' } : Cx) = X1 at *
      have eρ : X1.ρ = X.ρ := by subst hX1; rfl
      have ew : X1.w = X.w := by subst hX1; rfl
      obtain ⟨blk', cur, ty, hb⟩ := hrel.cbox (getB_some hbk) (getB_ne hbk)
      have : blk' = blk := by have := hb.ρ; rw [eρ, hρ] at this; injection this with h; exact h.symm
      subst this
      have hw := hb.width row (List.mem_of_getElem? hr)
      have hrl := (List.getElem?_eq_some_iff.1 hr).1
      generalize hvl : (a.eval y).cells.toList = vl at *
      have hvlen : vl.length = n := by rw [← hvl]; simp [hvs, hlen]
      have hget : ∀ (i : Nat), (a.eval y).cells[i]? = vl[i]? := fun i => by rw [← hvl]; simp
      have hfit : r * bx.size + off + vl.length ≤ cur.size := by
        rw [hvlen]
        have := hb.size
        have : (r + 1) * bx.size ≤ bx.rows.length * bx.size := Nat.mul_le_mul_right _ hrl
        rw [Nat.add_mul] at this; omega
      have hone : ∀ v ∈ vl, v.oneCell' = true := by
        intro v hv
        obtain ⟨i, hi⟩ := List.getElem?_of_mem hv
        have hilt := (List.getElem?_eq_some_iff.1 hi).1
        have : i < cs.length := by omega
        exact (hval i cs[i] v (by simp [this]) (by rw [hget]; exact hi)).2
      have hrow := run_storeCells_at P blk' (r * bx.size + off) ty vl 0 cur X1.w hb.heap (by simpa using hfit) hone
      simp only [Nat.add_zero] at hrow
      have hsz : (a.eval y).cells.size = n := by rw [hvs, hlen]
      rw [← ew]
      have run : (execOp a.eval o).run P X1.w = .ok .skip (X1.w.setRow blk' (cur.toList.take (r * bx.size + off) ++ vl ++ cur.toList.drop (r * bx.size + off + vl.length)).toArray) := by
        simp [execOp, ho, ev, Instr.storeAt, Instr.sureAddr, storeVar, ht.run_sizeOf, hsz, hvl, hrow]
      unfold Oper.wp
      rw [run, Oper.upon_skip, hdst]
      have hp : a.put none undef = a := rfl
      rw [hp]
      generalize hnew : (cur.toList.take (r * bx.size + off) ++ vl ++ cur.toList.drop (r * bx.size + off + vl.length)).toArray = new at *
      have hnewget : ∀ j, new[j]? = if r * bx.size + off ≤ j ∧ j < r * bx.size + off + vl.length then vl[j - (r * bx.size + off)]? else cur[j]? := by
        intro j; rw [← hnew]; exact splice_get cur _ vl j hfit
      have hnewsize : new.size = cur.size := by rw [← hnew]; simp; omega
      have hheap : (X1.w.setRow blk' new).heap[blk']? = some (.cells new ty (0, 0)) := setRow_heap _ _ cur new ty (0, 0) hb.heap
      have hlt : blk' < X1.w.heap.size := (Array.getElem?_eq_some_iff.1 hb.heap).1
      have hev : Ev (fun L => L ≠ .box k) X1 { X1 with w := X1.w.setRow blk' new } := by
        refine ⟨fun b i v hM hcv => ?_, fun g L hg hS hgl => ?_, rfl⟩
        · have hbne : b ≠ blk' := fun e => by subst e; exact hM (hb.live hlive i)
          exact ⟨(World.cell?_of_block (w := X1.w) (setRow_other _ _ _ _ hbne)).trans hcv, hM⟩
        · have hgne : g ≠ blk' := fun e => by subst e; rw [hb.own] at hg; injection hg with hg; exact hS hg.symm
          exact ⟨hg, setRow_other _ _ _ _ hgne, fun _ h => h⟩
      refine ⟨_, { X1 with w := X1.w.setRow blk' new }, ?_, rfl, hK⟩
      rw [hdst]
      refine ⟨hrel.defers, hrel.size, ?_, ?_, hrel.below.trans ⟨rfl, rfl, rfl, by simp [World.setRow], fun q hq hx => setRow_other _ _ _ _ (fun e => by subst e; exact hb.hbase.elim (fun h => by have := h.2; omega) (fun h => hx _ (by rw [← hrel.mold.1]; exact h.2)))⟩, by simpa [World.setRow] using hrel.hb, hrel.mold⟩
      · intro i d hd
        exact (hrel.tmps i d hd).mono (fun _ _ _ h => by cases h) hev (by simp) fun _ _ => rfl
      · intro j bx' hj
        rcases setB_get hj with ⟨rfl, rfl⟩ | ⟨hne, hj⟩
        · refine BX.cell (blk := blk') (cs := new) (ty := ty) (show bx.size ≠ 0 from getB_ne hbk) ⟨hb.ρ, hb.own, hb.hbase, hheap, by simpa [setL_length, hnewsize] using hb.size, ?_, ?_, fun _ o => hb.live hlive o, fun hl => by rw [hlive] at hl; cases hl⟩
          · intro row' hrow'
            obtain ⟨q, hq⟩ := List.getElem?_of_mem hrow'
            simp only [getElem?_setL] at hq
            by_cases hqr : q = r
            · subst hqr
              rw [if_pos rfl, hr] at hq
              simp at hq
              subst hq
              rw [storeD_length]; exact hw
            · rw [if_neg hqr] at hq
              exact hb.width row' (List.mem_of_getElem? hq)
          · intro r' o' row' d u hrow' hd hu
            simp only [getElem?_setL] at hrow'
            rw [hnewget] at hu
            dsimp only at hu
            by_cases hqr : r' = r
            · subst hqr
              rw [if_pos rfl, hr] at hrow'
              simp at hrow'
              subst hrow'
              rw [storeD_get] at hd
              by_cases hin : off ≤ o' ∧ o' < off + cs.length ∧ o' < row.length
              · rw [if_pos hin] at hd
                have e0 : r' * bx.size + o' - (r' * bx.size + off) = o' - off := by omega
                rw [if_pos (by omega), e0] at hu
                obtain ⟨f1, f2⟩ := hval (o' - off) d u hd (by rw [hget]; exact hu)
                have e1 : off + (o' - off) = o' := by omega
                rw [e1] at f1
                exact ⟨f1.mono (fun _ _ _ h => by cases h) hev (by simp) fun _ _ => rfl, f2⟩
              · rw [if_neg hin] at hd
                have hol := (List.getElem?_eq_some_iff.1 hd).1
                rw [if_neg (by omega)] at hu
                obtain ⟨f1, f2⟩ := hb.cells r' o' row d u hr hd hu
                exact ⟨f1.mono (fun _ _ _ h => by cases h) hev (by simp) fun _ _ => rfl, f2⟩
            · rw [if_neg hqr] at hrow'
              have hw' := hb.width row' (List.mem_of_getElem? hrow')
              have hol := (List.getElem?_eq_some_iff.1 hd).1
              have hout : ¬ (r * bx.size + off ≤ r' * bx.size + o' ∧ r' * bx.size + o' < r * bx.size + off + vl.length) := by
                rintro ⟨g1, g2⟩
                rcases Nat.lt_or_gt_of_ne hqr with hlt' | hgt'
                · have : (r' + 1) * bx.size ≤ r * bx.size := Nat.mul_le_mul_right _ hlt'
                  rw [Nat.add_mul] at this; omega
                · have : (r + 1) * bx.size ≤ r' * bx.size := Nat.mul_le_mul_right _ hgt'
                  rw [Nat.add_mul] at this; omega
              rw [if_neg hout] at hu
              obtain ⟨f1, f2⟩ := hb.cells r' o' row' d u hrow' hd hu
              exact ⟨f1.mono (fun _ _ _ h => by cases h) hev (by simp) fun _ _ => rfl, f2⟩
        · exact (hrel.boxes j bx' hj).mono (fun _ _ _ h => by cases h) hev (by simp [hne]) (fun _ _ => by simp) rfl fun _ _ _ _ _ _ => rfl
end

end Go.Proofs.YtkjghcbnmipgfaaGreatDoor.Vc
