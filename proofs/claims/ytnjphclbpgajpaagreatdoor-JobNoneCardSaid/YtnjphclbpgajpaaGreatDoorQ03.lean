/- Part of a proof over a Go program: VcCall. No condition. -/
import Derived.Test.YtnjphclbpgajpaaGreatDoorQ02
set_option linter.unnecessarySimpa false
set_option linter.unusedSectionVars false
set_option linter.unusedSimpArgs false
set_option linter.unusedVariables false
namespace Go.Proofs.YtnjphclbpgajpaaGreatDoor.Vc
open Go.RowKit
variable {P : Program}
theorem setsL_length (l : List PV) (o : Nat) (cs : List PV) : (setsL l o cs).length = l.length := by
 induction cs generalizing l o with
 | nil => rfl
 | cons c cs ih => simp [setsL, ih, setL_length]
theorem setsL_get (l : List PV) (o : Nat) (cs : List PV) (i : Nat) : (setsL l o cs)[i]? = if o ≤ i ∧ i < o + cs.length ∧ i < l.length then cs[i - o]? else l[i]? := by
 induction cs generalizing l o with
 | nil => simp [setsL]; intro h1 h2; omega
 | cons c cs ih =>
  rw [setsL, ih, setL_length, getElem?_setL]
  by_cases h1 : i = o
  ·subst h1
   rw [if_neg (by omega), if_pos rfl]
   by_cases hl : i < l.length
   ·rw [if_pos ⟨Nat.le_refl _, by simp, hl⟩]; simp [hl]
   ·rw [if_neg (by omega)]; simp [hl]
  ·by_cases h2 : o + 1 ≤ i ∧ i < o + 1 + cs.length ∧ i < l.length
   ·rw [if_pos h2, if_pos ⟨by omega, by simp; omega, h2.2.2⟩]
    have : i - o = (i - (o + 1)) + 1 := by omega
    rw [this]; simp
   ·rw [if_neg h2, if_neg h1, if_neg (by simp; omega)]
def CellsRel (M : Nat → Nat → Prop) (w : World) (cs : List PV) (vs : Array Value) : Prop :=
 vs.size = cs.length ∧ ∀ (i : Nat) c v, cs[i]? = some c → vs[i]? = some v → Flat M w c v ∧ c.one = true
theorem fill_rel {M : Nat → Nat → Prop} {w : World} {place : Nat → Option (Nat × Nat)} : ∀ (parts : List (Nat × Value)) (offs : List (Nat × Nat)) (ps : List PV) (zero : List PV) (zs : Array Value) (cs : List PV),
  CellsRel M w zero zs → parts.length = offs.length →
  (∀ (k : Nat) (p : Nat × Value) (o : Nat × Nat), parts[k]? = some p → offs[k]? = some o → place p.1 = some o ∧ o.1 + o.2 ≤ zero.length) →
  (∀ (k : Nat) (p : Nat × Value) x, parts[k]? = some p → ps[k]? = some x → Flat M w x p.2) → fillL zero offs ps = some cs →
  ∃ cells, Instr.fill place zs parts = some cells ∧ CellsRel M w cs cells
 | [], [], [], zero, zs, cs, hz, _, _, _, hf => by
  simp [fillL] at hf
  subst hf
  exact ⟨zs, rfl, hz⟩
 | [], [], _ :: _, _, _, _, _, _, _, _, hf => by simp [fillL] at hf
 | [], _ :: _, _, _, _, _, _, hl, _, _, _ => by simp at hl
 | _ :: _, [], _, _, _, _, _, hl, _, _, _ => by simp at hl
 | _ :: _, _ :: _, [], _, _, _, _, _, _, _, hf => by simp [fillL] at hf
 | p :: parts, o :: offs, x :: ps, zero, zs, cs, hz, hl, hpl, hfl, hf => by
  simp only [fillL] at hf
  split at hf
  ·rename_i hlen
   obtain ⟨hp, hb⟩ := hpl 0 p o rfl rfl
   have hx := hfl 0 p x rfl rfl
   obtain ⟨c1, c2⟩ := hx.cells
   obtain ⟨pi, pv⟩ := p
   obtain ⟨oo, os⟩ := o
   simp only at hp hb hlen c1 c2 hf
   have hsz : pv.cells.size = os := by rw [c1, hlen]
   obtain ⟨f1, f2⟩ := Go.Great.foldl_set oo pv.cells.toList 0 zs
   have hz' : CellsRel M w (setsL zero oo (rowCells x)) ((pv.cells.toList.zipIdx 0).foldl (fun cs (x : Value × Nat) => cs.setIfInBounds (oo + x.2) x.1) zs) := by
    refine ⟨by rw [f1, setsL_length, hz.1], fun i c v hc hv => ?_⟩
    rw [setsL_get] at hc
    rw [f2] at hv
    simp only [Nat.add_zero, Array.length_toList, hz.1, c1] at hv
    by_cases hin : oo ≤ i ∧ i < oo + (rowCells x).length ∧ i < zero.length
    ·rw [if_pos hin] at hc hv
     exact c2 _ c v hc (by simpa using hv)
    ·rw [if_neg hin] at hc hv
     exact hz.2 i c v hc hv
   obtain ⟨cells, g1, g2⟩ := fill_rel (place := place) parts offs ps _ _ cs hz' (by simpa using hl) (fun k p o hp ho => by
    have := hpl (k + 1) p o (by simpa using hp) (by simpa using ho)
    rw [setsL_length]; exact this) (fun k p x hp hx => hfl (k + 1) p x (by simpa using hp) (by simpa using hx)) hf
   refine ⟨cells, ?_, g2⟩
   unfold Instr.fill
   rw [hp]
   simp only
   rw [if_neg (by rw [hz.1, hsz]; simp; omega)]
   have e : pv.cells.zipIdx.foldl (fun cs (x : Value × Nat) => match x with | (c, j) => cs.setIfInBounds (oo + j) c) zs = (pv.cells.toList.zipIdx 0).foldl (fun cs (x : Value × Nat) => cs.setIfInBounds (oo + x.2) x.1) zs := by
    rw [← Array.foldl_toList]; simp
   rw [e]; exact g1
  ·cases hf
inductive ZP : PV → Value → Prop
 | int (k : IntKind) (n : Int) : ZP (.int k n) (.int k n)
 | bool (b : Bool) : ZP (.bool b) (.bool b)
 | str (s : ByteArray) : ZP (.str s) (.string s)
 | nil (n : Nat) : ZP (.sl n true []) (.slice none 0 0)
 | atom (v : Value) (h : v.oneCell' = true) : ZP (.atom v) v
theorem ZP.rel {M : Nat → Nat → Prop} {w : World} {c : PV} {v : Value} (h : ZP c v) : Flat M w c v ∧ c.one = true := by
 cases h with
 | int k n => exact ⟨.int k n, rfl⟩
 | bool b => exact ⟨.bool b, rfl⟩
 | str s => exact ⟨.str s, rfl⟩
 | nil n => exact ⟨.nilsl n, rfl⟩
 | atom v h => exact ⟨.atom v h, rfl⟩
theorem run_call {f : FuncId} (h : FnOK P f) (args : Array Value) (w : World) : (callFunc f args).run P w = .ok (.enter f args) w := by
 obtain ⟨fn, h1, h2, h3⟩ := h
 obtain ⟨c, hc⟩ := Option.isSome_iff_exists.1 h2
 simp [callFunc, h1, h3, hc]
section
variable {G : Gl} {X : Cx} {s : St} {a : Act} {Q : Exit → Act → World → Prop} {o : Oper} {K : St → Prop}
theorem s_build (h : Rel G X s a) {t : TypeId} {parts : Array (Nat × Operand)} {os : List O} {zero : List PV} {offs : List (Nat × Nat)} (ho : o.op = .build t parts)
  {fields : Array Field} (hu : P.underlying t = some (.struct fields)) {it : TypeInfo} {z : Value} (hi : P.info? t = some it) (hz : it.zero = some z)
  {places : List (Nat × Nat)} (hpl : fields.toList.mapM (fun f => (P.info? f.type).map fun i => (f.offset, i.size)) = some places)
  (hzs : z.cells.size = zero.length) (hzr : ∀ (i : Nat) c v, zero[i]? = some c → z.cells[i]? = some v → ZP c v)
  (hl : parts.size = offs.length) (hl2 : os.length = parts.size)
  (hoff : ∀ (k : Nat) (p : Nat × Operand) (o : Nat × Nat), parts[k]? = some p → offs[k]? = some o → places[p.1]? = some o ∧ o.1 + o.2 ≤ zero.length)
  (hos : ∀ (k : Nat) (p : Nat × Operand) oo, parts[k]? = some p → os[k]? = some oo → OT p.2 oo)
  (hK : semI P (.build zero offs) (os.map (O.val s.t)) s.b fun v b => K ⟨putD s.t o.dst v, b⟩) : o.wp P a X.w (Post G K) Q := by
 simp only [semI] at hK
 cases hps : pvsOf (os.map (O.val s.t)) with
 | none => simp [hps] at hK
 | some ps =>
  simp only [hps] at hK
  cases hf : fillL zero offs ps with
  | none => simp [hf] at hK
  | some cs =>
   simp only [hf] at hK
   obtain ⟨e1, e2⟩ := pvsOf_get hps
   obtain ⟨cells, g1, g2⟩ := fill_rel (M := X.M) (w := X.w) (place := fun x => places.toArray[x]?) (parts.toList.map fun (i, x) => (i, a.eval x)) offs ps zero z.cells cs ⟨hzs, fun i c v hc hv => (hzr i c v hc hv).rel⟩
    (by simp [hl]) (fun k p o hp ho => by
     rw [List.getElem?_map] at hp
     cases hpk : parts.toList[k]? with
     | none => rw [hpk] at hp; simp at hp
     | some q =>
      rw [hpk] at hp
      simp at hp
      subst hp
      have := hoff k q o (by simpa using hpk) ho
      simpa using this) (fun k p x hp hx => by
     rw [List.getElem?_map] at hp
     cases hpk : parts.toList[k]? with
     | none => rw [hpk] at hp; simp at hp
     | some q =>
      rw [hpk] at hp
      simp at hp
      subst hp
      have hkl : k < os.length := by
       have := (List.getElem?_eq_some_iff.1 hpk).1
       simp at this; omega
      have hok : os[k]? = some os[k] := by simp [hkl]
      obtain ⟨L, hv⟩ := h.opnd (hos k q os[k] (by simpa using hpk) hok)
      exact pv_of hv (e2 k _ x (by rw [List.getElem?_map, hok]; rfl) hx)) hf
   have hb : P.built t (parts.map fun (i, x) => (i, a.eval x)).toList = some cells := by
    unfold Program.built
    simp only [hi, hu, hz, hpl]
    rw [Array.toList_map]
    exact g1
   have run : (execOp a.eval o).run P X.w = .ok (.value (.agg cells)) X.w := by
    simp only [execOp, ho, Sem.run_bind]
    rw [run_build X.w t _ cells hb]; rfl
   refine wp_pv (z := .agg cs) h run (.agg cs cells g2.1 (fun c hc => ?_) fun i c v hc hv => (g2.2 i c v hc hv).1) hK
   obtain ⟨i, hi⟩ := List.getElem?_of_mem hc
   have hlt : i < cells.size := by rw [g2.1]; exact (List.getElem?_eq_some_iff.1 hi).1
   exact (g2.2 i c cells[i] hi (by simp [hlt])).2
theorem s_mkfn (h : Rel G X s a) {f : FuncId} {caps : Array Operand} {os : List O} (ho : o.op = .makeFunc (.func f) #[] caps) (hl : os.length = caps.size)
  (hos : ∀ (k : Nat) x oo, caps.toList[k]? = some x → os[k]? = some oo → OT x oo)
  (hK : semI P (.mkfn f) (os.map (O.val s.t)) s.b fun v b => K ⟨putD s.t o.dst v, b⟩) : o.wp P a X.w (Post G K) Q := by
 simp only [semI] at hK
 cases hf : frzs s.b (os.map (O.val s.t)) with
 | none => simp [hf] at hK
 | some xs =>
  simp only [hf] at hK
  obtain ⟨e1, e2⟩ := frzsGet h (xs := caps.toList) (by simpa using hl) hos hf
  refine wp_pv (z := .fn f xs) (u := .func (.func f) #[] (caps.map a.eval)) h ?_ (.fn f xs _ (by simp at e1 ⊢; omega) fun i c v hc hv => ?_) hK
  ·simp [execOp, ho, Instr.makeFunc]
  ·rw [Array.getElem?_map] at hv
   cases hk : caps[i]? with
   | none => rw [hk] at hv; simp at hv
   | some x => rw [hk] at hv; simp at hv; subst hv; exact e2 i x c (by simpa using hk) hc
def Cx.back (X X1 : Cx) (d : Nat) : Cx :=
 {ρ := X.ρ
  own := fun g => if g < X.w.heap.size then X.own g else (X1.own g).map (toSlot 0 d)
  M := fun b o => if b < X.w.heap.size then X.M b o else X1.M b o
  w := X1.w
  ex := X.ex }
theorem after_call (h : Rel G X s a) {X1 : Cx} (hM : ∀ b, b < X.w.heap.size → ∀ o, X1.M b o ↔ X.M b o) (hb : Below X.w.heap.size X.w X1.w) (d : Nat) {r : DV} {v : Value}
  (hr : r.plain = true) (hv : VRel X1 X.w.heap.size (.tmp 0) r v) : Rel G (X.back X1 d) s a ∧ VRel (X.back X1 d) G.base (.tmp d) r v := by
 have hev : Ev (fun _ => True) X (X.back X1 d) := by
  refine ⟨fun b o u hMb hc => ?_, fun g L hg _ hlt => ⟨?_, hb.block g hlt, fun o hMo => ?_⟩, rfl, .below hb.block⟩
  ·have hlt : b < X.w.heap.size := World.block_lt_of_cell? _ _ hc
   refine ⟨(World.cell?_of_block (w := X.w) (hb.block b hlt)).trans hc, ?_⟩
   show ¬ (if b < X.w.heap.size then X.M b o else X1.M b o)
   rw [if_pos hlt]; exact hMb
  ·show (if g < X.w.heap.size then X.own g else _) = _
   rw [if_pos hlt]; exact hg
  ·show (if g < X.w.heap.size then X.M g o else _)
   rw [if_pos hlt]; exact hMo
 have hkeep : Keeps X1.M X1.w (X.back X1 d).M (X.back X1 d).w := by
  intro b o u hMb hc
  refine ⟨hc, ?_⟩
  show ¬ (if b < X.w.heap.size then X.M b o else X1.M b o)
  split
  ·rename_i hlt; rw [← hM b hlt o]; exact hMb
  ·exact hMb
 refine ⟨h.change (fun _ => True) (fun _ _ h => h) hev (fun i d' hd => .inl ⟨trivial, fun _ _ => rfl⟩) (fun k bx hk => .inl ⟨trivial, fun _ _ => trivial, rfl, fun _ _ _ _ _ _ => rfl⟩) (hb.mono h.hb) (fun b hlt o => ?_), ?_⟩
 ·have := h.hb
  show (if b < X.w.heap.size then X.M b o else _) ↔ _
  rw [if_pos (by omega)]
 ·have own : ∀ {L : Loc} {size : Nat} {nl : Bool} {rows : List PV} {u : Value}, OwRel X1 X.w.heap.size L size nl rows u → OwRel (X.back X1 d) G.base (toSlot 0 d L) size nl rows u := by
   intro L size nl rows u ho
   rcases ho with ho | ⟨h0, g, cap, cur, ty, g0, g1, g2, g3, g4, g5, g6⟩
   ·exact .inl ho
   ·refine .inr ⟨h0, g, cap, cur, ty, g0, ?_, Nat.le_trans h.hb g2, g3, g4, g5.mono hkeep, fun o ho => ?_⟩
    ·show (if g < X.w.heap.size then X.own g else (X1.own g).map _) = _
     rw [if_neg (by omega), g1]; rfl
    ·show (if g < X.w.heap.size then X.M g o else X1.M g o)
     rw [if_neg (by omega)]; exact g6 o ho
  cases r with
  | p x => exact Flat.mono hkeep hv
  | ow size nl rows => exact own hv
  | tup ds =>
   obtain ⟨vs, e1, e2, e3⟩ := hv
   refine ⟨vs, e1, e2, fun j d' u hd hu => ?_⟩
   have := e3 j d' u hd hu
   cases d' with
   | p x => exact Flat.mono hkeep this
   | ow size nl rows => exact own this
  | _ => simp [DV.plain] at hr
theorem wp_pure (h : Rel G X s a) {f : FuncId} {args : List PV} {r : DV} (hp : PureCall P f args r) {cargs : Array Value} (hl : cargs.size = args.length)
  (hc : ∀ (j : Nat) x v, args[j]? = some x → cargs[j]? = some v → Flat X.M X.w x v) (run : (execOp a.eval o).run P X.w = (callFunc f cargs).run P X.w) (hK : K ⟨putD s.t o.dst r, s.b⟩) : o.wp P a X.w (Post G K) Q := by
 rcases hp.2 X.M X.w cargs hl hc with ⟨hf, hcall⟩ | ⟨v, X1, hcall, hv, hM, hb⟩
 ·unfold Oper.wp
  rw [run, run_call hf, Oper.upon_enter]
  refine hcall.mono fun e w' ⟨v, X1, he, hw, hv, hM, hb⟩ => ?_
  subst he
  subst hw
  obtain ⟨h1, h2⟩ := after_call h hM hb (o.dst.getD 0) hp.1 hv
  exact ⟨_, _, h1.put (d := o.dst) (fun j hj => by have e : o.dst.getD 0 = j := by rw [hj]; rfl
                                                   rw [e] at h2 ⊢; exact h2), rfl, hK⟩
 ·unfold Oper.wp
  rw [run, hcall, Oper.upon_value]
  obtain ⟨h1, h2⟩ := after_call h hM hb (o.dst.getD 0) hp.1 hv
  exact ⟨_, _, h1.put (d := o.dst) (fun j hj => by have e : o.dst.getD 0 = j := by rw [hj]; rfl
                                                   rw [e] at h2 ⊢; exact h2), rfl, hK⟩
theorem s_call (h : Rel G X s a) {f : FuncId} {xs : Array Operand} {ts : Array TypeId} {os : List O} (ho : o.op = .call { callee := .value (.func f), args := xs, argTypes := ts })
  (hl : os.length = xs.size) (hos : ∀ (k : Nat) x oo, xs.toList[k]? = some x → os[k]? = some oo → OT x oo)
  (hK : semI P (.call f) (os.map (O.val s.t)) s.b fun v b => K ⟨putD s.t o.dst v, b⟩) : o.wp P a X.w (Post G K) Q := by
 simp only [semI] at hK
 cases hfz : frzs s.b (os.map (O.val s.t)) with
 | none => simp [hfz] at hK
 | some args =>
  simp only [hfz] at hK
  obtain ⟨r, hp, hK⟩ := hK
  obtain ⟨e1, e2⟩ := frzsGet h (xs := xs.toList) (by simpa using hl) hos hfz
  refine wp_pure h hp (cargs := xs.map a.eval) (by simp at e1 ⊢; omega) (fun j x v hx hv => ?_) ?_ hK
  ·rw [Array.getElem?_map] at hv
   cases hk : xs[j]? with
   | none => rw [hk] at hv; simp at hv
   | some y => rw [hk] at hv; simp at hv; subst hv; exact e2 j y x (by simpa using hk) hx
  ·simp [execOp, ho, resolve, Deferred.ofValue, invoke, Act.eval]
theorem s_callv (h : Rel G X s a) {x : Operand} {ox : O} (hx : OT x ox) {xs : Array Operand} {ts : Array TypeId} {os : List O} (ho : o.op = .call { callee := .value x, args := xs, argTypes := ts })
  (hl : os.length = xs.size) (hos : ∀ (k : Nat) x oo, xs.toList[k]? = some x → os[k]? = some oo → OT x oo)
  (hK : semI P .callv (ox.val s.t :: os.map (O.val s.t)) s.b fun v b => K ⟨putD s.t o.dst v, b⟩) : o.wp P a X.w (Post G K) Q := by
 obtain ⟨L, rx⟩ := h.opnd hx
 simp only [semI] at hK
 generalize hfx : (ox.val s.t).frz s.b = fx at *
 cases hfz : frzs s.b (os.map (O.val s.t)) with
 | none => rw [hfz] at hK; cases fx with
  | none => simp at hK
  | some y => cases y <;> simp at hK
 | some args =>
  rw [hfz] at hK
  match fx, hK with
  | some (.fn f caps), hK =>
   obtain ⟨r, hp, hK⟩ := hK
   obtain ⟨e1, e2⟩ := frzsGet h (xs := xs.toList) (by simpa using hl) hos hfz
   have hfl := frz h rx hfx
   generalize hvx : a.eval x = vx at *
   cases hfl with
   | fn _ _ vs hvl hh =>
    refine wp_pure h hp (cargs := xs.map a.eval ++ vs) (by simp at e1 ⊢; omega) (fun j y v hy hv => ?_) ?_ hK
    ·rw [List.getElem?_append] at hy
     rw [Array.getElem?_append] at hv
     simp only [Array.size_map] at hv
     by_cases hj : j < args.length
     ·rw [if_pos hj] at hy
      rw [if_pos (by simp at e1; omega), Array.getElem?_map] at hv
      cases hk : xs[j]? with
      | none => rw [hk] at hv; simp at hv
      | some q => rw [hk] at hv; simp at hv; subst hv; exact e2 j q y (by simpa using hk) hy
     ·rw [if_neg hj] at hy
      rw [if_neg (by simp at e1; omega)] at hv
      simp at e1
      rw [e1] at hy
      exact hh _ y v hy hv
    ·simp [execOp, ho, resolve, hvx, Deferred.ofValue, invoke]
end
end Go.Proofs.YtnjphclbpgajpaaGreatDoor.Vc
