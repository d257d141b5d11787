/- Part of a proof over a Go program: VcFn, VcOfn, VcComp, VcEv. No condition. -/
import Derived.Test.YtnjphclbpgajpaaGreatDoorQ09
import Derived.Test.YtnjphclbpgajpaaGreatDoorQ05
set_option linter.unnecessarySimpa false
set_option linter.unusedSectionVars false
set_option linter.unusedSimpArgs false
set_option linter.unusedVariables false
namespace Go.Proofs.YtnjphclbpgajpaaGreatDoor.Vc
open Go.RowKit
variable {P : Program}
inductive RV where
 | tmp (t : Nat)
 | cell (t n : Nat)
def dvT (b : List (Option Box)) (K : TV → Prop) : DV → Prop
 | .p x => K (.p x)
 | .ow size n rows => K (.ow size n rows)
 | d => match d.frz b with
  | some x => K (.p x)
  | none => False
def ret1 (s : St) (K : TV → Prop) : RV → Prop
 | .tmp t => dvT s.b K (getT s.t t)
 | .cell t n => match getT s.t t with
  | .addr k sz r off => match getB s.b k with
   | some bx => sz = bx.size ∧ ∃ row, bx.rows[r]? = some row ∧ off + n ≤ row.length ∧ match pvsOf (takeD row off n) with
    | some cs => K (.p (.agg cs))
    | none => False
   | none => False
  | _ => False
def rets (s : St) : List RV → (List TV → Prop) → Prop
 | [], K => K []
 | r :: rs, K => ret1 s (fun x => rets s rs fun xs => K (x :: xs)) r
def resOf : List TV → DV
 | [x] => x.dv
 | xs => .tup xs
def St0 (n nb : Nat) (args : List PV) : St := ⟨args.map .p ++ List.replicate (n - args.length) .top, List.replicate nb none⟩
inductive RVs (P : Program) : List ResultVar → List RV → Prop
 | nil : RVs P [] []
 | tmp (t : Nat) (rs : List ResultVar) (l : List RV) (h : RVs P rs l) : RVs P (.tmp t :: rs) (.tmp t :: l)
 | cell (t n : Nat) (ty : TypeId) (rs : List ResultVar) (l : List RV) (ht : TyIs P ty n true) (h : RVs P rs l) : RVs P (.cell t ty :: rs) (.cell t n :: l)
def locOf : RV → Loc
 | .tmp t => .tmp t
 | .cell t _ => .comp (.tmp t) 0
theorem box_agg {G : Gl} {X : Cx} {s : St} {a : Act} (h : Rel G X s a) {t : TypeId} {n : Nat} (ht : TyIs P t n true) {v : Value} {k sz r off : Nat} {L0 : Loc} (rx : VRel X G.base L0 (.addr k sz r off) v)
  {bx : Box} (hbk : getB s.b k = some bx) (hsz : sz = bx.size) {row : List DV} (hr : bx.rows[r]? = some row) (hle : off + n ≤ row.length) {xs : List PV} (hp : pvsOf (takeD row off n) = some xs) :
  ∃ u, (do loadVar t (← asAddr v) : Sem Value).run P X.w = .ok u X.w ∧ Flat X.M X.w (.agg xs) u := by
 obtain ⟨blk, hρ, ev⟩ := rx
 subst hsz
 have hbk' := getB_some hbk
 obtain ⟨blk', cs, ty, hb⟩ := h.cbox hbk' (getB_ne hbk)
 have : blk' = blk := by have := hb.ρ; rw [hρ] at this; injection this with h; exact h.symm
 subst this
 obtain ⟨e1, e2⟩ := pvsOf_get hp
 have hcell : ∀ j, j < n → ∃ u, X.w.cell? ⟨blk', r * bx.size + off + j, none⟩ = some u ∧ VRel X G.base (.cell k r (off + j)) (row[off + j]?.getD .top) u ∧ u.oneCell' = true := by
  intro j hj
  obtain ⟨u, _, h2, h3, h4⟩ := hb.cell hr (i := off + j) (by omega)
  refine ⟨u, by rw [Nat.add_assoc]; exact h2, ?_, h4⟩
  rw [List.getElem?_eq_getElem (by omega)]
  exact h3
 have hf : ∃ f : Nat → Value, ∀ j, j < n → X.w.cell? ⟨blk', r * bx.size + off + j, none⟩ = some (f j) ∧ VRel X G.base (.cell k r (off + j)) (row[off + j]?.getD .top) (f j) ∧ (f j).oneCell' = true := by
  refine ⟨fun j => if hj : j < n then (hcell j hj).choose else undef, fun j hj => ?_⟩
  simp only [dif_pos hj]
  exact (hcell j hj).choose_spec
 obtain ⟨f, hf⟩ := hf
 have hlen : xs.length = n := by rw [e1, takeD_eq]; simp; omega
 have hcs : ∀ (i : Nat) c, xs[i]? = some c → i < n ∧ Flat X.M X.w c (f i) ∧ c.one = true := by
  intro i c hc
  have hin : i < n := by rw [← hlen]; exact (List.getElem?_eq_some_iff.1 hc).1
  have hd : (takeD row off n)[i]? = some (row[off + i]?.getD .top) := by
   rw [takeD_eq, List.getElem?_take, if_pos hin, List.getElem?_drop, List.getElem?_eq_getElem (by omega)]; rfl
  have hpv := e2 i _ c hd hc
  have := pv_of (hf i hin).2.1 hpv
  exact ⟨hin, this, this.one_of_cell (hf i hin).2.2⟩
 have run := run_loadCells (P := P) X.w ⟨blk', r * bx.size + off, none⟩ n f (fun j hj => by rw [Addr.add_lit]; exact (hf j hj).1)
 refine ⟨.agg ((List.range n).map f).toArray, ?_, .agg _ _ (by simp [hlen]) ?_ ?_⟩
 ·subst ev
  simp [asAddr, loadVar, ht.run_isAgg, ht.run_sizeOf, run]
 ·intro c hc
  obtain ⟨i, hi⟩ := List.getElem?_of_mem hc
  exact (hcs i c hi).2.2
 ·intro i c u hc hu
  obtain ⟨hin, h1, _⟩ := hcs i c hc
  have : u = f i := by simpa [hin, eq_comm] using hu
  subst this
  exact h1
theorem rets_ok {G : Gl} {X : Cx} {s : St} {a : Act} (h : Rel G X s a) {rs : List ResultVar} {l : List RV} (hr : RVs P rs l) : ∀ {K : List TV → Prop}, rets s l K →
  ∃ xs : List TV, ∃ vs : List Value, K xs ∧ xs.length = l.length ∧ vs.length = l.length ∧
   (∀ f : ResultVar → Sem Value, (∀ u, f (.tmp u) = pure (a.tmps.getD u undef)) → (∀ p t, f (.cell p t) = (do loadVar t (← asAddr (a.tmps.getD p undef)))) → (rs.mapM f).run P X.w = .ok vs X.w) ∧
   ∀ (j : Nat) d u rv, xs[j]? = some d → vs[j]? = some u → l[j]? = some rv → TRel X G.base (locOf rv) d u := by
 induction hr with
 | nil => exact fun {K} hK => ⟨[], [], hK, rfl, rfl, fun f _ _ => by simp, fun j d u rv hd => by simp at hd⟩
 | tmp t rs l _ ih =>
  intro K hK
  simp only [rets, ret1] at hK
  obtain ⟨hv⟩ : Nonempty (VRel X G.base (.tmp t) (getT s.t t) (a.tmps.getD t undef)) := ⟨h.get t⟩
  have key : ∃ d : TV, TRel X G.base (.tmp t) d (a.tmps.getD t undef) ∧ rets s l (fun xs => K (d :: xs)) := by
   generalize hg : getT s.t t = dv at *
   have other : ∀ {dv : DV}, VRel X G.base (.tmp t) dv (a.tmps.getD t undef) → (match dv.frz s.b with | some x => rets s l (fun xs => K (.p x :: xs)) | none => False) → ∃ d : TV, TRel X G.base (.tmp t) d (a.tmps.getD t undef) ∧ rets s l (fun xs => K (d :: xs)) := by
    intro dv hv hm
    cases hf : dv.frz s.b with
    | none => rw [hf] at hm; exact hm.elim
    | some x => rw [hf] at hm; exact ⟨.p x, frz h hv hf, hm⟩
   cases dv with
   | p x => exact ⟨.p x, hv, hK⟩
   | ow size n rows => exact ⟨.ow size n rows, hv, hK⟩
   | top => exact other hv hK
   | tup ds => exact other hv hK
   | addr k size r off => exact other hv hK
   | bs k size ag lo n => exact other hv hK
   | mh k => exact other hv hK
   | ob T => exact other hv hK
   | pk o => exact other hv hK
   | agd cs => exact other hv hK
   | fn f caps => exact other hv hK
  obtain ⟨d, hd, hK⟩ := key
  obtain ⟨xs, vs, k1, k2, k3, k4, k5⟩ := ih hK
  refine ⟨d :: xs, a.tmps.getD t undef :: vs, k1, by simp [k2], by simp [k3], fun f h1 h2 => by simp [List.mapM_cons, h1, k4 f h1 h2], fun j e u rv he hu hrv => ?_⟩
  cases j with
  | zero => simp only [List.getElem?_cons_zero, Option.some.injEq] at he hu hrv; subst he; subst hu; subst hrv; exact hd
  | succ j => exact k5 j e u rv (by simpa using he) (by simpa using hu) (by simpa using hrv)
 | cell t n ty rs l ht _ ih =>
  intro K hK
  simp only [rets, ret1] at hK
  have hv := h.get t
  generalize hg : getT s.t t = dv at *
  cases dv with
  | addr k sz r off =>
   simp only at hK
   cases hbk : getB s.b k with
   | none => simp [hbk] at hK
   | some bx =>
    simp only [hbk] at hK
    obtain ⟨hsz, row, hrow, hle, hK⟩ := hK
    cases hp : pvsOf (takeD row off n) with
    | none => simp [hp] at hK
    | some cs =>
     simp only [hp] at hK
     obtain ⟨u, e1, e2⟩ := box_agg h ht hv hbk hsz hrow hle hp
     obtain ⟨xs, vs, k1, k2, k3, k4, k5⟩ := ih hK
     refine ⟨.p (.agg cs) :: xs, u :: vs, k1, by simp [k2], by simp [k3], fun f h1 h2 => ?_, fun j e v rv he hu hrv => ?_⟩
     ·rw [List.mapM_cons, h2, Sem.run_bind, e1]
      simp [k4 f h1 h2]
     ·cases j with
      | zero => simp at he hu hrv; subst he; subst hu; subst hrv; exact e2
      | succ j => exact k5 j e v rv (by simpa using he) (by simpa using hu) (by simpa using hrv)
  | _ => exact hK.elim
def handOver (ls : List Loc) (X : Cx) : Cx :=
 {X with own := fun g => match X.own g with
   | some L => (ls.idxOf? L).map fun j => if ls.length = 1 then .tmp 0 else .comp (.tmp 0) j
   | none => none }
theorem idxOf?_get {ls : List Loc} (hn : ls.Nodup) {j : Nat} {L : Loc} (h : ls[j]? = some L) : ls.idxOf? L = some j := by
 induction ls generalizing j with
 | nil => simp at h
 | cons x xs ih =>
  rw [List.nodup_cons] at hn
  cases j with
  | zero => simp at h; subst h; simp [List.idxOf?_cons]
  | succ j =>
   simp at h
   have hx : x ≠ L := by intro e; subst e; exact hn.1 (List.mem_of_getElem? h)
   simp [List.idxOf?_cons, hx, ih hn.2 h]
theorem TRel.handOver {X : Cx} {base : Nat} {ls : List Loc} (hn : ls.Nodup) {j : Nat} {L : Loc} (hj : ls[j]? = some L) {d : TV} {v : Value} (h : TRel X base L d v) :
  TRel (Vc.handOver ls X) base (if ls.length = 1 then .tmp 0 else .comp (.tmp 0) j) d v := by
 cases d with
 | p x => exact h
 | ow size n rows =>
  rcases h with h | ⟨h0, g, cap, cur, ty, g0, g1, g2, g3, g4, g5, g6⟩
  ·exact .inl h
  ·refine .inr ⟨h0, g, cap, cur, ty, g0, ?_, g2, g3, g4, g5, g6⟩
   show (match X.own g with | some L => _ | none => none) = _
   rw [g1]
   simp only
   rw [idxOf?_get hn hj]; rfl
theorem dv_rel {X : Cx} {base : Nat} {L : Loc} {d : TV} {v : Value} (h : TRel X base L d v) : VRel X base L d.dv v := by cases d <;> exact h
theorem args_get {n : Nat} (args : Array Value) (i : Nat) : (args ++ Array.replicate (n - args.size) undef).getD i undef = if h : i < args.size then args[i] else undef := by
 by_cases h : i < args.size
 ·rw [dif_pos h]; simp [Array.getD, Array.getElem_append, h]; omega
 ·rw [dif_neg h]
  simp [Array.getD, Array.getElem_append, h]
theorem pure_of_vc {f : FuncId} {fn : Func} {code : Code} {c : C} {nb : Nat} {args : List PV} {r : DV} {rvs : List RV} (hf : P.funcs[f]? = some fn) (hb : fn.body = some code) (hn : fn.name ≠ "runtime.NumGoroutine")
  (ht : TrC P c code) (hr : RVs P fn.results.toList rvs) (hnd : (rvs.map locOf).Nodup) (hrp : r.plain = true)
  (hv : vc P c (St0 fn.ntmps nb args) (fun s => rets s rvs fun xs => resOf xs = r) (fun _ _ => False) (fun s => rets s rvs fun xs => resOf xs = r)) : PureCall P f args r := by
 refine ⟨hrp, fun M0 w cargs hl hc => .inl ⟨⟨fn, hf, by rw [hb]; rfl, hn⟩, ?_⟩⟩
 ·refine calls_of_wp hf hb ?_
  generalize hX : ({ ρ := fun _ => none, own := fun _ => none, M := M0, w := w, ex := fun _ => none } : Cx) = X
  have hrel : Rel ⟨w.heap.size, M0, w, fun _ => none⟩ X (St0 fn.ntmps nb args) { tmps := cargs ++ Array.replicate (fn.ntmps - cargs.size) undef, defers := [] } := by
   subst hX
   refine ⟨rfl, ?_, fun i d hd => ?_, fun k bx hk => ?_, BelowX.refl _ _ _, Nat.le_refl _, rfl, fun b _ _ o => Iff.rfl⟩
   ·simp [St0, hl]
   ·simp only [args_get]
    simp only [St0] at hd
    rw [List.getElem?_append] at hd
    simp only [List.length_map] at hd
    by_cases hi : i < args.length
    ·rw [if_pos hi, List.getElem?_map] at hd
     rw [dif_pos (by omega)]
     cases hx : args[i]? with
     | none => rw [hx] at hd; simp at hd
     | some x =>
      rw [hx] at hd
      simp at hd
      subst hd
      exact hc i x _ hx (by simp [hl, hi])
    ·rw [if_neg hi] at hd
     have := List.mem_of_getElem? hd
     simp at this
     rw [this.2]; trivial
   ·simp only [St0] at hk
    have := List.mem_of_getElem? hk
    simp at this
  have fin : ∀ a w', Post ⟨w.heap.size, M0, w, fun _ => none⟩ (fun s => rets s rvs fun xs => resOf xs = r) a w' → bodyPost P fn (fun e w' => ∃ v X, e = .returned v ∧ X.w = w' ∧ VRel X w.heap.size (.tmp 0) r v ∧ (∀ b, b < w.heap.size → ∀ o, X.M b o ↔ M0 b o) ∧ Below w.heap.size w w') .ret a w' := by
   intro a w' ⟨s, X', h', e', hK⟩
   subst e'
   obtain ⟨xs, vs, k1, k2, k3, k4, k5⟩ := rets_ok h' hr hK
   subst k1
   have hres : (results fn a.tmps).run P X'.w = .ok (if h : vs.toArray.size = 1 then vs.toArray[0] else .tuple vs.toArray) X'.w := by
    unfold results
    rw [← Array.toArray_toList (xs := fn.results), List.mapM_toArray]
    simp only [Sem.run_bind, Sem.run_map]
    rw [k4 _ (fun _ => rfl) (fun _ _ => rfl)]
    rfl
   refine ⟨h'.defers, _, hres, _, handOver (rvs.map locOf) X', rfl, rfl, ?_, fun b hb o => h'.mold.2 b hb (fun _ h => by cases h) o, h'.below.below fun _ => rfl⟩
   have hloc : ∀ (j : Nat) d u, xs[j]? = some d → vs[j]? = some u → TRel (handOver (rvs.map locOf) X') w.heap.size (if (rvs.map locOf).length = 1 then .tmp 0 else .comp (.tmp 0) j) d u := by
    intro j d u hd hu
    have hj : j < rvs.length := by rw [← k2]; exact (List.getElem?_eq_some_iff.1 hd).1
    have hrv : rvs[j]? = some rvs[j] := by simp [hj]
    exact TRel.handOver hnd (j := j) (by rw [List.getElem?_map, hrv]; rfl) (k5 j d u _ hd hu hrv)
   match xs, vs, k2, k3, hloc with
   | [x], [v], k2, k3, hloc =>
    have := hloc 0 x v rfl rfl
    simp at k2
    rw [if_pos (by simp [← k2])] at this
    exact dv_rel this
   | [], [], k2, k3, hloc => exact ⟨#[], by simp, by simp, fun j d u hd => by simp at hd⟩
   | x :: y :: xs, vs, k2, k3, hloc =>
    have hvl : vs.length = xs.length + 2 := by rw [k3, ← k2]; rfl
    refine ⟨vs.toArray, by simp [hvl], by simp [hvl], fun j d u hd hu => ?_⟩
    have := hloc j d u hd (by simpa using hu)
    rw [if_neg (by simp [← k2])] at this
    exact this
   | [x], [], k2, k3, _ => simp at k2 k3; omega
   | [x], _ :: _ :: _, k2, k3, _ => simp at k2 k3; omega
   | [], _ :: _, k2, k3, _ => simp at k2 k3; omega
  have e0 : X.w = w := by subst hX; rfl
  have hwp := vc_ok ht hrel hv
  rw [e0] at hwp
  refine wp_mono hwp fun e a w' hq => ?_
  cases e with
  | normal => exact fin a w' hq
  | ret => exact fin a w' hq
  | exit j => obtain ⟨_, _, _, _, h⟩ := hq; exact h.elim
  | _ => exact hq.elim
def renD (nb : Nat) : DV → DV
 | .bs _ sz ag lo n => .bs nb sz ag lo n
 | .addr _ sz r o => .addr nb sz r o
 | d => d
def St1 (n nb : Nat) (args : List DV) (size : Nat) (rows : List (List DV)) : St :=
 ⟨args.map (renD nb) ++ List.replicate (n - args.length) .top, List.replicate nb none ++ [some ⟨true, size, rows, true⟩]⟩
def DV.arg : DV → Bool
 | .p _ => true
 | .bs k _ _ _ _ | .addr k _ _ _ => k == 0
 | _ => false
theorem mcall_of_vc {f : FuncId} {fn : Func} {code : Code} {c : C} {nb size : Nat} {args : List DV} {rows rows' : List (List DV)} {r : DV} {rvs : List RV} (hf : P.funcs[f]? = some fn) (hb : fn.body = some code) (hn : fn.name ≠ "runtime.NumGoroutine")
  (ht : TrC P c code) (hr : RVs P fn.results.toList rvs) (hnd : (rvs.map locOf).Nodup) (hrp : r.plain = true) (hrows : allPR rows = true) (hrows' : allPR rows' = true) (hargs : args.all DV.arg = true) (hsz0 : size ≠ 0)
  (hv : vc P c (St1 fn.ntmps nb args size rows) (fun s => getB s.b nb = some ⟨true, size, rows', true⟩ ∧ rets s rvs fun xs => resOf xs = r) (fun _ _ => False) (fun s => getB s.b nb = some ⟨true, size, rows', true⟩ ∧ rets s rvs fun xs => resOf xs = r)) : MCall P f size args rows rows' r := by
 refine ⟨⟨fn, hf, by rw [hb]; rfl, hn⟩, hrp, hrows', fun M0 w cargs blk cs ty hl hbx hc => ?_⟩
 ·refine calls_of_wp hf hb ?_
  have hlt : blk < w.heap.size := (Array.getElem?_eq_some_iff.1 hbx.heap).1
  generalize hX : ({ ρ := fun i => if i = nb then some blk else none, own := fun g => if g = blk then some (.box nb) else none, M := M0, w := w, ex := fun i => if i = nb then some blk else none } : Cx) = X
  have hXM : X.M = M0 := by subst hX; rfl
  have hXw : X.w = w := by subst hX; rfl
  have hXρ : X.ρ nb = some blk := by subst hX; simp
  have hpv : ∀ {L : Loc} {x : PV} {v : Value}, VRel (mcx M0 w blk) w.heap.size L (.p x) v → Flat M0 w x v := fun h => h
  have hrel : Rel ⟨w.heap.size, M0, w, fun i => if i = nb then some blk else none⟩ X (St1 fn.ntmps nb args size rows) { tmps := cargs ++ Array.replicate (fn.ntmps - cargs.size) undef, defers := [] } := by
   refine ⟨rfl, ?_, fun i d hd => ?_, fun k bx hk => ?_, by rw [hXw]; exact BelowX.refl _ _ _, by rw [hXw]; exact Nat.le_refl _, by subst hX; rfl, fun b _ _ o => by rw [hXM]⟩
   ·simp [St1, hl]
   ·simp only [args_get]
    simp only [St1] at hd
    rw [List.getElem?_append] at hd
    simp only [List.length_map] at hd
    by_cases hi : i < args.length
    ·rw [if_pos hi, List.getElem?_map] at hd
     rw [dif_pos (by omega)]
     cases hx : args[i]? with
     | none => rw [hx] at hd; simp at hd
     | some x =>
      rw [hx] at hd
      simp only [Option.map_some, Option.some.injEq] at hd
      subst hd
      have hv := hc i x cargs[i] hx (by simp [hl, hi])
      have ha := List.all_eq_true.1 hargs x (List.mem_of_getElem? hx)
      cases x with
      | p x => show Flat X.M X.w x _; rw [hXM, hXw]; exact hv
      | bs k sz ag lo n =>
       obtain ⟨b, cap, e1, e2, e3, e5, e4⟩ := hv
       simp only [DV.arg, beq_iff_eq] at ha
       subst ha
       simp only [mcx, if_pos, Option.some.injEq] at e1
       exact ⟨b, cap, by rw [hXρ, e1], e2, e3, by rw [hXw]; exact e5, e4⟩
      | addr k sz r o =>
       obtain ⟨b, e1, e2⟩ := hv
       simp only [DV.arg, beq_iff_eq] at ha
       subst ha
       simp only [mcx, if_pos, Option.some.injEq] at e1
       exact ⟨b, by rw [hXρ, e1], e2⟩
      | _ => simp [DV.arg] at ha
    ·rw [if_neg hi] at hd
     have := List.mem_of_getElem? hd
     simp at this
     rw [this.2]; trivial
   ·simp only [St1] at hk
    rw [List.getElem?_append] at hk
    split at hk
    ·have := List.mem_of_getElem? hk
     simp at this
    ·rename_i hk'
     simp only [List.length_replicate] at hk hk'
     have hk0 : k = nb := by
      have := (List.getElem?_eq_some_iff.1 hk).1
      simp at this; omega
     subst hk0
     simp only [Nat.sub_self, List.getElem?_cons_zero, Option.some.injEq] at hk
     subst hk
     refine BX.cell (blk := blk) (cs := cs) (ty := ty) hsz0 ⟨hXρ, by subst hX; simp, ⟨.inr ⟨k, by subst hX; simp⟩, fun _ => by subst hX; simp⟩, by rw [hXw]; exact hbx.heap, hbx.size, hbx.width, fun r o row d u h1 h2 h3 => ?_, fun _ o => by rw [hXM]; exact hbx.live rfl o, fun h => by cases h⟩
     obtain ⟨f1, f2⟩ := hbx.cells r o row d u h1 h2 h3
     have hdp := allP_get (allPR_get hrows (List.mem_of_getElem? h1)) (List.mem_of_getElem? h2)
     cases d with
     | p x => exact ⟨by show Flat X.M X.w x u; rw [hXM, hXw]; exact f1, f2⟩
     | _ => simp [DV.isP] at hdp
  have fin : ∀ a w', Post ⟨w.heap.size, M0, w, fun i => if i = nb then some blk else none⟩ (fun s => getB s.b nb = some ⟨true, size, rows', true⟩ ∧ rets s rvs fun xs => resOf xs = r) a w' → bodyPost P fn (fun e w' => ∃ v X cs' ty', e = .returned v ∧ X.w = w' ∧ VRel X w.heap.size (.tmp 0) r v ∧ BoxRel X w.heap.size 0 ⟨true, size, rows', true⟩ blk cs' ty' ∧
    (∀ b, b < w.heap.size → b ≠ blk → ∀ o, X.M b o ↔ M0 b o) ∧ BelowX (fun i => if i = 0 then some blk else none) w.heap.size w w') .ret a w' := by
   intro a w' ⟨s, X', h', e', hbx', hK⟩
   subst e'
   obtain ⟨xs, vs, k1, k2, k3, k4, k5⟩ := rets_ok h' hr hK
   subst k1
   have hres : (results fn a.tmps).run P X'.w = .ok (if h : vs.toArray.size = 1 then vs.toArray[0] else .tuple vs.toArray) X'.w := by
    unfold results
    rw [← Array.toArray_toList (xs := fn.results), List.mapM_toArray]
    simp only [Sem.run_bind, Sem.run_map]
    rw [k4 _ (fun _ => rfl) (fun _ _ => rfl)]
    rfl
   obtain ⟨blk', cs', ty', hb'⟩ := h'.cbox (getB_some hbx') hsz0
   have hblk : blk' = blk := by
    have h1 := hb'.hbase.2 rfl
    rw [h'.mold.1] at h1; simp only [if_pos, Option.some.injEq] at h1; exact h1.symm
   subst hblk
   generalize hY : handOver (rvs.map locOf) X' = Y
   have hYo : Y.own blk' = none := by
    subst hY
    show (match X'.own blk' with | some L => _ | none => none) = none
    rw [hb'.own]
    simp only
    have : (rvs.map locOf).idxOf? (.box nb) = none := by
     rw [List.idxOf?_eq_none_iff]
     intro hm
     obtain ⟨rv, _, e⟩ := List.mem_map.1 hm
     cases rv <;> simp [locOf] at e
    rw [this]; rfl
   have hYM : Y.M = X'.M := by subst hY; rfl
   have hYw : Y.w = X'.w := by subst hY; rfl
   generalize hZ : ({ Y with ρ := fun i => if i = 0 then some blk' else none, own := fun g => if g = blk' then some (.box 0) else Y.own g, ex := fun i => if i = 0 then some blk' else none } : Cx) = Z
   have hZM : Z.M = X'.M := by subst hZ; exact hYM
   have hZw : Z.w = X'.w := by subst hZ; exact hYw
   have hZo : ∀ g, g ≠ blk' → Z.own g = Y.own g := by subst hZ; intro g hg; simp [hg]
   refine ⟨h'.defers, _, hres, _, Z, cs', ty', rfl, hZw, ?_, ?_, fun b hb hne o => ?_, ?_⟩
   ·have trz : ∀ {L : Loc} {d : TV} {u : Value}, TRel Y w.heap.size L d u → TRel Z w.heap.size L d u := by
     intro L d u hu
     cases d with
     | p x => show Flat Z.M Z.w x u; rw [hZM, hZw, ← hYM, ← hYw]; exact hu
     | ow sz nl rws =>
      rcases hu with hu | ⟨h0, g, cap, cur, ty, g0, g1, g2, g3, g4, g5, g6⟩
      ·exact .inl hu
      ·have hgb : g ≠ blk' := fun e => by rw [e, hYo] at g1; cases g1
       exact .inr ⟨h0, g, cap, cur, ty, g0, (hZo g hgb).trans g1, g2, by rw [hZw, ← hYw]; exact g3, g4, by rw [hZM, hZw, ← hYM, ← hYw]; exact g5, fun o ho => by rw [hZM, ← hYM]; exact g6 o ho⟩
    have hloc : ∀ (j : Nat) d u, xs[j]? = some d → vs[j]? = some u → TRel Z w.heap.size (if (rvs.map locOf).length = 1 then .tmp 0 else .comp (.tmp 0) j) d u := by
     intro j d u hd hu
     have hj : j < rvs.length := by rw [← k2]; exact (List.getElem?_eq_some_iff.1 hd).1
     have hrv : rvs[j]? = some rvs[j] := by simp [hj]
     have := TRel.handOver hnd (j := j) (by rw [List.getElem?_map, hrv]; rfl) (k5 j d u _ hd hu hrv)
     rw [hY] at this
     exact trz this
    match xs, vs, k2, k3, hloc with
    | [x], [v], k2, k3, hloc =>
     have := hloc 0 x v rfl rfl
     simp at k2
     rw [if_pos (by simp [← k2])] at this
     exact dv_rel this
    | [], [], k2, k3, hloc => exact ⟨#[], by simp, by simp, fun j d u hd => by simp at hd⟩
    | x :: y :: xs, vs, k2, k3, hloc =>
     have hvl : vs.length = xs.length + 2 := by rw [k3, ← k2]; rfl
     refine ⟨vs.toArray, by simp [hvl], by simp [hvl], fun j d u hd hu => ?_⟩
     have := hloc j d u hd (by simpa using hu)
     rw [if_neg (by simp [← k2])] at this
     exact this
    | [x], [], k2, k3, _ => simp at k2 k3; omega
    | [x], _ :: _ :: _, k2, k3, _ => simp at k2 k3; omega
    | [], _ :: _, k2, k3, _ => simp at k2 k3; omega
   ·refine ⟨by subst hZ; simp, by subst hZ; simp, ⟨.inr ⟨0, by subst hZ; simp⟩, fun _ => by subst hZ; simp⟩, by rw [hZw]; exact hb'.heap, hb'.size, hb'.width, fun r o row d u h1 h2 h3 => ?_, fun _ o => by rw [hZM]; exact hb'.live rfl o, fun h => by cases h⟩
    obtain ⟨f1, f2⟩ := hb'.cells r o row d u h1 h2 h3
    have hdp := allP_get (allPR_get hrows' (List.mem_of_getElem? h1)) (List.mem_of_getElem? h2)
    cases d with
    | p x => exact ⟨by show Flat Z.M Z.w x u; rw [hZM, hZw]; exact f1, f2⟩
    | _ => simp [DV.isP] at hdp
   ·rw [hZM]
    refine h'.mold.2 b hb (fun j e => ?_) o
    simp only at e
    split at e
    ·injection e with e; exact hne e.symm
    ·cases e
   ·have hbl := h'.below
    refine ⟨hbl.os, hbl.tape, hbl.output, hbl.size, fun b hb hx => hbl.block b hb fun j e => ?_, hbl.sz⟩
    simp only at e
    split at e
    ·exact hx 0 (by simpa using e)
    ·cases e
  have hwp := vc_ok ht hrel hv
  rw [hXw] at hwp
  refine wp_mono hwp fun e a w' hq => ?_
  cases e with
  | normal => exact fin a w' hq
  | ret => exact fin a w' hq
  | exit j => obtain ⟨_, _, _, _, h⟩ := hq; exact h.elim
  | _ => exact hq.elim
end Go.Proofs.YtnjphclbpgajpaaGreatDoor.Vc
namespace Go.Proofs.YtnjphclbpgajpaaGreatDoor.Vc
open Go.RowKit
variable {P : Program}
def shL (nb : Nat) : Loc → Loc
 | .box i => .box (nb + i)
 | .cell i r o => .cell (nb + i) r o
 | .comp L j => .comp (shL nb L) j
 | L => L
def shX (X : Cx) (nb : Nat) : Cx :=
 {ρ := fun q => if q < nb then none else X.ρ (q - nb)
  own := fun g => (X.own g).map (shL nb)
  M := X.M
  w := X.w
  ex := fun q => if q < nb then none else X.ex (q - nb) }
theorem shX_rho (X : Cx) (nb j : Nat) : (shX X nb).ρ (nb + j) = X.ρ j := by
 show (if nb + j < nb then none else X.ρ (nb + j - nb)) = _
 rw [if_neg (by omega), show nb + j - nb = j by omega]
theorem shX_ex (X : Cx) (nb j : Nat) : (shX X nb).ex (nb + j) = X.ex j := by
 show (if nb + j < nb then none else X.ex (nb + j - nb)) = _
 rw [if_neg (by omega), show nb + j - nb = j by omega]
def shB (nb : Nat) : List Box → List (Option Box)
 | [] => []
 | bx :: l => some ⟨true, bx.size, handRs (fun i => some (nb + i)) bx.rows, true⟩ :: shB nb l
def StO (n nb : Nat) (args : List DV) (bs : List Box) : St :=
 ⟨handR (fun i => some (nb + i)) args ++ List.replicate (n - args.length) .top, List.replicate nb none ++ shB nb bs⟩
def liveO : List Box → Bool
 | [] => true
 | bx :: l => bx.live && (bx.old && liveO l)
theorem liveO_get {l : List Box} (h : liveO l = true) {bx : Box} (hb : bx ∈ l) : bx.live = true ∧ bx.old = true := by
 induction l with
 | nil => simp at hb
 | cons x xs ih =>
  simp only [liveO, Bool.and_eq_true] at h
  rcases List.mem_cons.1 hb with rfl | hb
  ·exact ⟨h.1, h.2.1⟩
  ·exact ih h.2.2 hb
theorem shB_get {nb : Nat} : ∀ {l : List Box} {i : Nat}, (shB nb l)[i]? = (l[i]?).map fun bx => some ⟨true, bx.size, handRs (fun i => some (nb + i)) bx.rows, true⟩
 | [], i => by simp [shB]
 | x :: l, 0 => by simp [shB]
 | x :: l, i + 1 => by simp only [shB, List.getElem?_cons_succ]; exact shB_get
theorem start_ok {X : Cx} {bs : List Box} (hh : Hand X bs) {nb n : Nat} {args : List DV} {cargs : Array Value} (hl : cargs.size = args.length) (hbs : liveO bs = true)
  (ha : ∀ (i : Nat) d v, args[i]? = some d → cargs[i]? = some v → VRel X X.w.heap.size (.tmp i) d v) :
  Rel ⟨X.w.heap.size, X.M, X.w, (shX X nb).ex⟩ (shX X nb) (StO n nb args bs) { tmps := cargs ++ Array.replicate (n - cargs.size) undef, defers := [] } := by
 have hown : ∀ g L L', L' = shL nb L → X.own g = some L → (X.w.heap.size ≤ g ∨ ∃ j, X.ex j = some g) → (∀ o, X.M g o) → g < X.w.heap.size → (shX X nb).own g = some L' ∧ (X.w.heap.size ≤ g ∨ ∃ j, (shX X nb).ex j = some g) ∧ ∀ o, (shX X nb).M g o := by
  intro g L L' e h1 h2 h3 _
  refine ⟨by simp [shX, h1, e], ?_, h3⟩
  rcases h2 with h2 | ⟨j, h2⟩
  ·exact .inl h2
  ·exact .inr ⟨nb + j, by rw [shX_ex]; exact h2⟩
 have hν : ∀ j j', (fun i => some (nb + i)) j = some j' → (shX X nb).ρ j' = X.ρ j := fun j j' e => by
  simp only [Option.some.injEq] at e
  subst e
  exact shX_rho X nb j
 refine ⟨rfl, ?_, fun i d hd => ?_, fun k bx hk => ?_, BelowX.refl _ _ _, Nat.le_refl _, rfl, fun b _ _ o => Iff.rfl⟩
 ·simp [StO, hl, handR_eq]
 ·simp only [args_get]
  simp only [StO, handR_eq] at hd
  rw [List.getElem?_append] at hd
  simp only [List.length_map] at hd
  by_cases hi : i < args.length
  ·rw [if_pos hi, List.getElem?_map] at hd
   rw [dif_pos (by omega)]
   cases hx : args[i]? with
   | none => rw [hx] at hd; simp at hd
   | some x =>
    rw [hx] at hd
    simp only [Option.map_some, Option.some.injEq] at hd
    subst hd
    exact VRel.tr (X := X) (X' := shX X nb) (fun L L' => L' = shL nb L) _ (fun L L' j e => by rw [e]; rfl) (Keeps.refl _ _) rfl hown (fun _ _ => rfl) hν (ha i x _ hx (by simp [hl, hi]))
  ·rw [if_neg hi] at hd
   have := List.mem_of_getElem? hd
   simp at this
   rw [this.2]; trivial
 ·simp only [StO] at hk
  rw [List.getElem?_append] at hk
  split at hk
  ·have := List.mem_of_getElem? hk
   simp at this
  ·rename_i hk'
   simp only [List.length_replicate] at hk hk'
   rw [shB_get] at hk
   cases hb : bs[k - nb]? with
   | none => rw [hb] at hk; simp at hk
   | some bx0 =>
    rw [hb] at hk
    simp only [Option.map_some, Option.some.injEq] at hk
    subst hk
    obtain ⟨h1, h2⟩ := liveO_get hbs (List.mem_of_getElem? hb)
    obtain ⟨blk0, e1, e2, e3, e4, e5, e6⟩ := BX.info (hh.boxes _ _ hb) h1
    have := BX.tr (X := X) (X' := shX X nb) (base := X.w.heap.size) (base' := X.w.heap.size) (i := k - nb) (i' := nb + (k - nb)) (bx := bx0) (fun L L' => L' = shL nb L) _ (fun L L' j e => by rw [e]; rfl) (Keeps.refl _ _) rfl hown rfl (fun _ _ => rfl)
     (shX_rho X nb _) hν true (fun _ blk hblk => by rw [shX_ex]; rw [e1] at hblk; injection hblk with hblk; subst hblk; exact e4 h2) h1 (hh.boxes _ _ hb)
    rw [show nb + (k - nb) = k by omega] at this
    exact this
def refR (b : List (Option Box)) (d : DV) : Bool := d.isRef && (d.frz b).isNone
def retsO (s : St) (rvs : List RV) (K : DV → Prop) : Prop :=
 match rvs with
 | [.tmp t] => if refR s.b (getT s.t t) = true then K (getT s.t t) else rets s [.tmp t] fun xs => K (resOf xs)
 | rvs => rets s rvs fun xs => K (resOf xs)
def rangeO : Nat → Nat → List Nat
 | _, 0 => []
 | k, m + 1 => k :: rangeO (k + 1) m
theorem rangeO_length : ∀ {m k : Nat}, (rangeO k m).length = m
 | 0, _ => rfl
 | m + 1, k => by simp [rangeO, rangeO_length]
theorem rangeO_get : ∀ {m k i : Nat}, i < m → (rangeO k m)[i]? = some (k + i)
 | m + 1, k, 0, _ => rfl
 | m + 1, k, i + 1, h => by simp only [rangeO, List.getElem?_cons_succ]; rw [rangeO_get (by omega)]; congr 1; omega
theorem rangeO_mem : ∀ {m k q : Nat}, q ∈ rangeO k m → k ≤ q ∧ q < k + m
 | m + 1, k, q, h => by
  simp only [rangeO] at h
  rcases List.mem_cons.1 h with rfl | h
  ·omega
  ·have := rangeO_mem h; omega
theorem rangeO_nodup : ∀ {m k : Nat}, (rangeO k m).Nodup
 | 0, _ => List.nodup_nil
 | m + 1, k => List.nodup_cons.2 ⟨fun h => by have := rangeO_mem h; omega, rangeO_nodup⟩
def aliveO (b : List (Option Box)) (nb m k : Nat) : Bool :=
 match getR b k with
 | some bx => bx.live && (bx.old || !(Nat.ble nb k && Nat.blt k (nb + m)))
 | none => false
def refsH (b : List (Option Box)) : List Nat → List Nat → List Nat
 | [], l => l
 | k :: ks, l => match getR b k with
  | some bx => if bx.live then (bif allPR bx.rows then refsH b ks l else refsRs bx.rows (refsH b ks l)) else refsH b ks l
  | none => refsH b ks l
def allO (b : List (Option Box)) (nb m : Nat) (r : DV) : List Nat := reachO b 4000 (refsH b (rangeO nb m) (refsD r [])) (rangeO nb m)
def nuF (b : List (Option Box)) (nb m : Nat) (all : List Nat) (k : Nat) : Option Nat := if elemN k all && aliveO b nb m k then some (numO k all 0) else none
def finB (b : List (Option Box)) (nb m : Nat) (ν : Nat → Option Nat) (k : Nat) : Option Box :=
 if aliveO b nb m k then match getR b k with
  | some bx => some ⟨true, bx.size, handRs ν bx.rows, false⟩
  | none => none
 else none
def finBs (b : List (Option Box)) (nb m : Nat) (ν : Nat → Option Nat) : List Nat → List (Option Box)
 | [] => []
 | k :: ks => finB b nb m ν k :: finBs b nb m ν ks
def finO (b : List (Option Box)) (nb m : Nat) (r : DV) : List (Option Box) × DV :=
 (finBs b nb m (nuF b nb m (allO b nb m r)) (allO b nb m r), resD (nuF b nb m (allO b nb m r)) r)
theorem finBs_get {b : List (Option Box)} {nb m : Nat} {ν : Nat → Option Nat} : ∀ {l : List Nat} {i : Nat}, (finBs b nb m ν l)[i]? = (l[i]?).map (finB b nb m ν)
 | [], i => by simp [finBs]
 | x :: l, 0 => by simp [finBs]
 | x :: l, i + 1 => by simp only [finBs, List.getElem?_cons_succ]; exact finBs_get
theorem resOf_plain (xs : List TV) : (resOf xs).plain = true := by
 unfold resOf
 split
 ·rename_i x; cases x <;> rfl
 ·rfl
theorem retsO_ok {G : Gl} {X : Cx} {s : St} {a : Act} (h : Rel G X s a) {fn : Func} {rvs : List RV} (hr : RVs P fn.results.toList rvs) (hnd : (rvs.map locOf).Nodup) {K : DV → Prop} (hK : retsO s rvs K) :
  ∃ r v, K r ∧ (results fn a.tmps).run P X.w = .ok v X.w ∧ ((r.isRef = true ∧ ∃ L, VRel X G.base L r v) ∨ (r.plain = true ∧ VRel (handOver (rvs.map locOf) X) G.base (.tmp 0) r v)) := by
 have gen : rets s rvs (fun xs => K (resOf xs)) → ∃ r v, K r ∧ (results fn a.tmps).run P X.w = .ok v X.w ∧ ((r.isRef = true ∧ ∃ L, VRel X G.base L r v) ∨ (r.plain = true ∧ VRel (handOver (rvs.map locOf) X) G.base (.tmp 0) r v)) := by
  intro hK
  obtain ⟨xs, vs, k1, k2, k3, k4, k5⟩ := rets_ok h hr hK
  have hres : (results fn a.tmps).run P X.w = .ok (if h : vs.toArray.size = 1 then vs.toArray[0] else .tuple vs.toArray) X.w := by
   unfold results
   rw [← Array.toArray_toList (xs := fn.results), List.mapM_toArray]
   simp only [Sem.run_bind, Sem.run_map]
   rw [k4 _ (fun _ => rfl) (fun _ _ => rfl)]
   rfl
  refine ⟨_, _, k1, hres, .inr ⟨resOf_plain _, ?_⟩⟩
  have hloc : ∀ (j : Nat) d u, xs[j]? = some d → vs[j]? = some u → TRel (handOver (rvs.map locOf) X) G.base (if (rvs.map locOf).length = 1 then .tmp 0 else .comp (.tmp 0) j) d u := by
   intro j d u hd hu
   have hj : j < rvs.length := by rw [← k2]; exact (List.getElem?_eq_some_iff.1 hd).1
   have hrv : rvs[j]? = some rvs[j] := by simp [hj]
   exact TRel.handOver hnd (j := j) (by rw [List.getElem?_map, hrv]; rfl) (k5 j d u _ hd hu hrv)
  match xs, vs, k2, k3, hloc with
  | [x], [v], k2, k3, hloc =>
   have := hloc 0 x v rfl rfl
   simp at k2
   rw [if_pos (by simp [← k2])] at this
   exact dv_rel this
  | [], [], k2, k3, hloc => exact ⟨#[], by simp, by simp, fun j d u hd => by simp at hd⟩
  | x :: y :: xs, vs, k2, k3, hloc =>
   have hvl : vs.length = xs.length + 2 := by rw [k3, ← k2]; rfl
   refine ⟨vs.toArray, by simp [hvl], by simp [hvl], fun j d u hd hu => ?_⟩
   have := hloc j d u hd (by simpa using hu)
   rw [if_neg (by simp [← k2])] at this
   exact this
  | [x], [], k2, k3, _ => simp at k2 k3; omega
  | [x], _ :: _ :: _, k2, k3, _ => simp at k2 k3; omega
  | [], _ :: _, k2, k3, _ => simp at k2 k3; omega
 unfold retsO at hK
 split at hK
 ·rename_i t
  split at hK
  ·rename_i hrf
   refine ⟨_, _, hK, ?_, .inl ⟨by simp only [refR, Bool.and_eq_true] at hrf; exact hrf.1, _, h.get t⟩⟩
   have e : fn.results.toList = [.tmp t] := by
    generalize fn.results.toList = l at hr
    cases hr with
    | tmp t rs l h => cases h; rfl
   unfold results
   rw [← Array.toArray_toList (xs := fn.results), List.mapM_toArray, e]
   simp
  ·exact gen hK
 ·exact gen hK
theorem handOver_own {ls : List Loc} {X : Cx} {g : Nat} {L' : Loc} (h : (handOver ls X).own g = some L') : ∃ L, X.own g = some L ∧ L ∈ ls := by
 simp only [handOver] at h
 split at h
 ·rename_i L hL
  cases hi : ls.idxOf? L with
  | none => rw [hi] at h; simp at h
  | some j =>
   refine ⟨L, hL, ?_⟩
   by_cases hm : L ∈ ls
   ·exact hm
   ·rw [List.idxOf?_eq_none_iff.2 hm] at hi; cases hi
 ·cases h
theorem VRel.plain_mono {X X' : Cx} {base : Nat} (hM : X'.M = X.M) (hw : X'.w = X.w) (ho : ∀ g L, X.own g = some L → X'.own g = some L) {L : Loc} {r : DV} (hr : r.plain = true) {v : Value} (h : VRel X base L r v) : VRel X' base L r v := by
 have ow : ∀ {L : Loc} {size : Nat} {nl : Bool} {rows : List PV} {u : Value}, OwRel X base L size nl rows u → OwRel X' base L size nl rows u := by
  intro L size nl rows u hu
  rcases hu with hu | ⟨h0, g, cap, cur, ty, g0, g1, g2, g3, g4, g5, g6⟩
  ·exact .inl hu
  ·exact .inr ⟨h0, g, cap, cur, ty, g0, ho g _ g1, g2, by rw [hw]; exact g3, g4, by rw [hM, hw]; exact g5, fun o ho => by rw [hM]; exact g6 o ho⟩
 cases r with
 | p x => show Flat X'.M X'.w x v; rw [hM, hw]; exact h
 | ow size nl rows => exact ow h
 | tup ds =>
  obtain ⟨vs, e1, e2, e3⟩ := h
  refine ⟨vs, e1, e2, fun j d u hd hu => ?_⟩
  have := e3 j d u hd hu
  cases d with
  | p x => show Flat X'.M X'.w x u; rw [hM, hw]; exact this
  | ow size nl rows => exact ow this
 | _ => simp [DV.plain] at hr
theorem ocall_of_vc {f : FuncId} {fn : Func} {code : Code} {c : C} {nb : Nat} {args : List DV} {bs : List Box} {bs' : List (Option Box)} {r : DV} {rvs : List RV} (hf : P.funcs[f]? = some fn) (hb : fn.body = some code) (hn : fn.name ≠ "runtime.NumGoroutine")
  (ht : TrC P c code) (hr : RVs P fn.results.toList rvs) (hnd : (rvs.map locOf).Nodup) (hrp : (r.plain || r.isRef) = true) (hbs : liveO bs = true) (hlen : Nat.ble bs.length bs'.length = true)
  (hv : vc P c (StO fn.ntmps nb args bs) (fun s => retsO s rvs fun r0 => finO s.b nb bs.length r0 = (bs', r)) (fun _ _ => False) (fun s => retsO s rvs fun r0 => finO s.b nb bs.length r0 = (bs', r))) : OCall P f args bs bs' r := by
 refine ⟨⟨fn, hf, by rw [hb]; rfl, hn⟩, by simpa using hrp, by simpa using hlen, fun X cargs hl hh ha => ?_⟩
 refine calls_of_wp hf hb ?_
 have hrel := start_ok hh (nb := nb) (n := fn.ntmps) hl hbs ha
 have fin : ∀ a w', Post ⟨X.w.heap.size, X.M, X.w, (shX X nb).ex⟩ (fun s => retsO s rvs fun r0 => finO s.b nb bs.length r0 = (bs', r)) a w' →
   bodyPost P fn (fun e w' => ∃ v X', e = .returned v ∧ X'.w = w' ∧ Back X X' bs.length bs' r v) .ret a w' := by
  intro a w' ⟨s, X', h', e', hK⟩
  subst e'
  obtain ⟨r0, v, k1, hres, k3⟩ := retsO_ok h' hr hnd hK
  generalize hall : allO s.b nb bs.length r0 = all at *
  obtain ⟨es, f1, f2, f3, f4⟩ := reachO_ok (b := s.b) (n := 4000) (ws := refsH s.b (rangeO nb bs.length) (refsD r0 [])) (ks := rangeO nb bs.length)
  have ea : all = rangeO nb bs.length ++ es := by rw [← hall]; exact f1
  have hnda : all.Nodup := by
   rw [ea, List.nodup_append]
   exact ⟨rangeO_nodup, f4, fun a ha b hb e => by subst e; exact f3 a hb ha⟩
  generalize hνd : nuF s.b nb bs.length all = ν at *
  have hfin : bs' = finBs s.b nb bs.length ν all ∧ r = resD ν r0 := by
   simp only [finO, hall, hνd, Prod.mk.injEq] at k1
   exact ⟨k1.1.symm, k1.2.symm⟩
  obtain ⟨e1, e2⟩ := hfin
  have hexe : X'.ex = (shX X nb).ex := h'.mold.1
  have hgood : ∀ k b1, s.b[k]? = some (some b1) → aliveO s.b nb bs.length k = true → ∀ i, all[i]? = some k → i < bs.length → X'.ρ k = X.ρ i := by
   intro k b1 hk hal i hi hilt
   have hki : k = nb + i := by
    rw [ea, List.getElem?_append, if_pos (by rw [rangeO_length]; exact hilt), rangeO_get hilt] at hi
    injection hi with hi; exact hi.symm
   have hold : b1.live = true ∧ b1.old = true := by
    simp only [aliveO, getR_some.2 hk, Bool.and_eq_true, Bool.or_eq_true, Bool.not_eq_true', Bool.and_eq_false_iff] at hal
    refine ⟨hal.1, hal.2.resolve_right fun hc => ?_⟩
    rcases hc with hc | hc
    ·have : ¬ nb ≤ k := fun hh => by rw [Nat.ble_eq_true_of_le hh] at hc; cases hc
     omega
    ·have : ¬ k < nb + bs.length := fun hh => by
      have e : Nat.blt k (nb + bs.length) = true := by simpa using hh
      rw [e] at hc; cases hc
     omega
   obtain ⟨blk, g1, g2, g3, g4, g5, g6⟩ := BX.info (h'.boxes k b1 hk) hold.1
   have g7 := g4 hold.2
   rw [hexe] at g7
   subst hki
   simp only [shX] at g7
   rw [if_neg (by omega), show nb + i - nb = i by omega] at g7
   have hbi : bs[i]? = some bs[i] := by simp [hilt]
   obtain ⟨l1, l2⟩ := liveO_get hbs (List.mem_of_getElem? hbi)
   obtain ⟨blk0, q1, q2, q3, q4, q5, q6⟩ := BX.info (hh.boxes i _ hbi) l1
   have q7 := q4 l2
   rw [g7] at q7
   injection q7 with q7
   rw [g1, q1, q7]
  generalize hX'' : ({ ρ := fun i => if i < bs.length then X.ρ i else (all[i]?).bind X'.ρ
                       own := fun g => match X'.own g with
                        | some L => match relO all L with
                         | some L' => some L'
                         | none => ((rvs.map locOf).idxOf? L).map fun j => if (rvs.map locOf).length = 1 then .tmp 0 else .comp (.tmp 0) j
                        | none => none
                       M := X'.M, w := X'.w, ex := X.ex } : Cx) = X''
  have ew : X''.w = X'.w := by subst hX''; rfl
  have eM : X''.M = X'.M := by subst hX''; rfl
  have eex : X''.ex = X.ex := by subst hX''; rfl
  have eρ1 : ∀ i, i < bs.length → X''.ρ i = X.ρ i := by subst hX''; intro i hi; simp [hi]
  have eρ2 : ∀ i, ¬ i < bs.length → X''.ρ i = (all[i]?).bind X'.ρ := by subst hX''; intro i hi; simp [hi]
  have eo1 : ∀ g L L', X'.own g = some L → relO all L = some L' → X''.own g = some L' := by subst hX''; intro g L L' h1 h2; simp [h1, h2]
  have eo2 : ∀ g L', (handOver (rvs.map locOf) X').own g = some L' → X''.own g = some L' := by
   intro g L' hg
   obtain ⟨L, h1, h2⟩ := handOver_own hg
   have hn : relO all L = none := by
    obtain ⟨rv, _, e⟩ := List.mem_map.1 h2
    cases rv <;> simp only [locOf] at e <;> subst e <;> rfl
   subst hX''
   simp only [handOver, h1] at hg
   simp only [h1, hn, hg]
  have hν : ∀ j j', ν j = some j' → X''.ρ j' = X'.ρ j := by
   intro j j' hj
   rw [← hνd] at hj
   simp only [nuF] at hj
   split at hj
   ·rename_i hc
    simp only [Bool.and_eq_true] at hc
    injection hj with hj
    have hm := numO_mem (elemN_iff.1 hc.1)
    rw [hj] at hm
    by_cases hlt : j' < bs.length
    ·rw [eρ1 _ hlt]
     obtain ⟨b1, hb1⟩ : ∃ b1, getR s.b j = some b1 := by
      have := hc.2
      unfold aliveO at this
      split at this
      ·exact ⟨_, by assumption⟩
      ·cases this
     exact (hgood j b1 (getR_some.1 hb1) hc.2 j' hm hlt).symm
    ·rw [eρ2 _ hlt, hm]; rfl
   ·cases hj
  refine ⟨h'.defers, v, hres, v, X'', rfl, ew, eex, ?_, fun i bx hi => ?_, fun i hi => eρ1 i hi, fun b hb hx o => ?_, ?_⟩
  ·rcases k3 with ⟨hrf, L, hvr⟩ | ⟨hpl, hvr⟩
   ·have e3 : r = handD ν r0 := by
     rw [e2]
     unfold resD
     rw [if_neg]
     cases r0 <;> simp [DV.isRef, DV.plain] at hrf ⊢
    rw [e3]
    exact VRel.tr (X := X') (X' := X'') (base := X.w.heap.size) (base' := X.w.heap.size) (fun _ _ => False) ν (fun _ _ _ h => h.elim) (by rw [eM, ew]; exact Keeps.refl _ _) ew (fun _ _ _ h => h.elim) (fun T e => by rw [e] at hrf; simp [DV.isRef] at hrf) hν hvr
   ·have e3 : r = r0 := by rw [e2]; unfold resD; rw [if_pos hpl]
    rw [e3]
    exact hvr.plain_mono (by rw [eM]; rfl) (by rw [ew]; rfl) eo2 hpl
  ·rw [e1, finBs_get] at hi
   cases hk : all[i]? with
   | none => rw [hk] at hi; simp at hi
   | some k =>
    rw [hk] at hi
    simp only [Option.map_some, Option.some.injEq] at hi
    unfold finB at hi
    split at hi
    ·rename_i hal
     split at hi
     ·rename_i b1 hb1
      injection hi with hi
      subst hi
      refine ⟨rfl, ?_⟩
      have hkm : k ∈ all := List.mem_of_getElem? hk
      have hki : numO k all 0 = i := numO_get hnda hk
      have hlive : b1.live = true := by
       simp only [aliveO, hb1, Bool.and_eq_true] at hal; exact hal.1
      refine BX.tr (X := X') (X' := X'') (base := X.w.heap.size) (base' := X.w.heap.size) (i := k) (i' := i) (fun L L' => relO all L = some L') ν (fun L L' j e => by simp only [relO]; rw [e]; rfl) (by rw [eM, ew]; exact Keeps.refl _ _) ew
       (fun g L L' hL h1 h2 h3 _ => ⟨eo1 g L L' h1 hL, ?_, by rw [eM]; exact h3⟩) (by simp only [relO]; rw [if_pos hkm, hki]) (fun r o => by simp only [relO]; rw [if_pos hkm, hki])
       (hν k i (by rw [← hνd]; simp only [nuF]; rw [if_pos (by simp [elemN_iff.2 hkm, hal]), hki])) hν false (fun h => by cases h) hlive (h'.boxes k b1 (getR_some.1 hb1))
      rcases h2 with h2 | ⟨j, h2⟩
      ·exact .inl h2
      ·rw [hexe] at h2
       simp only [shX] at h2
       split at h2
       ·cases h2
       ·exact .inr ⟨_, by rw [eex]; exact h2⟩
     ·cases hi
    ·cases hi
  ·rw [eM]
   refine h'.mold.2 b hb (fun j e => ?_) o
   simp only [shX] at e
   split at e
   ·cases e
   ·exact hx _ e
  ·rw [ew]
   have hbl := h'.below
   refine ⟨hbl.os, hbl.tape, hbl.output, hbl.size, fun b hb hx => hbl.block b hb fun j e => ?_, hbl.sz⟩
   simp only [shX] at e
   split at e
   ·cases e
   ·exact hx _ e
 have hwp := vc_ok ht hrel hv
 refine wp_mono hwp fun e a w' hq => ?_
 cases e with
 | normal => exact fin a w' hq
 | ret => exact fin a w' hq
 | exit j => obtain ⟨_, _, _, _, h⟩ := hq; exact h.elim
 | _ => exact hq.elim
end Go.Proofs.YtnjphclbpgajpaaGreatDoor.Vc
namespace Go.Proofs.YtnjphclbpgajpaaGreatDoor.Vc
open Go.RowKit
variable {P : Program}
def bO : Operand → O → Bool
 | .tmp n, .t m => n == m
 | .const (.int k n), .c (.p (.int k' n')) => decide (k = k') && n == n'
 | .const (.bool b), .c (.p (.bool b')) => b == b'
 | .const (.string s), .c (.p (.str s')) => decide (s.data.toList = s'.data.toList)
 | .const (.slice none 0 0), .c (.ow _ true []) => true
 | .const (.slice none 0 0), .c (.p (.sl _ true [])) => true
 | .func f, .c (.p (.fn f' [])) => f == f'
 | .const .nilIface, .c (.p (.atom .nilIface)) => true
 | .const (.pointer none), .c (.p (.atom (.pointer none))) => true
 | .const (.map none), .c (.p (.atom (.map none))) => true
 | _, .c .top => true
 | _, _ => false
theorem ba_ext {s t : ByteArray} (h : s.data.toList = t.data.toList) : s = t := by
 obtain ⟨⟨a⟩⟩ := s
 obtain ⟨⟨b⟩⟩ := t
 simp at h; subst h; rfl
theorem bO_ok {x : Operand} {o : O} (h : bO x o = true) : OT x o := by
 unfold bO at h
 split at h
 ·simp at h; subst h; exact .tmp _
 ·simp at h; obtain ⟨rfl, rfl⟩ := h; exact .int _ _
 ·simp at h; subst h; exact .bool _
 ·simp only [decide_eq_true_eq] at h; rw [ba_ext h]; exact .str _
 ·exact .nil _
 ·exact .nilp _
 ·simp at h; subst h; exact .func _
 ·exact .atom _ rfl
 ·exact .atom _ rfl
 ·exact .atom _ rfl
 ·exact .any _
 ·cases h
def bOs : List Operand → List O → Bool
 | [], [] => true
 | x :: xs, o :: os => bO x o && bOs xs os
 | _, _ => false
theorem bOs_ok : ∀ {xs : List Operand} {os : List O}, bOs xs os = true → os.length = xs.length ∧ ∀ (k : Nat) x oo, xs[k]? = some x → os[k]? = some oo → OT x oo
 | [], [], _ => ⟨rfl, fun k x oo h => by simp at h⟩
 | x :: xs, o :: os, h => by
  simp only [bOs, Bool.and_eq_true] at h
  obtain ⟨e1, e2⟩ := bOs_ok h.2
  refine ⟨by simp [e1], fun k y oo hy ho => ?_⟩
  cases k with
  | zero => simp at hy ho; subst hy; subst ho; exact bO_ok h.1
  | succ k => exact e2 k y oo (by simpa using hy) (by simpa using ho)
 | [], _ :: _, h => by simp [bOs] at h
 | _ :: _, [], h => by simp [bOs] at h
def isAD : TypeDesc → Bool
 | .struct _ | .array _ _ => true
 | _ => false
def bTy (P : Program) (t : TypeId) (n : Nat) (isA : Bool) : Bool :=
 match P.info? t, P.underlying t with
 | some i, some d => i.size == n && isAD d == isA
 | _, _ => false
theorem bTy_ok {t : TypeId} {n : Nat} {isA : Bool} (h : bTy P t n isA = true) : TyIs P t n isA := by
 unfold bTy at h
 split at h
 ·rename_i i d hi hd
  simp at h
  exact ⟨⟨i, hi, h.1⟩, ⟨d, hd, h.2⟩⟩
 ·cases h
def bZ : DV → Value → Bool
 | .p (.int k n), .int k' n' => decide (k = k') && n == n'
 | .p (.bool b), .bool b' => b == b'
 | .p (.str s), .string s' => decide (s.data.toList = s'.data.toList)
 | .ow _ true [], .slice none 0 0 => true
 | .p (.atom (.pointer none)), .pointer none => true
 | .p (.atom (.map none)), .map none => true
 | .top, v => v.oneCell'
 | _, _ => false
theorem bZ_ok {d : DV} {v : Value} (h : bZ d v = true) : ZR d v := by
 unfold bZ at h
 split at h
 ·simp at h; obtain ⟨rfl, rfl⟩ := h; exact .int _ _
 ·simp at h; subst h; exact .bool _
 ·simp only [decide_eq_true_eq] at h; rw [ba_ext h]; exact .str _
 ·exact .nil _
 ·exact .atom _ rfl
 ·exact .atom _ rfl
 ·exact .top _ h
 ·cases h
def bZs : List DV → List Value → Bool
 | [], [] => true
 | d :: ds, v :: vs => bZ d v && bZs ds vs
 | _, _ => false
theorem bZs_ok' : ∀ {ds : List DV} {vs : List Value}, bZs ds vs = true → vs.length = ds.length ∧ ∀ (i : Nat) d v, ds[i]? = some d → vs[i]? = some v → ZR d v
 | [], [], _ => ⟨rfl, fun i d v h => by simp at h⟩
 | d :: ds, v :: vs, h => by
  simp only [bZs, Bool.and_eq_true] at h
  obtain ⟨e1, e2⟩ := bZs_ok' h.2
  refine ⟨by simp [e1], fun i y u hy ho => ?_⟩
  cases i with
  | zero => simp at hy ho; subst hy; subst ho; exact bZ_ok h.1
  | succ i => exact e2 i y u (by simpa using hy) (by simpa using ho)
 | [], _ :: _, h => by simp [bZs] at h
 | _ :: _, [], h => by simp [bZs] at h
theorem bZs_ok {ds : List DV} {vs : Array Value} (h : bZs ds vs.toList = true) : ZRs ds vs :=
 ⟨by have := (bZs_ok' h).1; simpa using this, fun i d v hd hv => (bZs_ok' h).2 i d v hd (by simpa using hv)⟩
def bZP : PV → Value → Bool
 | .int k n, .int k' n' => decide (k = k') && n == n'
 | .bool b, .bool b' => b == b'
 | .str s, .string s' => decide (s.data.toList = s'.data.toList)
 | .sl _ true [], .slice none 0 0 => true
 | .atom (.pointer none), .pointer none => true
 | .atom (.map none), .map none => true
 | _, _ => false
theorem bZP_ok {d : PV} {v : Value} (h : bZP d v = true) : ZP d v := by
 unfold bZP at h
 split at h
 ·simp at h; obtain ⟨rfl, rfl⟩ := h; exact .int _ _
 ·simp at h; subst h; exact .bool _
 ·simp only [decide_eq_true_eq] at h; rw [ba_ext h]; exact .str _
 ·exact .nil _
 ·exact .atom _ rfl
 ·exact .atom _ rfl
 ·cases h
def bZPs : List PV → List Value → Bool
 | [], [] => true
 | d :: ds, v :: vs => bZP d v && bZPs ds vs
 | _, _ => false
theorem bZPs_ok : ∀ {ds : List PV} {vs : List Value}, bZPs ds vs = true → vs.length = ds.length ∧ ∀ (i : Nat) d v, ds[i]? = some d → vs[i]? = some v → ZP d v
 | [], [], _ => ⟨rfl, fun i d v h => by simp at h⟩
 | d :: ds, v :: vs, h => by
  simp only [bZPs, Bool.and_eq_true] at h
  obtain ⟨e1, e2⟩ := bZPs_ok h.2
  refine ⟨by simp [e1], fun i y u hy ho => ?_⟩
  cases i with
  | zero => simp at hy ho; subst hy; subst ho; exact bZP_ok h.1
  | succ i => exact e2 i y u (by simpa using hy) (by simpa using ho)
 | [], _ :: _, h => by simp [bZPs] at h
 | _ :: _, [], h => by simp [bZPs] at h
def bFlds (P : Program) : List Field → Nat → Bool
 | [], _ => true
 | f :: fs, j => f.name != "_" && (decide (f.offset = j) && ((match P.underlying f.type with | some (.int _) => true | _ => false) && (bTy P f.type 1 false && bFlds P fs (j + 1))))
theorem bFlds_ok {fs : List Field} : ∀ {j : Nat}, bFlds P fs j = true → ∀ (i : Nat) f, fs[i]? = some f → f.name ≠ "_" ∧ f.offset = j + i ∧ (∃ k, P.underlying f.type = some (.int k)) ∧ TyIs P f.type 1 false := by
 induction fs with
 | nil => intro j _ i f hf; simp at hf
 | cons g fs ih =>
  intro j h i f hf
  simp only [bFlds, Bool.and_eq_true, decide_eq_true_eq, bne_iff_ne] at h
  obtain ⟨h1, h2, h3, h4, h5⟩ := h
  cases i with
  | zero =>
   cases hf
   refine ⟨h1, h2, ?_, bTy_ok h4⟩
   split at h3
   ·exact ⟨_, ‹_›⟩
   ·cases h3
  | succ i =>
   have := ih h5 i f hf
   rw [Nat.add_assoc, Nat.add_comm 1 i] at this
   exact this
theorem fieldsOf_eq {t : TypeId} {fs : Array Field} (h : P.underlying t = some (.struct fs)) : P.fieldsOf t = fs := by simp [Program.fieldsOf, h]
def bOffs (places : List (Nat × Nat)) (n : Nat) : List (Nat × Operand) → List (Nat × Nat) → Bool
 | [], [] => true
 | p :: ps, o :: os => decide (places[p.1]? = some o) && decide (o.1 + o.2 ≤ n) && bOffs places n ps os
 | _, _ => false
theorem bOffs_ok {places : List (Nat × Nat)} {n : Nat} : ∀ {ps : List (Nat × Operand)} {os : List (Nat × Nat)}, bOffs places n ps os = true → ps.length = os.length ∧
  ∀ (k : Nat) (p : Nat × Operand) (o : Nat × Nat), ps[k]? = some p → os[k]? = some o → places[p.1]? = some o ∧ o.1 + o.2 ≤ n
 | [], [], _ => ⟨rfl, fun i d v h => by simp at h⟩
 | d :: ds, v :: vs, h => by
  simp only [bOffs, Bool.and_eq_true, decide_eq_true_eq] at h
  obtain ⟨e1, e2⟩ := bOffs_ok h.2
  refine ⟨by simp [e1], fun i y u hy ho => ?_⟩
  cases i with
  | zero => simp at hy ho; subst hy; subst ho; exact h.1
  | succ i => exact e2 i y u (by simpa using hy) (by simpa using ho)
 | [], _ :: _, h => by simp [bOffs] at h
 | _ :: _, [], h => by simp [bOffs] at h
def bSeq : Nat → List (Nat × Operand) → Bool
 | _, [] => true
 | k, p :: ps => p.1 == k && bSeq (k + 1) ps
theorem bSeq_ok : ∀ {k : Nat} {ps : List (Nat × Operand)}, bSeq k ps = true → ps = ((ps.map (·.2)).zipIdx k).map fun x => (x.2, x.1)
 | _, [], _ => rfl
 | k, p :: ps, h => by
  simp only [bSeq, Bool.and_eq_true, beq_iff_eq] at h
  obtain ⟨rfl, h2⟩ := h
  have := bSeq_ok h2
  simp only [List.map_cons, List.zipIdx_cons, ← this]
def bZV : PV → Value → Bool
 | .agg cs, .agg vs => bZPs cs vs.toList
 | c, v => bZP c v
theorem bZV_ok {c : PV} {v : Value} (h : bZV c v = true) : ZV c v := by
 unfold bZV at h
 split at h
 ·obtain ⟨z1, z2⟩ := bZPs_ok h
  exact .agg _ _ (by simpa using z1) fun i c v hc hv => z2 i c v hc (by simpa using hv)
 ·exact .one _ _ (bZP_ok h)
def bKey (P : Program) (kt : TypeId) : Option IntKind → Bool
 | some q => match P.underlying kt with
  | some (.int q') => decide (q' = q)
  | _ => false
 | none => match P.underlying kt with
  | some .string => true
  | _ => false
theorem bKey_ok {kt : TypeId} {q : Option IntKind} (h : bKey P kt q = true) : P.underlying kt = some (kdesc q) := by
 cases q with
 | none =>
  simp only [bKey] at h
  split at h
  ·assumption
  ·cases h
 | some q =>
  simp only [bKey] at h
  split at h
  ·simp only [decide_eq_true_eq] at h
   subst h
   assumption
  ·cases h
def bMap (P : Program) (t : TypeId) (q : Option IntKind) : Bool :=
 match P.underlying t with
 | some (.map kt _) => bKey P kt q
 | _ => false
theorem bMap_ok {t : TypeId} {q : Option IntKind} (h : bMap P t q = true) : ∃ kt et, P.underlying t = some (.map kt et) ∧ P.underlying kt = some (kdesc q) := by
 unfold bMap at h
 split at h
 ·exact ⟨_, _, ‹_›, bKey_ok h⟩
 ·cases h
def chkO (P : Program) (o : Oper) : KO → List O → Bool
 | .ldo _ _, [ox] => match o.op with
  | .load t x => bTy P t 1 false && bO x ox
  | _ => false
 | .callo f _, os => match o.op with
  | .call { callee := .value (.func f'), args := xs, .. } => f' == f && bOs xs.toList os
  | _ => false
 | .callvo _, ox :: os => match o.op with
  | .call { callee := .value x, args := xs, .. } => bO x ox && bOs xs.toList os
  | _ => false
 | .bldo zero offs, os => match o.op with
  | .build t parts => match P.underlying t with
   | some (.struct fields) => match P.info? t with
    | some it => match it.zero with
     | some z => match fields.toList.mapM (fun f => (P.info? f.type).map fun i => (f.offset, i.size)) with
      | some places => bZPs zero z.cells.toList && (bOffs places zero.length parts.toList offs && bOs (parts.toList.map (·.2)) os)
      | none => false
     | none => false
    | none => false
   | _ => false
  | _ => false
 | .eqp neq, [ox, oy] => match o.op with
  | .binOp op t x y _ => match P.underlying t with
   | some (.pointer _) => decide (op = if neq then .neq else .eql) && (bO x ox && bO y oy)
   | _ => false
  | _ => false
 | .appd size bytes _, [ox, oy] => match o.op with
  | .call { callee := .builtin .append, args := ⟨[x, y]⟩, argTypes := ⟨[t, t']⟩ } => match P.underlying t with
   | some (.slice e) => match P.info? e with
    | some i => match i.zero with
     | some z => decide (t = t') && (decide ((i.size = size ∧ i.bytes = bytes ∧ z.cells.size = size) ∧ size ≠ 0) && (bO x ox && bO y oy))
     | none => false
    | none => false
   | _ => false
  | _ => false
 | .bsld _ n _, os => match o.op with
  | .buildSlice t m parts => match P.underlying t with
   | some (.slice e) => match P.info? e with
    | some i => i.zero.isSome && (decide (m = n ∧ i.size = 1 ∧ n ≤ 16777216) && (decide (n ≤ maxLen) && (bSeq 0 parts.toList && bOs (parts.toList.map (·.2)) os)))
    | none => false
   | _ => false
  | _ => false
 | .slx size, [ox, om] => match o.op with
  | .slice t x none (some m) none => match P.underlying t with
   | some (.slice e) => (bTy P e size true || bTy P e size false) && (bO x ox && bO m om)
   | _ => false
  | _ => false
 | .lookx q zero ok, [ox, oy] => match o.op with
  | .lookup t x y ok' => match P.underlying t with
   | some (.map kt et) => match P.info? et with
    | some i => match i.zero with
     | some zv => decide (ok' = ok) && (bKey P kt q && (bZV zero zv && (bO x ox && bO y oy)))
     | none => false
    | _ => false
   | _ => false
  | _ => false
 | .mupx q, [ox, oy, oz] => match o.op with
  | .mapUpdate t x y z => bMap P t q && (o.dst.isNone && (bO x ox && (bO y oy && bO z oz)))
  | _ => false
 | .mdel q, [ox, oy] => match o.op with
  | .call { callee := .builtin .delete, args := ⟨[x, y]⟩, argTypes := ⟨t :: _⟩ } => bMap P t q && (bO x ox && bO y oy)
  | _ => false
 | .mpe q, [ox, oy] => match o.op with
  | .mapEntry t x y => bMap P t q && (bO x ox && bO y oy)
  | _ => false
 | .lda n, [ox] => match o.op with
  | .load t x => bTy P t n true && bO x ox
  | _ => false
 | .ents, [ox, oy, oz] => match o.op with
  | .entryStore t x y z => o.dst.isNone && (bO x ox && (bO y oy && bO z oz))
  | _ => false
 | .mlen, [ox] => match o.op with
  | .call { callee := .builtin .len, args := ⟨[x]⟩, argTypes := ⟨[t]⟩ } => match P.underlying t with
   | some (.map _ _) => bO x ox
   | _ => false
  | _ => false
 | .callr f, os => match o.op with
  | .call { callee := .value (.func f'), args := xs, .. } => f' == f && bOs xs.toList os
  | _ => false
 | _, _ => false
theorem bTyE_ok {t : TypeId} {n : Nat} (h : (bTy P t n true || bTy P t n false) = true) : ∃ isA, TyIs P t n isA := by
 simp only [Bool.or_eq_true] at h
 rcases h with h | h
 ·exact ⟨_, bTy_ok h⟩
 ·exact ⟨_, bTy_ok h⟩
theorem chkO_ok {o : Oper} {κ : KO} {xs : List O} (h : chkO P o κ xs = true) : TrO P o κ xs := by
 unfold chkO at h
 split at h
 ·split at h
  ·simp only [Bool.and_eq_true] at h
   exact .ldo _ _ _ (bTy_ok h.1) _ _ (bO_ok h.2) ‹_›
  ·cases h
 ·(repeat' split at h) <;> try cases h
  simp only [Bool.and_eq_true, beq_iff_eq] at h
  obtain ⟨rfl, h2⟩ := h
  obtain ⟨p1, p2⟩ := bOs_ok h2
  exact .callo _ _ _ _ _ ‹_› (by simpa using p1) p2
 ·(repeat' split at h) <;> try cases h
  simp only [Bool.and_eq_true] at h
  obtain ⟨h1, h2⟩ := h
  obtain ⟨p1, p2⟩ := bOs_ok h2
  exact .callvo _ _ _ (bO_ok h1) _ _ _ ‹_› (by simpa using p1) p2
 ·(repeat' split at h) <;> try cases h
  simp only [Bool.and_eq_true] at h
  obtain ⟨h1, h2, h3⟩ := h
  obtain ⟨z1, z2⟩ := bZPs_ok h1
  obtain ⟨o1, o2⟩ := bOffs_ok h2
  obtain ⟨p1, p2⟩ := bOs_ok h3
  refine .bldo _ _ _ _ _ ‹_› _ ‹_› _ _ ‹_› ‹_› _ ‹_› (by simpa using z1) (fun i c v hc hv => z2 i c v hc (by simpa using hv)) (by simpa using o1) (by simpa using p1) (fun k p o hp ho => o2 k p o (by simpa using hp) ho) fun k p oo hp ho => p2 k p.2 oo (by rw [List.getElem?_map]; simp [hp]) ho
 ·split at h
  ·split at h
   ·rename_i hu
    simp only [Bool.and_eq_true, decide_eq_true_eq] at h
    obtain ⟨rfl, h2, h3⟩ := h
    exact .eqp _ _ _ _ _ _ _ (bO_ok h2) (bO_ok h3) ‹_› (by simp [Program.pointee, hu])
   ·cases h
  ·cases h
 ·(repeat' split at h) <;> try cases h
  simp only [Bool.and_eq_true, decide_eq_true_eq] at h
  obtain ⟨rfl, ⟨⟨h3, h4, h5⟩, h8⟩, h6, h7⟩ := h
  exact .appd _ _ _ _ _ _ _ _ _ (bO_ok h6) (bO_ok h7) ‹_› ‹_› _ _ ‹_› ‹_› h3 h4 h5 h8
 ·(repeat' split at h) <;> try cases h
  simp only [Bool.and_eq_true, decide_eq_true_eq] at h
  obtain ⟨h1, ⟨rfl, h3, h5⟩, h6, h7, h8⟩ := h
  obtain ⟨z, hz⟩ := Option.isSome_iff_exists.1 h1
  obtain ⟨p1, p2⟩ := bOs_ok h8
  exact .bsld _ _ _ _ _ _ _ _ ‹_› ‹_› _ z ‹_› hz h3 h5 h6 (bSeq_ok h7) p1 p2
 ·split at h
  ·split at h
   ·simp only [Bool.and_eq_true] at h
    obtain ⟨h1, h2, h3⟩ := h
    obtain ⟨isA, hty⟩ := bTyE_ok h1
    exact .slx _ isA _ _ _ _ _ _ (bO_ok h2) (bO_ok h3) ‹_› ‹_› hty
   ·cases h
  ·cases h
 ·(repeat' split at h) <;> try cases h
  simp only [Bool.and_eq_true, decide_eq_true_eq] at h
  obtain ⟨rfl, h0, h1, h2, h3⟩ := h
  exact .lookx _ _ _ _ _ _ _ _ _ _ _ _ (bO_ok h2) (bO_ok h3) ‹_› ‹_› (bKey_ok h0) ‹_› ‹_› (bZV_ok h1)
 ·split at h
  ·simp only [Bool.and_eq_true, Option.isNone_iff_eq_none] at h
   obtain ⟨h1, h2, h3, h4, h5⟩ := h
   obtain ⟨kt, et, e1, e2⟩ := bMap_ok h1
   exact .mupx _ _ _ _ _ _ _ _ _ _ (bO_ok h3) (bO_ok h4) (bO_ok h5) ‹_› h2 e1 e2
  ·cases h
 ·(repeat' split at h) <;> try cases h
  simp only [Bool.and_eq_true] at h
  obtain ⟨h1, h2, h3⟩ := h
  obtain ⟨kt, et, e1, e2⟩ := bMap_ok h1
  exact .mdel _ _ _ _ _ _ _ _ _ (bO_ok h2) (bO_ok h3) ‹_› rfl e1 e2
 ·split at h
  ·simp only [Bool.and_eq_true] at h
   obtain ⟨h1, h3, h4⟩ := h
   obtain ⟨kt, et, e1, e2⟩ := bMap_ok h1
   exact .mpe _ _ _ _ _ _ _ _ (bO_ok h3) (bO_ok h4) ‹_› e1 e2
  ·cases h
 ·split at h
  ·simp only [Bool.and_eq_true] at h
   exact .lda _ _ (bTy_ok h.1) _ _ (bO_ok h.2) ‹_›
  ·cases h
 ·split at h
  ·simp only [Bool.and_eq_true, Option.isNone_iff_eq_none] at h
   obtain ⟨h2, h3, h4, h5⟩ := h
   exact .ents _ _ _ _ _ _ _ (bO_ok h3) (bO_ok h4) (bO_ok h5) ‹_› h2
  ·cases h
 ·(repeat' split at h) <;> try cases h
  exact .mlen _ _ _ _ _ (bO_ok h) ‹_› ‹_›
 ·(repeat' split at h) <;> try cases h
  simp only [Bool.and_eq_true, beq_iff_eq] at h
  obtain ⟨rfl, h2⟩ := h
  obtain ⟨p1, p2⟩ := bOs_ok h2
  exact .callr _ _ _ _ ‹_› (by simpa using p1) p2
 ·cases h
def chk (P : Program) (o : Oper) : Kd → List O → Bool
 | .mov _, [ox] => match o.op with
  | .move x => bO x ox
  | .assign x => bO x ox
  | _ => false
 | .pick, [oc, ox, oy] => match o.op with
  | .pick c x y => bO c oc && (bO x ox && bO y oy)
  | _ => false
 | .box _ size, [ox] => match o.op with
  | .box _ x => decide (size ≠ 0) && bO x ox
  | _ => false
 | .alloc _ size zero, [] => match o.op with
  | .alloc t => match P.info? t with
   | some i => match i.zero with
    | some z => decide (size ≠ 0) && bZs zero z.cells.toList
    | none => false
   | none => false
  | _ => false
 | .build zero offs, os => match o.op with
  | .build t parts => match P.underlying t with
   | some (.struct fields) => match P.info? t with
    | some it => match it.zero with
     | some z => match fields.toList.mapM (fun f => (P.info? f.type).map fun i => (f.offset, i.size)) with
      | some places => bZPs zero z.cells.toList && (bOffs places zero.length parts.toList offs && bOs (parts.toList.map (·.2)) os)
      | none => false
     | none => false
    | none => false
   | _ => false
  | _ => false
 | .bsl size n, os => match o.op with
  | .buildSlice t m parts => match P.underlying t with
   | some (.slice e) => match P.info? e with
    | some i => i.zero.isSome && (o.dst.isSome && (decide (m = n ∧ i.size = size ∧ 0 < size ∧ n * size ≤ 16777216) && (decide (n ≤ maxLen) && (bSeq 0 parts.toList && bOs (parts.toList.map (·.2)) os))))
    | none => false
   | _ => false
  | _ => false
 | .load n isA _, [ox] => match o.op with
  | .load t x => bTy P t n isA && bO x ox
  | _ => false
 | .loadp n isA, [ox] => match o.op with
  | .load t x => bTy P t n isA && bO x ox
  | _ => false
 | .store n, [ox, oy] => match o.op with
  | .store t x y => (bTy P t n true || bTy P t n false) && (bO x ox && (bO y oy && (o.dst.isNone && (match oy, ox with | .t m, .t m' => m != m' | _, _ => true))))
  | _ => false
 | .bin op, [ox, oy] => match o.op with
  | .binOp op' _ x y _ => decide (op' = op) && (bO x ox && bO y oy)
  | _ => false
 | .eqnil neq, [ox, oy] => match o.op with
  | .binOp op t x y _ => match P.underlying t with
   | some (.slice _) => decide (op = if neq then .neq else .eql) && (bO x ox && (bO y oy && (match oy with | .t _ => false | _ => true)))
   | _ => false
  | _ => false
 | .un op, [ox] => match o.op with
  | .unOp op' _ x => decide (op' = op) && bO x ox
  | _ => false
 | .conv k, [ox] => match o.op with
  | .convert src dst x => match P.underlying dst with
   | some (.int k') => decide (k' = k) && ((P.underlying src).isSome && bO x ox)
   | _ => false
  | _ => false
 | .fad off, [ox] => match o.op with
  | .fieldAddr t x f => match P.underlying t with
   | some (.struct fs) => match fs[f]? with
    | some fd => match P.info? fd.type with
     | some i => decide (i.size ≠ 0 ∧ fd.offset = off) && bO x ox
     | none => false
    | none => false
   | _ => false
  | _ => false
 | .fld off n isA, [ox] => match o.op with
  | .field t x f => match P.underlying t with
   | some (.struct fs) => match fs[f]? with
    | some fd => bTy P fd.type n isA && (decide (fd.offset = off) && bO x ox)
    | none => false
   | _ => false
  | _ => false
 | .iad size, [ox, oi] => match o.op with
  | .indexAddr t x ix => match P.underlying t with
   | some (.slice e) => (bTy P e size true || bTy P e size false) && (bO x ox && bO ix oi)
   | _ => false
  | _ => false
 | .sidx, [ox, oi] => match o.op with
  | .index t x ix => match P.underlying t with
   | some .string => bO x ox && bO ix oi
   | _ => false
  | _ => false
 | .len, [ox] => match o.op with
  | .call { callee := .builtin .len, args := ⟨[x]⟩, argTypes := ⟨[t]⟩ } => match P.underlying t with
   | some (.slice _) => bO x ox
   | _ => false
  | _ => false
 | .lenD, [ox] => match o.op with
  | .call { callee := .builtin .len, args := ⟨[x]⟩, argTypes := ⟨[t]⟩ } => match P.underlying t with
   | some (.slice _) => bO x ox
   | _ => false
  | _ => false
 | .slen, [ox] => match o.op with
  | .call { callee := .builtin .len, args := ⟨[x]⟩, argTypes := ⟨[t]⟩ } => match P.underlying t with
   | some .string => bO x ox
   | _ => false
  | _ => false
 | .mn, [ox, oy] => match o.op with
  | .call { callee := .builtin .min, args := ⟨[x, y]⟩, argTypes := ⟨[t, t']⟩ } => decide (t = t') && (bO x ox && bO y oy)
  | _ => false
 | .mx, [ox, oy] => match o.op with
  | .call { callee := .builtin .max, args := ⟨[x, y]⟩, argTypes := ⟨[t, t']⟩ } => decide (t = t') && (bO x ox && bO y oy)
  | _ => false
 | .app size bytes, [ox, oy] => match o.op with
  | .call { callee := .builtin .append, args := ⟨[x, y]⟩, argTypes := ⟨[t, t']⟩ } => match P.underlying t with
   | some (.slice e) => match P.info? e with
    | some i => match i.zero with
     | some z => decide (t = t') && (o.dst.isSome && (decide (i.size = size ∧ i.bytes = bytes ∧ z.cells.size = size) && (bO x ox && bO y oy)))
     | none => false
    | none => false
   | _ => false
  | _ => false
 | .ext j, [ox] => match o.op with
  | .extract x j' => j' == j && bO x ox
  | _ => false
 | .extp j, [ox] => match o.op with
  | .extract x j' => j' == j && bO x ox
  | _ => false
 | .call f, os => match o.op with
  | .call { callee := .value (.func f'), args := xs, .. } => f' == f && bOs xs.toList os
  | _ => false
 | .callv, ox :: os => match o.op with
  | .call { callee := .value x, args := xs, .. } => bO x ox && bOs xs.toList os
  | _ => false
 | .mkfn f, os => match o.op with
  | .makeFunc (.func f') ⟨[]⟩ caps => f' == f && bOs caps.toList os
  | _ => false
 | .mksl _ size bytes _ zero, [ox, oy] => match o.op with
  | .makeSlice t x y => match P.underlying t with
   | some (.slice e) => match P.info? e with
    | some i => match i.zero with
     | some z => decide ((i.size = size ∧ i.bytes = bytes) ∧ size ≠ 0) && (bZs zero z.cells.toList && (bO x ox && bO y oy))
     | none => false
    | none => false
   | _ => false
  | _ => false
 | .slc size lo hi, ox :: ys => match o.op with
  | .slice t x l h none => match P.underlying t with
   | some (.slice e) => (bTy P e size true || bTy P e size false) && (bO x ox && (decide (lo = l.isSome) && (decide (hi = h.isSome) && (match l, h, ys with
    | some l, some m, [ol, om] => bO l ol && bO m om
    | some l, none, [ol] => bO l ol
    | none, some m, [om] => bO m om
    | _, _, _ => false))))
   | _ => false
  | _ => false
 | .nilchk, [ox] => match o.op with
  | .nilCheck x => bO x ox
  | _ => false
 | .ssl lo hi, ox :: ys => match o.op with
  | .slice t x l h none => match P.underlying t with
   | some .string => bO x ox && (decide (lo = l.isSome) && (decide (hi = h.isSome) && (match l, h, ys with
    | some l, some m, [ol, om] => bO l ol && bO m om
    | some l, none, [ol] => bO l ol
    | none, some m, [om] => bO m om
    | _, _, _ => false)))
   | _ => false
  | _ => false
 | .slb _ size, [ox, om] => match o.op with
  | .slice t x none (some m) none => match P.underlying t with
   | some (.slice e) => (bTy P e size true || bTy P e size false) && (bO x ox && bO m om)
   | _ => false
  | _ => false
 | .stk, _ => true
 | .mkmap _, [] => match o.op with
  | .makeMap _ none => true
  | _ => false
 | .look q zero, [ox, oy] => match o.op with
  | .lookup t x y false => match P.underlying t with
   | some (.map kt et) => match P.underlying kt, P.info? et with
    | some (.int q'), some i => match i.zero with
     | some zv => decide (q' = q) && (bZP zero zv && (bO x ox && bO y oy))
     | none => false
    | _, _ => false
   | _ => false
  | _ => false
 | .mupd q, [ox, oy, oz] => match o.op with
  | .mapUpdate t x y z => match P.underlying t with
   | some (.map kt _) => match P.underlying kt with
    | some (.int q') => decide (q' = q) && (o.dst.isNone && (bO x ox && (bO y oy && bO z oz)))
    | _ => false
   | _ => false
  | _ => false
 | .eqat true, [ox, _] => match o.op with
  | .binOp .neq t x (.const .nilIface) _ => match P.underlying t with
   | some (.interface _) => bO x ox
   | _ => false
  | _ => false
 | .eqs n neq, [ox, oy] => match o.op with
  | .binOp op t x y _ => match P.underlying t with
   | some (.struct fs) => decide (op = if neq then .neq else .eql) && (decide (fs.toList.length = n) && (bFlds P fs.toList 0 && (!P.stoodInHeld t && (!P.eqGuardType P.depth t && (bO x ox && bO y oy)))))
   | _ => false
  | _ => false
 | .eqb neq, [ox, oy] => match o.op with
  | .binOp op t x y _ => match P.underlying t with
   | some .bool => decide (op = if neq then .neq else .eql) && (bO x ox && bO y oy)
   | _ => false
  | _ => false
 | .mkz size bytes row, [ox, oy] => match o.op, o.dst with
  | .makeSlice t x y, some _ => match P.underlying t with
   | some (.slice e) => match P.info? e with
    | some i => match i.zero with
     | some z => decide ((i.size = size ∧ i.bytes = bytes) ∧ 0 < size) && (bZPs (rowCells row) z.cells.toList && (bO x ox && bO y oy))
     | none => false
    | none => false
   | _ => false
  | _, _ => false
 | .s2b, [ox] => match o.op with
  | .convert src dst x => match P.underlying src, P.underlying dst with
   | some .string, some (.slice e) => match P.underlying e with
    | some (.int .u8) => bO x ox
    | _ => false
   | _, _ => false
  | _ => false
 | .callm f _, os => match o.op with
  | .call { callee := .value (.func f'), args := xs, .. } => f' == f && bOs xs.toList os
  | _ => false
 | .ob κ, os => chkO P o κ os
 | _, _ => false
theorem bTy2_ok {t : TypeId} {n : Nat} (h : (bTy P t n true || bTy P t n false) = true) : ∃ isA, TyIs P t n isA := by
 simp only [Bool.or_eq_true] at h
 rcases h with h | h
 ·exact ⟨_, bTy_ok h⟩
 ·exact ⟨_, bTy_ok h⟩
theorem isSomeE {α : Type} {x : Option α} (h : x.isSome = true) : ∃ y, x = some y := Option.isSome_iff_exists.1 h
theorem chk_ok {o : Oper} {κ : Kd} {xs : List O} (h : chk P o κ xs = true) : Tr P o κ xs := by
 unfold chk at h
 split at h
 ·split at h
  ·exact .mov _ _ _ (bO_ok h) (.inl ‹_›)
  ·exact .mov _ _ _ (bO_ok h) (.inr ‹_›)
  ·cases h
 ·split at h
  ·simp only [Bool.and_eq_true] at h
   exact .pick _ _ _ _ _ _ (bO_ok h.1) (bO_ok h.2.1) (bO_ok h.2.2) ‹_›
  ·cases h
 ·split at h
  ·simp only [Bool.and_eq_true, decide_eq_true_eq] at h
   exact .box _ _ _ _ _ (bO_ok h.2) ‹_› h.1
  ·cases h
 ·(repeat' split at h) <;> try cases h
  simp only [Bool.and_eq_true, decide_eq_true_eq] at h
  exact .alloc _ _ _ _ _ _ ‹_› ‹_› ‹_› (bZs_ok h.2) h.1
 ·(repeat' split at h) <;> try cases h
  simp only [Bool.and_eq_true] at h
  obtain ⟨h1, h2, h3⟩ := h
  obtain ⟨z1, z2⟩ := bZPs_ok h1
  obtain ⟨o1, o2⟩ := bOffs_ok h2
  obtain ⟨p1, p2⟩ := bOs_ok h3
  refine .build _ _ _ _ _ ‹_› _ ‹_› _ _ ‹_› ‹_› _ ‹_› (by simpa using z1) (fun i c v hc hv => z2 i c v hc (by simpa using hv)) (by simpa using o1) (by simpa using p1) (fun k p o hp ho => o2 k p o (by simpa using hp) ho) fun k p oo hp ho => p2 k p.2 oo (by rw [List.getElem?_map]; simp [hp]) ho
 ·(repeat' split at h) <;> try cases h
  simp only [Bool.and_eq_true, decide_eq_true_eq] at h
  obtain ⟨h1, h2, ⟨rfl, h3, h4, h5⟩, h6, h7, h8⟩ := h
  obtain ⟨z, hz⟩ := isSomeE h1
  obtain ⟨d, hd⟩ := isSomeE h2
  obtain ⟨p1, p2⟩ := bOs_ok h8
  exact .bsl _ _ _ _ _ _ _ ‹_› d hd ‹_› _ z ‹_› hz h3 h4 h5 h6 (bSeq_ok h7) p1 p2
 ·split at h
  ·simp only [Bool.and_eq_true] at h
   exact .load _ _ _ _ (bTy_ok h.1) _ _ (bO_ok h.2) ‹_›
  ·cases h
 ·split at h
  ·simp only [Bool.and_eq_true] at h
   exact .loadp _ _ _ (bTy_ok h.1) _ _ (bO_ok h.2) ‹_›
  ·cases h
 ·split at h
  ·simp only [Bool.and_eq_true] at h
   obtain ⟨h1, h2, h3, h4, h5⟩ := h
   obtain ⟨isA, hty⟩ := bTy2_ok h1
   refine .store _ isA _ hty _ _ _ _ (bO_ok h2) (bO_ok h3) ‹_› (by simpa using h4) fun m e1 e2 => ?_
   subst e1
   subst e2
   simp at h5
  ·cases h
 ·split at h
  ·simp only [Bool.and_eq_true, decide_eq_true_eq] at h
   obtain ⟨rfl, h2, h3⟩ := h
   exact .bin _ _ _ _ _ _ _ (bO_ok h2) (bO_ok h3) ‹_›
  ·cases h
 ·split at h
  ·split at h
   ·simp only [Bool.and_eq_true, decide_eq_true_eq] at h
    obtain ⟨rfl, h2, h3, h4⟩ := h
    refine .eqnil _ _ _ _ _ _ _ _ (bO_ok h2) (bO_ok h3) ‹_› ‹_› fun n e => ?_
    subst e
    simp at h4
   ·cases h
  ·cases h
 ·split at h
  ·simp only [Bool.and_eq_true, decide_eq_true_eq] at h
   obtain ⟨rfl, h2⟩ := h
   exact .un _ _ _ _ (bO_ok h2) ‹_›
  ·cases h
 ·(repeat' split at h) <;> try cases h
  simp only [Bool.and_eq_true, decide_eq_true_eq] at h
  obtain ⟨rfl, h2, h3⟩ := h
  exact .conv _ _ _ _ _ (bO_ok h3) ‹_› (isSomeE h2) ‹_›
 ·(repeat' split at h) <;> try cases h
  simp only [Bool.and_eq_true, decide_eq_true_eq] at h
  obtain ⟨⟨h1, h2⟩, h3⟩ := h
  exact .fad _ _ _ _ _ (bO_ok h3) ‹_› _ _ _ ‹_› ‹_› ‹_› h1 h2
 ·(repeat' split at h) <;> try cases h
  simp only [Bool.and_eq_true, decide_eq_true_eq] at h
  obtain ⟨h1, h2, h3⟩ := h
  exact .fld _ _ _ _ _ _ _ (bO_ok h3) ‹_› _ _ ‹_› ‹_› (bTy_ok h1) h2
 ·(repeat' split at h) <;> try cases h
  simp only [Bool.and_eq_true] at h
  obtain ⟨h1, h2, h3⟩ := h
  obtain ⟨isA, hty⟩ := bTy2_ok h1
  exact .iad _ isA _ _ _ _ _ _ (bO_ok h2) (bO_ok h3) ‹_› ‹_› hty
 ·(repeat' split at h) <;> try cases h
  simp only [Bool.and_eq_true] at h
  exact .sidx _ _ _ _ _ (bO_ok h.1) (bO_ok h.2) ‹_› ‹_›
 ·(repeat' split at h) <;> try cases h
  exact .len _ _ _ _ (bO_ok h) ‹_› ‹_›
 ·(repeat' split at h) <;> try cases h
  exact .lenD _ _ _ _ (bO_ok h) ‹_› ‹_›
 ·(repeat' split at h) <;> try cases h
  exact .slen _ _ _ (bO_ok h) ‹_› ‹_›
 ·(repeat' split at h) <;> try cases h
  simp only [Bool.and_eq_true, decide_eq_true_eq] at h
  obtain ⟨rfl, h2, h3⟩ := h
  exact .minmax false _ _ _ _ _ (bO_ok h2) (bO_ok h3) ‹_›
 ·(repeat' split at h) <;> try cases h
  simp only [Bool.and_eq_true, decide_eq_true_eq] at h
  obtain ⟨rfl, h2, h3⟩ := h
  exact .minmax true _ _ _ _ _ (bO_ok h2) (bO_ok h3) ‹_›
 ·(repeat' split at h) <;> try cases h
  simp only [Bool.and_eq_true, decide_eq_true_eq] at h
  obtain ⟨rfl, h2, ⟨h3, h4, h5⟩, h6, h7⟩ := h
  obtain ⟨d, hd⟩ := isSomeE h2
  exact .app _ _ _ _ _ _ _ _ (bO_ok h6) (bO_ok h7) ‹_› d hd ‹_› _ _ ‹_› ‹_› h3 h4 h5
 ·(repeat' split at h) <;> try cases h
  simp only [Bool.and_eq_true, beq_iff_eq] at h
  obtain ⟨rfl, h2⟩ := h
  exact .ext _ _ _ (bO_ok h2) ‹_›
 ·(repeat' split at h) <;> try cases h
  simp only [Bool.and_eq_true, beq_iff_eq] at h
  obtain ⟨rfl, h2⟩ := h
  exact .extp _ _ _ (bO_ok h2) ‹_›
 ·(repeat' split at h) <;> try cases h
  simp only [Bool.and_eq_true, beq_iff_eq] at h
  obtain ⟨rfl, h2⟩ := h
  obtain ⟨p1, p2⟩ := bOs_ok h2
  exact .call _ _ _ _ ‹_› (by simpa using p1) p2
 ·(repeat' split at h) <;> try cases h
  simp only [Bool.and_eq_true] at h
  obtain ⟨h1, h2⟩ := h
  obtain ⟨p1, p2⟩ := bOs_ok h2
  exact .callv _ _ (bO_ok h1) _ _ _ ‹_› (by simpa using p1) p2
 ·(repeat' split at h) <;> try cases h
  simp only [Bool.and_eq_true, beq_iff_eq] at h
  obtain ⟨rfl, h2⟩ := h
  obtain ⟨p1, p2⟩ := bOs_ok h2
  exact .mkfn _ _ _ ‹_› (by simpa using p1) p2
 ·(repeat' split at h) <;> try cases h
  simp only [Bool.and_eq_true, decide_eq_true_eq] at h
  obtain ⟨⟨⟨h1, h2⟩, h0⟩, h3, h4, h5⟩ := h
  exact .mksl _ _ _ _ _ _ _ _ _ _ _ (bO_ok h4) (bO_ok h5) ‹_› ‹_› _ _ ‹_› ‹_› h1 h2 (bZs_ok h3) h0
 ·split at h
  ·split at h
   ·simp only [Bool.and_eq_true, decide_eq_true_eq] at h
    obtain ⟨h1, h2, rfl, rfl, h3⟩ := h
    obtain ⟨isA, hty⟩ := bTy2_ok h1
    refine .slc _ isA _ _ _ _ _ _ _ (bO_ok h2) ‹_› ‹_› hty ?_
    split at h3
    ·simp only [Bool.and_eq_true] at h3; exact ⟨bO_ok h3.1, bO_ok h3.2⟩
    ·exact bO_ok h3
    ·exact bO_ok h3
    ·cases h3
   ·cases h
  ·cases h
 ·split at h
  ·exact .nilchk _ _ (bO_ok h) ‹_›
  ·cases h
 ·split at h
  ·split at h
   ·simp only [Bool.and_eq_true, decide_eq_true_eq] at h
    obtain ⟨h2, rfl, rfl, h3⟩ := h
    refine .ssl _ _ _ _ _ _ (bO_ok h2) ‹_› ‹_› ?_
    split at h3
    ·simp only [Bool.and_eq_true] at h3; exact ⟨bO_ok h3.1, bO_ok h3.2⟩
    ·exact bO_ok h3
    ·exact bO_ok h3
    ·cases h3
   ·cases h
  ·cases h
 ·split at h
  ·split at h
   ·simp only [Bool.and_eq_true] at h
    obtain ⟨h1, h2, h3⟩ := h
    obtain ⟨isA, hty⟩ := bTy2_ok h1
    exact .slb _ _ isA _ _ _ _ _ _ (bO_ok h2) (bO_ok h3) ‹_› ‹_› hty
   ·cases h
  ·cases h
 ·exact .stk _
 ·split at h
  ·exact .mkmap _ _ ‹_›
  ·cases h
 ·split at h
  ·split at h
   ·split at h
    ·split at h
     ·simp only [Bool.and_eq_true, decide_eq_true_eq] at h
      obtain ⟨rfl, h⟩ := h
      exact .look _ _ _ _ _ _ _ _ _ _ _ (bO_ok h.2.1) (bO_ok h.2.2) ‹_› ‹_› ‹_› ‹_› ‹_› (bZP_ok h.1)
     ·cases h
    ·cases h
   ·cases h
  ·cases h
 ·split at h
  ·split at h
   ·split at h
    ·simp only [Bool.and_eq_true, Option.isNone_iff_eq_none, decide_eq_true_eq] at h
     obtain ⟨rfl, h⟩ := h
     exact .mupd _ _ _ _ _ _ _ _ _ _ (bO_ok h.2.1) (bO_ok h.2.2.1) (bO_ok h.2.2.2) ‹_› h.1 ‹_› ‹_›
    ·cases h
   ·cases h
  ·cases h
 ·split at h
  ·split at h
   ·exact .eqat _ _ _ _ _ _ (bO_ok h) ‹_› ‹_›
   ·cases h
  ·cases h
 ·split at h
  ·split at h
   ·rename_i hu
    simp only [Bool.and_eq_true, decide_eq_true_eq, Bool.not_eq_true'] at h
    obtain ⟨rfl, h1, h2, h3, h4, h5, h6⟩ := h
    have hfs := fieldsOf_eq hu
    refine .eqs _ _ _ _ _ _ _ _ (bO_ok h5) (bO_ok h6) ‹_› (by rw [hfs]; exact hu) h3 h4 (by rw [hfs]; exact h1) fun i f hf => ?_
    rw [hfs] at hf
    have := bFlds_ok h2 i f hf
    rw [Nat.zero_add] at this
    exact this
   ·cases h
  ·cases h
 ·split at h
  ·split at h
   ·simp only [Bool.and_eq_true, decide_eq_true_eq] at h
    obtain ⟨rfl, h5, h6⟩ := h
    exact .eqb _ _ _ _ _ _ _ (bO_ok h5) (bO_ok h6) ‹_› ‹_›
   ·cases h
  ·cases h
 ·(repeat' split at h) <;> try cases h
  simp only [Bool.and_eq_true, decide_eq_true_eq] at h
  obtain ⟨⟨⟨h1, h2⟩, h0⟩, h3, h4, h5⟩ := h
  have hz := bZPs_ok h3
  exact .mkz _ _ _ _ _ _ _ _ _ (bO_ok h4) (bO_ok h5) ‹_› _ ‹_› ‹_› _ _ ‹_› ‹_› h1 h2 (by simpa using hz.1) (fun i c v hc hv => hz.2 i c v hc (by simpa using hv)) h0
 ·split at h
  ·split at h
   ·split at h
    ·exact .s2b _ _ _ _ _ (bO_ok h) ‹_› ‹_› ‹_› ‹_›
    ·cases h
   ·cases h
  ·cases h
 ·(repeat' split at h) <;> try cases h
  simp only [Bool.and_eq_true, beq_iff_eq] at h
  obtain ⟨rfl, h2⟩ := h
  obtain ⟨p1, p2⟩ := bOs_ok h2
  exact .callm _ _ _ _ _ ‹_› (by simpa using p1) p2
 ·exact .ob _ _ (chkO_ok h)
 ·cases h
def chkJ (P : Program) (o : Oper) (κ : Kd) (xs : List O) : Bool :=
 match κ with
 | .at _ κ' => (newBox κ').isNone && (!growB κ' && chk P o κ' xs)
 | .pl κ' => (newBox κ').isNone && (!growB κ' && chk P o κ' xs)
 | κ' => chk P o κ' xs
theorem chkJ_ok {o : Oper} {κ : Kd} {xs : List O} (h : chkJ P o κ xs = true) : TrJ P o κ xs := by
 unfold chkJ at h
 split at h
 ·simp only [Bool.and_eq_true, Option.isNone_iff_eq_none, Bool.not_eq_true'] at h
  exact .at _ _ _ (chk_ok h.2.2) h.1 h.2.1
 ·simp only [Bool.and_eq_true, Option.isNone_iff_eq_none, Bool.not_eq_true'] at h
  exact .pl _ _ (chk_ok h.2.2) h.1 h.2.1
 ·exact .base _ _ (chk_ok h)
def chkI (P : Program) (ops : Array Oper) (o : Oper) (i : Ins) : Bool :=
 decide (i.d = o.dst) && (chkJ P o i.k i.xs && match o.guard, i.g with
  | none, none => true
  | some (j, want), some (t, want') => want == want' && decide ((ops[j]?).bind (·.dst) = some t)
  | _, _ => false)
theorem chkI_ok {ops : Array Oper} {o : Oper} {i : Ins} (h : chkI P ops o i = true) : TrI P ops o i := by
 simp only [chkI, Bool.and_eq_true, decide_eq_true_eq] at h
 refine ⟨h.1, chkJ_ok h.2.1, ?_⟩
 have h3 := h.2.2
 split at h3
 ·rename_i e1 e2; rw [e1, e2]; trivial
 ·rename_i e1 e2; rw [e1, e2]; simpa using h3
 ·cases h3
def chkL (P : Program) (ops : Array Oper) : List Oper → List Ins → Bool
 | [], [] => true
 | o :: os, i :: is => chkI P ops o i && chkL P ops os is
 | _, _ => false
theorem chkL_ok {ops : Array Oper} : ∀ {os : List Oper} {is : List Ins}, chkL P ops os is = true → os.length = is.length ∧ ∀ (k : Nat) i, is[k]? = some i → ∃ o, os[k]? = some o ∧ TrI P ops o i
 | [], [], _ => ⟨rfl, fun k i h => by simp at h⟩
 | o :: os, i :: is, h => by
  simp only [chkL, Bool.and_eq_true] at h
  obtain ⟨e1, e2⟩ := chkL_ok h.2
  refine ⟨by simp [e1], fun k j hj => ?_⟩
  cases k with
  | zero => simp at hj; subst hj; exact ⟨o, rfl, chkI_ok h.1⟩
  | succ k => obtain ⟨o', h1, h2⟩ := e2 k j (by simpa using hj); exact ⟨o', by simpa using h1, h2⟩
 | [], _ :: _, h => by simp [chkL] at h
 | _ :: _, [], h => by simp [chkL] at h
def chkE : Nat → List Oper → List (Ins × List Nat) → Bool
 | k, o :: os, p :: ps => edgesB o k p.2 && chkE (k + 1) os ps
 | _, _, _ => true
theorem chkE_ok : ∀ {os : List Oper} {l : List (Ins × List Nat)} {k : Nat}, chkE k os l = true → ∀ (j : Nat) o p, os[j]? = some o → l[j]? = some p → edgesB o (k + j) p.2 = true
 | [], _, _, _, j, o, p, h, _ => by simp at h
 | _ :: _, [], _, _, j, o, p, _, h => by simp at h
 | o0 :: os, p0 :: ps, k, h, j, o, p, ho, hp => by
  simp only [chkE, Bool.and_eq_true] at h
  cases j with
  | zero => simp at ho hp; subst ho; subst hp; exact h.1
  | succ j => rw [show k + (j + 1) = (k + 1) + j by omega]; exact chkE_ok h.2 j o p (by simpa using ho) (by simpa using hp)
def fsts : List (Ins × List Nat) → List Ins
 | [] => []
 | p :: l => p.1 :: fsts l
theorem fsts_eq (l : List (Ins × List Nat)) : fsts l = l.map (·.1) := by induction l with | nil => rfl | cons p l ih => simp [fsts, ih]
def chkC (P : Program) : C → Code → Bool
 | .stuck, _ => true
 | .skip, .skip => true
 | .reg is, .region _ ops false => chkL P ops ops.toList is
 | .regd is, .region _ ops true => P.follows .mixedOrders && (chkL P ops ops.toList is && pairsB ops is)
 | .rega is, .region _ ops true => P.follows .mixedOrders && (chkL P ops ops.toList is && (stB is && pairsW indepA ops is))
 | .regm is, .region _ ops true => P.follows .mixedOrders && (chkL P ops ops.toList is && (stM is && pairsW indepM ops is))
 | .seq a b, .seq x y => chkC P a x && chkC P b y
 | .cond o a b, .cond c x y => bO c o && (chkC P a x && chkC P b y)
 | .block id a, .block id' x => id' == id && chkC P a x
 | .loop _ _ a, .loop x => chkC P a x
 | .exit id, .exit id' => id' == id
 | .ret, .ret => true
 | .pre _ _ _ a, x => chkC P a x
 | .own _ _ _ a, x => chkC P a x
 | .gh _ a, x => chkC P a x
 | .gp a _, x => chkC P a x
 | .regx l, .region _ ops true => P.follows .mixedOrders && (chkL P ops ops.toList (fsts l) && chkE 0 ops.toList l)
 | _, _ => false
theorem chkC_ok : ∀ {c : C} {x : Code}, chkC P c x = true → TrC P c x := by
 intro c
 induction c with
 | stuck => intro x _; exact .stuck x
 | skip => intro x h; cases x <;> simp [chkC] at h; exact .skip
 | reg is =>
  intro x h
  cases x <;> try (simp [chkC] at h; done)
  rename_i id ops dr
  cases dr with
  | true => simp [chkC] at h
  | false =>
   obtain ⟨e1, e2⟩ := chkL_ok (show chkL P ops ops.toList is = true from h)
   exact .reg id ops is (by simpa using e1) fun k i hi => by obtain ⟨o, h1, h2⟩ := e2 k i hi; exact ⟨o, by simpa using h1, h2⟩
 | regd is =>
  intro x h
  cases x <;> try (simp [chkC] at h; done)
  rename_i id ops dr
  cases dr with
  | false => simp [chkC] at h
  | true =>
   simp only [chkC, Bool.and_eq_true] at h
   obtain ⟨h0, h1, h2⟩ := h
   obtain ⟨e1, e2⟩ := chkL_ok h1
   exact .regd id ops is h0 (by simpa using e1) (fun k i hi => by obtain ⟨o, h1, h2⟩ := e2 k i hi; exact ⟨o, by simpa using h1, h2⟩) h2
 | rega is =>
  intro x h
  cases x <;> try (simp [chkC] at h; done)
  rename_i id ops dr
  cases dr with
  | false => simp [chkC] at h
  | true =>
   simp only [chkC, Bool.and_eq_true] at h
   obtain ⟨h0, h1, h2, h3⟩ := h
   obtain ⟨e1, e2⟩ := chkL_ok h1
   exact .rega id ops is h0 (by simpa using e1) (fun k i hi => by obtain ⟨o, h1, h2⟩ := e2 k i hi; exact ⟨o, by simpa using h1, h2⟩) h2 h3
 | regm is =>
  intro x h
  cases x <;> try (simp [chkC] at h; done)
  rename_i id ops dr
  cases dr with
  | false => simp [chkC] at h
  | true =>
   simp only [chkC, Bool.and_eq_true] at h
   obtain ⟨h0, h1, h2, h3⟩ := h
   obtain ⟨e1, e2⟩ := chkL_ok h1
   exact .regm id ops is h0 (by simpa using e1) (fun k i hi => by obtain ⟨o, h1, h2⟩ := e2 k i hi; exact ⟨o, by simpa using h1, h2⟩) h2 h3
 | seq a b iha ihb => intro x h; cases x <;> simp [chkC] at h; exact .seq _ _ _ _ (iha h.1) (ihb h.2)
 | cond o a b iha ihb => intro x h; cases x <;> simp [chkC] at h; exact .cond _ _ _ _ _ _ (bO_ok h.1) (iha h.2.1) (ihb h.2.2)
 | block id a iha => intro x h; cases x <;> simp [chkC] at h; obtain ⟨rfl, h⟩ := h; exact .block _ _ _ (iha h)
 | loop fs ds a iha => intro x h; cases x <;> simp [chkC] at h; exact .loop _ _ _ _ (iha h)
 | exit id => intro x h; cases x <;> simp [chkC] at h; subst h; exact .exit _
 | ret => intro x h; cases x <;> simp [chkC] at h; exact .ret
 | pre fs zs ds a iha => intro x h; exact .pre _ _ _ _ _ (iha h)
 | own i k ag a iha => intro x h; exact .own _ _ _ _ _ (iha h)
 | gh g a iha => intro x h; exact .gh _ _ _ (iha h)
 | gp a g iha => intro x h; exact .gp _ _ _ (iha h)
 | regx l =>
  intro x h
  cases x <;> try (simp [chkC] at h; done)
  rename_i id ops dr
  cases dr with
  | false => simp [chkC] at h
  | true =>
   simp only [chkC, Bool.and_eq_true] at h
   obtain ⟨h0, h1, h2⟩ := h
   obtain ⟨e1, e2⟩ := chkL_ok h1
   refine .regx id ops l h0 (by simpa [fsts_eq] using e1) fun k p hp => ?_
   obtain ⟨o, g1, g2⟩ := e2 k p.1 (by rw [fsts_eq, List.getElem?_map, hp]; rfl)
   exact ⟨o, by simpa using g1, g2, by simpa using chkE_ok h2 k o p g1 hp⟩
def chkRV (P : Program) : List ResultVar → List RV → Bool
 | [], [] => true
 | .tmp t :: rs, .tmp t' :: l => t' == t && chkRV P rs l
 | .cell t ty :: rs, .cell t' n :: l => t' == t && (bTy P ty n true && chkRV P rs l)
 | _, _ => false
theorem chkRV_ok : ∀ {rs : List ResultVar} {l : List RV}, chkRV P rs l = true → RVs P rs l
 | [], [], _ => .nil
 | .tmp t :: rs, .tmp t' :: l, h => by simp [chkRV] at h; obtain ⟨rfl, h⟩ := h; exact .tmp _ _ _ (chkRV_ok h)
 | .cell t ty :: rs, .cell t' n :: l, h => by simp [chkRV] at h; obtain ⟨rfl, h1, h2⟩ := h; exact .cell _ _ _ _ _ (bTy_ok h1) (chkRV_ok h2)
 | [], _ :: _, h => by simp [chkRV] at h
 | _ :: _, [], h => by simp [chkRV] at h
 | .tmp _ :: _, .cell _ _ :: _, h => by simp [chkRV] at h
 | .cell _ _ :: _, .tmp _ :: _, h => by simp [chkRV] at h
structure Fn where
 n : Nat
 nb : Nat
 rv : List RV
 c : C
def chkF (P : Program) (f : FuncId) (F : Fn) : Bool :=
 match P.funcs[f]? with
 | some fn => match fn.body with
  | some code => fn.ntmps == F.n && (chkRV P fn.results.toList F.rv && (decide (F.rv.map locOf).Nodup && (chkC P F.c code && fn.name != "runtime.NumGoroutine")))
  | none => false
 | none => false
def Fn.post (F : Fn) (r : DV) (s : St) : Prop := rets s F.rv fun xs => resOf xs = r
def Fn.vc (P : Program) (F : Fn) (args : List PV) (r : DV) : Prop :=
 Vc.vc P F.c (St0 F.n F.nb args) (F.post r) (fun _ _ => False) (F.post r)
theorem Fn.pure {f : FuncId} {F : Fn} (h : chkF P f F = true) {args : List PV} {r : DV} (hr : r.plain = true) (hv : F.vc P args r) : PureCall P f args r := by
 unfold chkF at h
 split at h
 ·rename_i fn hf
  split at h
  ·rename_i code hb
   simp only [Bool.and_eq_true, beq_iff_eq, decide_eq_true_eq, bne_iff_ne] at h
   obtain ⟨h1, h2, h3, h4, h5⟩ := h
   exact pure_of_vc hf hb h5 (chkC_ok h4) (chkRV_ok h2) h3 hr (by rw [h1]; exact hv)
  ·cases h
 ·cases h
def Fn.postM (F : Fn) (size : Nat) (rows' : List (List DV)) (r : DV) (s : St) : Prop := getB s.b F.nb = some ⟨true, size, rows', true⟩ ∧ rets s F.rv fun xs => resOf xs = r
theorem Fn.mcall {f : FuncId} {F : Fn} (h : chkF P f F = true) {size : Nat} {args : List DV} {rows rows' : List (List DV)} {r : DV} (hr : r.plain = true) (hrows : allPR rows = true) (hrows' : allPR rows' = true) (hargs : args.all DV.arg = true) (hsz0 : size ≠ 0)
  (hv : Vc.vc P F.c (St1 F.n F.nb args size rows) (F.postM size rows' r) (fun _ _ => False) (F.postM size rows' r)) : MCall P f size args rows rows' r := by
 unfold chkF at h
 split at h
 ·rename_i fn hf
  split at h
  ·rename_i code hb
   simp only [Bool.and_eq_true, beq_iff_eq, decide_eq_true_eq, bne_iff_ne] at h
   obtain ⟨h1, h2, h3, h4, h5⟩ := h
   exact mcall_of_vc hf hb h5 (chkC_ok h4) (chkRV_ok h2) h3 hr hrows hrows' hargs hsz0 (by rw [h1]; exact hv)
  ·cases h
 ·cases h
def Fn.postO (F : Fn) (m : Nat) (bs' : List (Option Box)) (r : DV) (s : St) : Prop := retsO s F.rv fun r0 => finO s.b F.nb m r0 = (bs', r)
theorem Fn.ocall {f : FuncId} {F : Fn} (h : chkF P f F = true) {args : List DV} {bs : List Box} {bs' : List (Option Box)} {r : DV} (hr : (r.plain || r.isRef) = true) (hbs : liveO bs = true) (hlen : Nat.ble bs.length bs'.length = true)
  (hv : Vc.vc P F.c (StO F.n F.nb args bs) (F.postO bs.length bs' r) (fun _ _ => False) (F.postO bs.length bs' r)) : OCall P f args bs bs' r := by
 unfold chkF at h
 split at h
 ·rename_i fn hf
  split at h
  ·rename_i code hb
   simp only [Bool.and_eq_true, beq_iff_eq, decide_eq_true_eq, bne_iff_ne] at h
   obtain ⟨h1, h2, h3, h4, h5⟩ := h
   exact ocall_of_vc hf hb h5 (chkC_ok h4) (chkRV_ok h2) h3 hr hbs hlen (by rw [h1]; exact hv)
  ·cases h
 ·cases h
end Go.Proofs.YtnjphclbpgajpaaGreatDoor.Vc
namespace Go.Proofs.YtnjphclbpgajpaaGreatDoor.Vc
open Go.RowKit
variable {P : Program}
abbrev mv (d x : Nat) : Ins := ⟨some d, none, .mov false, [.t x]⟩
abbrev mt (d x : Nat) : Ins := ⟨some d, none, .mov true, [.t x]⟩
abbrev mc (d : Nat) (x : PV) : Ins := ⟨some d, none, .mov true, [.c (.p x)]⟩
abbrev fa (d o x : Nat) : Ins := ⟨some d, none, .fad o, [.t x]⟩
abbrev ld (d x : Nat) : Ins := ⟨some d, none, .load 1 false false, [.t x]⟩
abbrev b2 (d : Nat) (op : BinOp) (x y : Nat) : Ins := ⟨some d, none, .bin op, [.t x, .t y]⟩
abbrev b1 (d : Nat) (op : BinOp) (x : Nat) (y : PV) : Ins := ⟨some d, none, .bin op, [.t x, .c (.p y)]⟩
abbrev ii (d : Nat) (κ : Kd) (xs : List O) : Ins := ⟨some d, none, κ, xs⟩
abbrev gt (d j : Nat) (κ : Kd) (xs : List O) : Ins := ⟨some d, some (j, true), κ, xs⟩
abbrev gf (d j : Nat) (κ : Kd) (xs : List O) : Ins := ⟨some d, some (j, false), κ, xs⟩
def setK {α : Type} (l : List α) : Nat → α → (List α → Prop) → Prop :=
 List.rec (motive := fun _ => Nat → α → (List α → Prop) → Prop) (fun _ _ K => K []) (fun x xs ih n v K => Nat.rec (motive := fun _ => Prop) (K (v :: xs)) (fun n _ => ih n v fun ys => K (x :: ys)) n) l
theorem setK_eq {α : Type} (l : List α) (n : Nat) (v : α) (K : List α → Prop) : setK l n v K = K (setL l n v) := by
 induction l generalizing n K with
 | nil => rfl
 | cons x xs ih => cases n with
  | zero => rfl
  | succ n => exact ih n fun ys => K (x :: ys)
def spK {α : Type} (l : List α) : (List α → Prop) → Prop :=
 List.rec (motive := fun _ => (List α → Prop) → Prop) (fun K => K []) (fun x _ ih K => ih fun ys => K (x :: ys)) l
theorem spK_eq {α : Type} (l : List α) (K : List α → Prop) : spK l K = K l := by
 induction l generalizing K with
 | nil => rfl
 | cons x xs ih => exact ih fun ys => K (x :: ys)
def putK (t : List DV) (d : Option Nat) (v : DV) (K : List DV → Prop) : Prop :=
 match d with
 | some i => dvK v fun v => setK t i v K
 | none => K t
theorem putK_eq (t : List DV) (d : Option Nat) (v : DV) (K : List DV → Prop) : putK t d v K = K (putD t d v) := by
 cases d with
 | none => rfl
 | some i => simp only [putK, putD, dvK_eq, setK_eq]
def cpK (t : List DV) (n : Nat) (K : List DV → Prop) : Prop := dvK (getT t n).copy fun v => setK t n v K
def degK : Kd → List O → List DV → (List DV → Prop) → Prop
 | .mov true, [.t n], t, K => cpK t n K
 | .app _ _, .t n :: _, t, K => cpK t n K
 | .store _, [_, .t n], t, K => cpK t n K
 | .ext j, [.t n], t, K => spK (degr (.ext j) [.t n] t) K
 | _, _, t, K => K t
theorem degK_eq (κ : Kd) (xs : List O) (t : List DV) (K : List DV → Prop) : degK κ xs t K = K (degr κ xs t) := by
 unfold degK
 split
 ·simp only [cpK, dvK_eq, setK_eq, degr]
 ·simp only [cpK, dvK_eq, setK_eq, degr]
 ·simp only [cpK, dvK_eq, setK_eq, degr]
 ·rw [spK_eq]
 ·rename_i h1 h2 h3 h4
  unfold degr
  split
  ·exact (h1 _ rfl rfl).elim
  ·exact (h2 _ _ _ _ rfl rfl).elim
  ·exact (h3 _ _ _ rfl rfl).elim
  ·exact (h4 _ _ rfl rfl).elim
  ·rfl
def freshB (i : Ins) (s : St) : Bool :=
 match newBox i.k with
 | some k => decide (k < s.b.length) && (noRefT k (putD s.t i.d .top) && noRefB k 0 s.b)
 | none => bif growB i.k then ltT s.b.length (putD s.t i.d .top) && ltB s.b.length s.b else true
theorem freshB_eq (i : Ins) (s : St) : (freshB i s = true) = fresh i s := by
 unfold freshB fresh
 split
 ·rename_i k hk; rw [hk]; simp [and_assoc]
 ·rename_i hk; rw [hk]; cases growB i.k <;> simp
def exV (P : Program) (i : Ins) (s : St) (K : St → Prop) : Prop :=
 testB (freshB i s) (semJ P i.k (i.xs.map (O.val s.t)) s.b fun v b' => degK i.k.core i.xs s.t fun t => putK t i.d v fun t => spK b' fun b' => K ⟨t, b'⟩)
def exG (P : Program) (i : Ins) (s : St) (K : St → Prop) : Prop :=
 match i.g with
 | none => exV P i s K
 | some (j, want) => match getT s.t j with
  | .p (.bool c) => (c = want → setK s.t j (.p (.bool want)) fun t => exV P i ⟨t, s.b⟩ K) ∧ (c = (!want) → setK s.t j (.p (.bool (!want))) fun t => putK t i.d (.tup []) fun t => K ⟨t, s.b⟩)
  | .tup [] => putK s.t i.d (.tup []) fun t => K ⟨t, s.b⟩
  | _ => False
def exS (P : Program) (l : List Ins) : St → (St → Prop) → Prop :=
 List.rec (motive := fun _ => St → (St → Prop) → Prop) (fun s K => K s) (fun i _ ih s K => exG P i s fun s' => ih s' K) l
theorem exS_cons (P : Program) (i : Ins) (is : List Ins) (s : St) (K : St → Prop) : exS P (i :: is) s K = exG P i s fun s' => exS P is s' K := rfl
theorem exV_eq (i : Ins) (s : St) (K : St → Prop) : exV P i s K = exec P i s K := by
 unfold exV exec
 rw [testB_eq, freshB_eq]
 simp only [degK_eq, putK_eq, spK_eq]
theorem exG_eq (i : Ins) (s : St) (K : St → Prop) : exG P i s K = execG P i s K := by
 unfold exG execG
 simp only [setK_eq, putK_eq, exV_eq]
 cases i.g with
 | none => rfl
 | some g =>
  obtain ⟨j, want⟩ := g
  simp only
  cases getT s.t j with
  | p x => cases x <;> rfl
  | tup ds => cases ds <;> rfl
  | _ => rfl
theorem exS_eq (is : List Ins) (s : St) (K : St → Prop) : exS P is s K = execs P is s K := by
 induction is generalizing s K with
 | nil => rfl
 | cons i is ih => rw [exS_cons]; simp only [execs, exG_eq, ih]
def forgetK (t : List DV) (ns : List Nat) (K : List DV → Prop) : Prop :=
 List.rec (motive := fun _ => List DV → (List DV → Prop) → Prop) (fun t K => K t) (fun n _ ih t K => setK t n .top fun t => ih t K) ns t K
theorem forgetK_cons (t : List DV) (n : Nat) (ns : List Nat) (K : List DV → Prop) : forgetK t (n :: ns) K = setK t n .top fun t => forgetK t ns K := rfl
theorem forgetK_eq (t : List DV) (ns : List Nat) (K : List DV → Prop) : forgetK t ns K = K (forget t ns) := by
 induction ns generalizing t with
 | nil => rfl
 | cons n ns ih => rw [forgetK_cons]; simp only [forget, setK_eq, ih]
def dropK (t : List (Option Box)) (ns : List Nat) (K : List (Option Box) → Prop) : Prop :=
 List.rec (motive := fun _ => List (Option Box) → (List (Option Box) → Prop) → Prop) (fun t K => K t) (fun n _ ih t K => setK t n none fun t => ih t K) ns t K
theorem dropK_cons (t : List (Option Box)) (n : Nat) (ns : List Nat) (K : List (Option Box) → Prop) : dropK t (n :: ns) K = setK t n none fun t => dropK t ns K := rfl
theorem dropK_eq (t : List (Option Box)) (ns : List Nat) (K : List (Option Box) → Prop) : dropK t ns K = K (dropB t ns) := by
 induction ns generalizing t with
 | nil => rfl
 | cons n ns ih => rw [dropK_cons]; simp only [dropB, setK_eq, ih]
abbrev EvT := St → (St → Prop) → (Nat → St → Prop) → (St → Prop) → Prop
noncomputable def ev (P : Program) (c : C) : EvT :=
 C.rec (motive := fun _ => EvT)
  (fun _ _ _ _ => False)
  (fun s n _ _ => n s)
  (fun ops s n _ _ => exS P ops s n)
  (fun ops s n _ _ => exS P ops s n)
  (fun ops s n _ _ => testB (invB ops s) (exS P ops s n))
  (fun _ _ iha ihb s n x r => iha s (fun s' => ihb s' n x r) x r)
  (fun c _ _ iha ihb s n x r => match c, c.val s.t with
   | .t j, .p (.bool t) => (t = true → setK s.t j (.p (.bool true)) fun t => iha ⟨t, s.b⟩ n x r) ∧ (t = false → setK s.t j (.p (.bool false)) fun t => ihb ⟨t, s.b⟩ n x r)
   | .c _, .p (.bool t) => (t = true → iha s n x r) ∧ (t = false → ihb s n x r)
   | _, _ => False)
  (fun id _ ih s n x r => ih s n (fun j s' => if j = id then n s' else x j s') r)
  (fun fs ds _ ih s _ x r => ∃ k, forgetK s.t fs fun t => dropK s.b ds fun b => iter (fun s' N => ih s' (fun s2 => forgetK s2.t fs fun t => dropK s2.b ds fun b => N ⟨t, b⟩) x r) k ⟨t, b⟩)
  (fun id s _ x _ => x id s)
  (fun s _ _ r => r s)
  (fun fs zs ds _ ih s n x r => fixB s.b zs fun b => forgetK s.t fs fun t => dropK b ds fun b => ih ⟨t, b⟩ n x r)
  (fun i k ag _ ih s n x r => match getT s.t i with
   | .ow size _ rows => testB (decide (size ≠ 0) && (decide (k < s.b.length) && (noRefT k s.t && (noRefB k 0 s.b && (scalT i 0 s.t && scalB k 0 s.b))))) (rows ≠ [] ∧ scalR (ownRows rows) = true ∧
     setK s.t i (.bs k size ag 0 rows.length) fun t => setK s.b k (some ⟨true, size, ownRows rows, false⟩) fun b => ih ⟨t, b⟩ n x r)
   | _ => False)
  (fun ops s n _ _ => anyT P (ops.length + 1) (idxX 0 ops) s n)
  (fun ops s n _ _ => testB (invM ops s) (exS P ops s n))
  (fun g _ ih s n x r => ghK P g s fun s' => spK s'.t fun t => spK s'.b fun b => ih ⟨t, b⟩ n x r)
  (fun _ g ih s n x r => ih s (fun s' => ghK P g s' fun s' => spK s'.t fun t => spK s'.b fun b => n ⟨t, b⟩) x r) c
theorem ev_eq : ∀ (c : C) (s : St) (n : St → Prop) (x : Nat → St → Prop) (r : St → Prop), ev P c s n x r = vc P c s n x r := by
 intro c
 induction c with
 | stuck => intros; rfl
 | skip => intros; rfl
 | reg ops => intros; show exS P _ _ _ = _; simp only [vc, exS_eq]
 | regd ops => intros; show exS P _ _ _ = _; simp only [vc, exS_eq]
 | rega ops => intros; show testB _ (exS P _ _ _) = _; simp only [vc, exS_eq, testB_eq]
 | regm ops => intros; show testB _ (exS P _ _ _) = _; simp only [vc, exS_eq, testB_eq]
 | gp c g ih =>
  intro s n x r
  show ev P c s (fun s' => ghK P g s' fun s' => spK s'.t fun t => spK s'.b fun b => n ⟨t, b⟩) x r = _
  simp only [vc, spK_eq, ih]
 | gh g c ih =>
  intro s n x r
  show ghK P g s (fun s' => spK s'.t fun t => spK s'.b fun b => ev P c ⟨t, b⟩ n x r) = _
  simp only [vc, spK_eq, ih]
 | seq a b iha ihb => intro s n x r; show ev P a s (fun s' => ev P b s' n x r) x r = _; simp only [vc, iha, ihb]
 | cond c a b iha ihb =>
  intro s n x r
  show (match c, c.val s.t with
   | .t j, .p (.bool t) => (t = true → setK s.t j (.p (.bool true)) fun t => ev P a ⟨t, s.b⟩ n x r) ∧ (t = false → setK s.t j (.p (.bool false)) fun t => ev P b ⟨t, s.b⟩ n x r)
   | .c _, .p (.bool t) => (t = true → ev P a s n x r) ∧ (t = false → ev P b s n x r)
   | _, _ => False) = _
  simp only [vc, iha, ihb, setK_eq]
  cases c with
  | t j =>
   simp only [O.val]
   cases getT s.t j with
   | p z => cases z <;> rfl
   | _ => rfl
  | c d =>
   simp only [O.val]
   cases d with
   | p z => cases z <;> rfl
   | _ => rfl
 | block id c ih => intro s n x r; show ev P c s n (fun j s' => if j = id then n s' else x j s') r = _; simp only [vc, ih]
 | loop fs ds c ih =>
  intro s n x r
  show (∃ k, forgetK s.t fs fun t => dropK s.b ds fun b => iter (fun s' N => ev P c s' (fun s2 => forgetK s2.t fs fun t => dropK s2.b ds fun b => N ⟨t, b⟩) x r) k ⟨t, b⟩) = _
  simp only [vc, ih, forgetK_eq, dropK_eq]
 | exit id => intros; rfl
 | regx ops => intros; simp only [vc]; rfl
 | ret => intros; rfl
 | pre fs zs ds c ih =>
  intro s n x r
  show (fixB s.b zs fun b => forgetK s.t fs fun t => dropK b ds fun b => ev P c ⟨t, b⟩ n x r) = _
  simp only [vc, ih, forgetK_eq, dropK_eq]
 | own i k ag c ih =>
  intro s n x r
  show (match getT s.t i with
   | .ow size _ rows => testB (decide (size ≠ 0) && (decide (k < s.b.length) && (noRefT k s.t && (noRefB k 0 s.b && (scalT i 0 s.t && scalB k 0 s.b))))) (rows ≠ [] ∧ scalR (ownRows rows) = true ∧
     setK s.t i (.bs k size ag 0 rows.length) fun t => setK s.b k (some ⟨true, size, ownRows rows, false⟩) fun b => ev P c ⟨t, b⟩ n x r)
   | _ => False) = _
  simp only [vc]
  cases getT s.t i with
  | ow size nl rows => simp only [testB_eq, setK_eq, ih]
  | _ => rfl
theorem iter_inv {F : St → (St → Prop) → Prop} (I : Nat → St → Prop) (hs : ∀ n s (N : St → Prop), I n s → (∀ m s', m < n → I m s' → N s') → F s N) :
  ∀ (k n : Nat) (s : St), n < k → I n s → iter F k s := by
 intro k
 induction k with
 | zero => exact fun n s h => by omega
 | succ k ih => exact fun n s hn hI => hs n s _ hI fun m s' hm hI' => ih m s' (by omega) hI'
theorem loop_inv {T : List DV} {fs : List Nat} {B : List (Option Box)} {ds : List Nat} {F : St → (St → Prop) → Prop} (I : Nat → St → Prop) (n : Nat) (h0 : forgetK T fs fun t => dropK B ds fun b => I n ⟨t, b⟩)
  (hs : ∀ n t b (N : St → Prop), I n ⟨t, b⟩ → (∀ m s', m < n → I m s' → N s') → spK t fun t => spK b fun b => F ⟨t, b⟩ N) : ∃ k, forgetK T fs fun t => dropK B ds fun b => iter F k ⟨t, b⟩ := by
 rw [forgetK_eq, dropK_eq] at h0
 refine ⟨n + 1, ?_⟩
 rw [forgetK_eq, dropK_eq]
 exact iter_inv I (fun n s N hI hN => by have := hs n s.t s.b N hI hN; rwa [spK_eq, spK_eq] at this) _ _ _ (Nat.lt_succ_self n) h0
def mkT (n : Nat) : List (Nat × DV) → List DV
 | [] => List.replicate n .top
 | (i, d) :: l => setL (mkT n l) i d
theorem wrapE {n : Int} (h1 : -9223372036854775808 ≤ n) (h2 : n ≤ 9223372036854775807) : IntKind.wrap .i64 n = n := by
 have e : (2 : Int) ^ (64 : Nat) = 18446744073709551616 := by decide
 have e' : (2 : Int) ^ (63 : Nat) = 9223372036854775808 := by decide
 simp only [IntKind.wrap, IntKind.signed, IntKind.bits]
 simp only [Bool.true_and, decide_eq_true_eq, e, e', ge_iff_le, Nat.add_one_sub_one, Nat.reduceSub]
 split <;> omega
class No (A : Prop) : Prop where no : ¬ A
instance : No (true = false) := ⟨by decide⟩
instance : No (false = true) := ⟨by decide⟩
instance : No ((!true) = true) := ⟨by decide⟩
instance : No ((!false) = false) := ⟨by decide⟩
instance : No (true = !true) := ⟨by decide⟩
instance : No (false = !false) := ⟨by decide⟩
instance : No ((!true) = !false) := ⟨by decide⟩
instance : No ((!false) = !true) := ⟨by decide⟩
instance {a b c : Bool} [h : No (a = c)] : No ((if true = true then a else b) = c) := ⟨fun e => h.no (by simpa using e)⟩
instance {a b c : Bool} [h : No (b = c)] : No ((if false = true then a else b) = c) := ⟨fun e => h.no (by simpa using e)⟩
class Opp (x y : Bool) : Prop where no : x ≠ y
instance : Opp true false := ⟨by decide⟩
instance : Opp false true := ⟨by decide⟩
instance : Opp true (!true) := ⟨by decide⟩
instance : Opp false (!false) := ⟨by decide⟩
theorem opN {c x y : Bool} [o : Opp x y] (h : c = x) : ¬ (c = y) := fun e => o.no (h.symm.trans e)
theorem zP {A B C D : Prop} (k : B) (h : ¬ C := by first | exact No.no | exact opN (x := true) (by assumption) | exact opN (x := false) (by assumption)) : (A → B) ∧ (C → D) := ⟨fun _ => k, fun c => (h c).elim⟩
theorem zL {A B C D : Prop} (k : D) (h : ¬ A := by first | exact No.no | exact opN (x := true) (by assumption) | exact opN (x := false) (by assumption)) : (A → B) ∧ (C → D) := ⟨fun c => (h c).elim, fun _ => k⟩
theorem zX {α : Type} {p K : α → Prop} {x : α} (k : K x) (h : p x := by assumption) : ∃ x, p x ∧ K x := ⟨x, h, k⟩
theorem zn {n : Nat} {K : Prop} (k : K) : (0 : Int) ≤ (n : Int) ∧ K := ⟨Int.natCast_nonneg _, k⟩
theorem zb {a b : Nat} {K : Prop} (h : Nat.ble a b = true) (k : K) : a ≤ b ∧ K := ⟨Nat.le_of_ble_eq_true h, k⟩
theorem zo {α : Type} {a b : α} {B K : Prop} (h : a = b) (k : K) : (a = b ∨ B) ∧ K := ⟨.inl h, k⟩
theorem zs {A K : Prop} (k : K) (h : A := by first | assumption | decide | (simp only [List.length_nil, List.length_cons, List.length_map, List.length_append]; omega) | (refine List.forall_mem_cons.2 ⟨rfl, ?_⟩; (repeat' first | exact fun _ h => absurd h List.not_mem_nil | refine List.forall_mem_cons.2 ⟨rfl, ?_⟩); done)) : A ∧ K := ⟨h, k⟩
theorem Fn.run {f : FuncId} {F : Fn} (h : chkF P f F = true) {args : List PV} {r : DV} (hr : r.plain = true)
  (hv : ev P F.c (St0 F.n F.nb args) (F.post r) (fun _ _ => False) (F.post r)) : PureCall P f args r :=
 Fn.pure h hr (by unfold Fn.vc; rw [← ev_eq]; exact hv)
theorem Fn.runO {f : FuncId} {F : Fn} (h : chkF P f F = true) {args : List DV} {bs : List Box} {bs' : List (Option Box)} {r : DV} (hr : (r.plain || r.isRef) = true) (hbs : liveO bs = true) (hlen : Nat.ble bs.length bs'.length = true)
  (hv : ev P F.c (StO F.n F.nb args bs) (F.postO bs.length bs' r) (fun _ _ => False) (F.postO bs.length bs' r)) : OCall P f args bs bs' r :=
 Fn.ocall h hr hbs hlen (by rw [← ev_eq]; exact hv)
end Go.Proofs.YtnjphclbpgajpaaGreatDoor.Vc
