/- A function's contract out of the verification condition of its body. No condition. -/
import Derived.Test.YtkjghcbnmipgfaaGreatDoorVcCode
namespace Go.Proofs.YtkjghcbnmipgfaaGreatDoor.Vc
open Go.RowKit
variable {P : Program}

inductive RV where
  | tmp (t : Nat)
  | cell (t n : Nat)

def dvT (b : List (Option Box)) (K : TV → Prop) : DV → Prop
  | .p x => K (.p x)
  | .ow size n rows => K (.ow size n rows)
  | d => match d.frz b with
    | some x => K (.p x)
    | none => False

def ret1 (s : St) (K : TV → Prop) : RV → Prop
  | .tmp t => dvT s.b K (getT s.t t)
  | .cell t n => match getT s.t t with
    | .addr k sz r off => match getB s.b k with
      | some bx => sz = bx.size ∧ ∃ row, bx.rows[r]? = some row ∧ off + n ≤ row.length ∧ match pvsOf (takeD row off n) with
        | some cs => K (.p (.agg cs))
        | none => False
      | none => False
    | _ => False

def rets (s : St) : List RV → (List TV → Prop) → Prop
  | [], K => K []
  | r :: rs, K => ret1 s (fun x => rets s rs fun xs => K (x :: xs)) r

def resOf : List TV → DV
  | [x] => x.dv
  | xs => .tup xs

def St0 (n nb : Nat) (args : List PV) : St := ⟨args.map .p ++ List.replicate (n - args.length) .top, List.replicate nb none⟩

/-- The function's results are these. -/
inductive RVs (P : Program) : List ResultVar → List RV → Prop
  | nil : RVs P [] []
  | tmp (t : Nat) (rs : List ResultVar) (l : List RV) (h : RVs P rs l) : RVs P (.tmp t :: rs) (.tmp t :: l)
  | cell (t n : Nat) (ty : TypeId) (rs : List ResultVar) (l : List RV) (ht : TyIs P ty n true) (h : RVs P rs l) : RVs P (.cell t ty :: rs) (.cell t n :: l)

def locOf : RV → Loc
  | .tmp t => .tmp t
  | .cell t _ => .comp (.tmp t) 0

deriving instance DecidableEq for Loc

theorem box_agg {G : Gl} {X : Cx} {s : St} {a : Act} (h : Rel G X s a) {t : TypeId} {n : Nat} (ht : TyIs P t n true) {v : Value} {k sz r off : Nat} {L0 : Loc} (rx : VRel X G.base L0 (.addr k sz r off) v)
    {bx : Box} (hbk : getB s.b k = some bx) (hsz : sz = bx.size) {row : List DV} (hr : bx.rows[r]? = some row) (hle : off + n ≤ row.length) {xs : List PV} (hp : pvsOf (takeD row off n) = some xs) :
    ∃ u, (do loadVar t (← asAddr v) : Sem Value).run P X.w = .ok u X.w ∧ Flat X.M X.w (.agg xs) u := by
  obtain ⟨blk, hρ, ev⟩ := rx
  subst hsz
  have hbk' := getB_some hbk
  obtain ⟨blk', cs, ty, hb⟩ := h.cbox hbk' (getB_ne hbk)
  have : blk' = blk := by have := hb.ρ; rw [hρ] at this; injection this with h; exact h.symm
  subst this
  obtain ⟨e1, e2⟩ := pvsOf_get hp
  have hcell : ∀ j, j < n → ∃ u, X.w.cell? ⟨blk', r * bx.size + off + j, none⟩ = some u ∧ VRel X G.base (.cell k r (off + j)) (row[off + j]?.getD .top) u ∧ u.oneCell' = true := by
    intro j hj
    obtain ⟨u, _, h2, h3, h4⟩ := hb.cell hr (i := off + j) (by omega)
    refine ⟨u, by rw [Nat.add_assoc]; exact h2, ?_, h4⟩
    rw [List.getElem?_eq_getElem (by omega)]
    exact h3
  have hf : ∃ f : Nat → Value, ∀ j, j < n → X.w.cell? ⟨blk', r * bx.size + off + j, none⟩ = some (f j) ∧ VRel X G.base (.cell k r (off + j)) (row[off + j]?.getD .top) (f j) ∧ (f j).oneCell' = true := by
    refine ⟨fun j => if hj : j < n then (hcell j hj).choose else undef, fun j hj => ?_⟩
    simp only [dif_pos hj]
    exact (hcell j hj).choose_spec
  obtain ⟨f, hf⟩ := hf
  have hlen : xs.length = n := by rw [e1, takeD_eq]; simp; omega
  have hcs : ∀ (i : Nat) c, xs[i]? = some c → i < n ∧ Flat X.M X.w c (f i) ∧ c.one = true := by
    intro i c hc
    have hin : i < n := by rw [← hlen]; exact (List.getElem?_eq_some_iff.1 hc).1
    have hd : (takeD row off n)[i]? = some (row[off + i]?.getD .top) := by
      rw [takeD_eq, List.getElem?_take, if_pos hin, List.getElem?_drop, List.getElem?_eq_getElem (by omega)]; rfl
    have hpv := e2 i _ c hd hc
    have := pv_of (hf i hin).2.1 hpv
    exact ⟨hin, this, this.one_of_cell (hf i hin).2.2⟩
  have run := run_loadCells (P := P) X.w ⟨blk', r * bx.size + off, none⟩ n f (fun j hj => by rw [Addr.add_lit]; exact (hf j hj).1)
  refine ⟨.agg ((List.range n).map f).toArray, ?_, .agg _ _ (by simp [hlen]) ?_ ?_⟩
  · subst ev
    simp [asAddr, loadVar, ht.run_isAgg, ht.run_sizeOf, run]
  · intro c hc
    obtain ⟨i, hi⟩ := List.getElem?_of_mem hc
    exact (hcs i c hi).2.2
  · intro i c u hc hu
    obtain ⟨hin, h1, _⟩ := hcs i c hc
    have : u = f i := by simpa [hin, eq_comm] using hu
    subst this
    exact h1

/-- What the results hold. -/
theorem rets_ok {G : Gl} {X : Cx} {s : St} {a : Act} (h : Rel G X s a) {rs : List ResultVar} {l : List RV} (hr : RVs P rs l) : ∀ {K : List TV → Prop}, rets s l K →
    ∃ xs : List TV, ∃ vs : List Value, K xs ∧ xs.length = l.length ∧ vs.length = l.length ∧
      (∀ f : ResultVar → Sem Value, (∀ u, f (.tmp u) = pure (a.tmps.getD u undef)) → (∀ p t, f (.cell p t) = (do loadVar t (← asAddr (a.tmps.getD p undef)))) → (rs.mapM f).run P X.w = .ok vs X.w) ∧
      ∀ (j : Nat) d u rv, xs[j]? = some d → vs[j]? = some u → l[j]? = some rv → TRel X G.base (locOf rv) d u := by
  induction hr with
  | nil => exact fun {K} hK => ⟨[], [], hK, rfl, rfl, fun f _ _ => by simp, fun j d u rv hd => by simp at hd⟩
  | tmp t rs l _ ih =>
    intro K hK
    simp only [rets, ret1] at hK
    obtain ⟨hv⟩ : Nonempty (VRel X G.base (.tmp t) (getT s.t t) (a.tmps.getD t undef)) := ⟨h.get t⟩
    have key : ∃ d : TV, TRel X G.base (.tmp t) d (a.tmps.getD t undef) ∧ rets s l (fun xs => K (d :: xs)) := by
      generalize hg : getT s.t t = dv at *
      have other : ∀ {dv : DV}, VRel X G.base (.tmp t) dv (a.tmps.getD t undef) → (match dv.frz s.b with | some x => rets s l (fun xs => K (.p x :: xs)) | none => False) → ∃ d : TV, TRel X G.base (.tmp t) d (a.tmps.getD t undef) ∧ rets s l (fun xs => K (d :: xs)) := by
        intro dv hv hm
        cases hf : dv.frz s.b with
        | none => rw [hf] at hm; exact hm.elim
        | some x => rw [hf] at hm; exact ⟨.p x, frz h hv hf, hm⟩
      cases dv with
      | p x => exact ⟨.p x, hv, hK⟩
      | ow size n rows => exact ⟨.ow size n rows, hv, hK⟩
      | top => exact other hv hK
      | tup ds => exact other hv hK
      | addr k size r off => exact other hv hK
      | bs k size ag lo n => exact other hv hK
      | mh k => exact other hv hK
      | fn f caps => exact other hv hK
    obtain ⟨d, hd, hK⟩ := key
    obtain ⟨xs, vs, k1, k2, k3, k4, k5⟩ := ih hK
    refine ⟨d :: xs, a.tmps.getD t undef :: vs, k1, by simp [k2], by simp [k3], fun f h1 h2 => by simp [List.mapM_cons, h1, k4 f h1 h2], fun j e u rv he hu hrv => ?_⟩
    cases j with
    | zero => simp only [List.getElem?_cons_zero, Option.some.injEq] at he hu hrv; subst he; subst hu; subst hrv; exact hd
    | succ j => exact k5 j e u rv (by simpa using he) (by simpa using hu) (by simpa using hrv)
  | cell t n ty rs l ht _ ih =>
    intro K hK
    simp only [rets, ret1] at hK
    have hv := h.get t
    generalize hg : getT s.t t = dv at *
    cases dv with
    | addr k sz r off =>
      simp only at hK
      cases hbk : getB s.b k with
      | none => simp [hbk] at hK
      | some bx =>
        simp only [hbk] at hK
        obtain ⟨hsz, row, hrow, hle, hK⟩ := hK
        cases hp : pvsOf (takeD row off n) with
        | none => simp [hp] at hK
        | some cs =>
          simp only [hp] at hK
          obtain ⟨u, e1, e2⟩ := box_agg h ht hv hbk hsz hrow hle hp
          obtain ⟨xs, vs, k1, k2, k3, k4, k5⟩ := ih hK
          refine ⟨.p (.agg cs) :: xs, u :: vs, k1, by simp [k2], by simp [k3], fun f h1 h2 => ?_, fun j e v rv he hu hrv => ?_⟩
          · rw [List.mapM_cons, h2, Sem.run_bind, e1]
            simp [k4 f h1 h2]
          · cases j with
            | zero => simp at he hu hrv; subst he; subst hu; subst hrv; exact e2
            | succ j => exact k5 j e v rv (by simpa using he) (by simpa using hu) (by simpa using hrv)
    | _ => exact hK.elim

/-- The results' arrays change hands. -/
def handOver (ls : List Loc) (X : Cx) : Cx :=
  { X with own := fun g => match X.own g with
      | some L => (ls.idxOf? L).map fun j => if ls.length = 1 then .tmp 0 else .comp (.tmp 0) j
      | none => none }

theorem idxOf?_get {ls : List Loc} (hn : ls.Nodup) {j : Nat} {L : Loc} (h : ls[j]? = some L) : ls.idxOf? L = some j := by
  induction ls generalizing j with
  | nil => simp at h
  | cons x xs ih =>
    rw [List.nodup_cons] at hn
    cases j with
    | zero => simp at h; subst h; simp [List.idxOf?_cons]
    | succ j =>
      simp at h
      have hx : x ≠ L := by intro e; subst e; exact hn.1 (List.mem_of_getElem? h)
      simp [List.idxOf?_cons, hx, ih hn.2 h]

theorem TRel.handOver {X : Cx} {base : Nat} {ls : List Loc} (hn : ls.Nodup) {j : Nat} {L : Loc} (hj : ls[j]? = some L) {d : TV} {v : Value} (h : TRel X base L d v) :
    TRel (Vc.handOver ls X) base (if ls.length = 1 then .tmp 0 else .comp (.tmp 0) j) d v := by
  cases d with
  | p x => exact h
  | ow size n rows =>
    rcases h with h | ⟨h0, g, cap, cur, ty, g0, g1, g2, g3, g4, g5, g6⟩
    · exact .inl h
    · refine .inr ⟨h0, g, cap, cur, ty, g0, ?_, g2, g3, g4, g5, g6⟩
      show (match X.own g with | some L => _ | none => none) = _
      rw [g1]
      simp only
      rw [idxOf?_get hn hj]; rfl

theorem dv_rel {X : Cx} {base : Nat} {L : Loc} {d : TV} {v : Value} (h : TRel X base L d v) : VRel X base L d.dv v := by cases d <;> exact h

theorem args_get {n : Nat} (args : Array Value) (i : Nat) : (args ++ Array.replicate (n - args.size) undef).getD i undef = if h : i < args.size then args[i] else undef := by
  by_cases h : i < args.size
  · rw [dif_pos h]; simp [Array.getD, Array.getElem_append, h]; omega
  · rw [dif_neg h]
    simp [Array.getD, Array.getElem_append, h]

theorem pure_of_vc {f : FuncId} {fn : Func} {code : Code} {c : C} {nb : Nat} {args : List PV} {r : DV} {rvs : List RV} (hf : P.funcs[f]? = some fn) (hb : fn.body = some code) (hn : fn.name ≠ "runtime.NumGoroutine")
    (ht : TrC P c code) (hr : RVs P fn.results.toList rvs) (hnd : (rvs.map locOf).Nodup) (hrp : r.plain = true)
    (hv : vc P c (St0 fn.ntmps nb args) (fun s => rets s rvs fun xs => resOf xs = r) (fun _ _ => False) (fun s => rets s rvs fun xs => resOf xs = r)) : PureCall P f args r := by
  refine ⟨hrp, fun M0 w cargs hl hc => .inl ⟨⟨fn, hf, by rw [hb]; rfl, hn⟩, ?_⟩⟩
  · refine calls_of_wp hf hb ?_
    generalize hX : ({ ρ := fun _ => none, own := fun _ => none, M := M0, w := w, ex := fun _ => none } : Cx) = X
    have hrel : Rel ⟨w.heap.size, M0, w, fun _ => none⟩ X (St0 fn.ntmps nb args) { tmps := cargs ++ Array.replicate (fn.ntmps - cargs.size) undef, defers := [] } := by
      subst hX
      refine ⟨rfl, ?_, fun i d hd => ?_, fun k bx hk => ?_, BelowX.refl _ _ _, Nat.le_refl _, rfl, fun b _ _ o => Iff.rfl⟩
      · simp [St0, hl]
      · simp only [args_get]
        simp only [St0] at hd
        rw [List.getElem?_append] at hd
        simp only [List.length_map] at hd
        by_cases hi : i < args.length
        · rw [if_pos hi, List.getElem?_map] at hd
          rw [dif_pos (by omega)]
          cases hx : args[i]? with
          | none => rw [hx] at hd; simp at hd
          | some x =>
            rw [hx] at hd
            simp at hd
            subst hd
            exact hc i x _ hx (by simp [hl, hi])
        · rw [if_neg hi] at hd
          have := List.mem_of_getElem? hd
          simp at this
          rw [this.2]; trivial
      · simp only [St0] at hk
        have := List.mem_of_getElem? hk
        simp at this
    have fin : ∀ a w', Post ⟨w.heap.size, M0, w, fun _ => none⟩ (fun s => rets s rvs fun xs => resOf xs = r) a w' → bodyPost P fn (fun e w' => ∃ v X, e = .returned v ∧ X.w = w' ∧ VRel X w.heap.size (.tmp 0) r v ∧ (∀ b, b < w.heap.size → ∀ o, X.M b o ↔ M0 b o) ∧ Below w.heap.size w w') .ret a w' := by
      intro a w' ⟨s, X', h', e', hK⟩
      subst e'
      obtain ⟨xs, vs, k1, k2, k3, k4, k5⟩ := rets_ok h' hr hK
      subst k1
      have hres : (results fn a.tmps).run P X'.w = .ok (if h : vs.toArray.size = 1 then vs.toArray[0] else .tuple vs.toArray) X'.w := by
        unfold results
        rw [← Array.toArray_toList (xs := fn.results), List.mapM_toArray]
        simp only [Sem.run_bind, Sem.run_map]
        rw [k4 _ (fun _ => rfl) (fun _ _ => rfl)]
        rfl
      refine ⟨h'.defers, _, hres, _, handOver (rvs.map locOf) X', rfl, rfl, ?_, fun b hb o => h'.mold.2 b hb (fun _ h => by cases h) o, h'.below.below fun _ => rfl⟩
      have hloc : ∀ (j : Nat) d u, xs[j]? = some d → vs[j]? = some u → TRel (handOver (rvs.map locOf) X') w.heap.size (if (rvs.map locOf).length = 1 then .tmp 0 else .comp (.tmp 0) j) d u := by
        intro j d u hd hu
        have hj : j < rvs.length := by rw [← k2]; exact (List.getElem?_eq_some_iff.1 hd).1
        have hrv : rvs[j]? = some rvs[j] := by simp [hj]
        exact TRel.handOver hnd (j := j) (by rw [List.getElem?_map, hrv]; rfl) (k5 j d u _ hd hu hrv)
      match xs, vs, k2, k3, hloc with
      | [x], [v], k2, k3, hloc =>
        have := hloc 0 x v rfl rfl
        simp at k2
        rw [if_pos (by simp [← k2])] at this
        exact dv_rel this
      | [], [], k2, k3, hloc => exact ⟨#[], by simp, by simp, fun j d u hd => by simp at hd⟩
      | x :: y :: xs, vs, k2, k3, hloc =>
        have hvl : vs.length = xs.length + 2 := by rw [k3, ← k2]; rfl
        refine ⟨vs.toArray, by simp [hvl], by simp [hvl], fun j d u hd hu => ?_⟩
        have := hloc j d u hd (by simpa using hu)
        rw [if_neg (by simp [← k2])] at this
        exact this
      | [x], [], k2, k3, _ => simp at k2 k3; omega
      | [x], _ :: _ :: _, k2, k3, _ => simp at k2 k3; omega
      | [], _ :: _, k2, k3, _ => simp at k2 k3; omega
    have e0 : X.w = w := by subst hX; rfl
    have hwp := vc_ok ht hrel hv
    rw [e0] at hwp
    refine wp_mono hwp fun e a w' hq => ?_
    cases e with
    | normal => exact fin a w' hq
    | ret => exact fin a w' hq
    | exit j => obtain ⟨_, _, _, _, h⟩ := hq; exact h.elim
    | _ => exact hq.elim

/-- A parameter that speaks of the block that was handed in, by the number that this function has for it. -/
def renD (nb : Nat) : DV → DV
  | .bs _ sz ag lo n => .bs nb sz ag lo n
  | .addr _ sz r o => .addr nb sz r o
  | d => d
def St1 (n nb : Nat) (args : List DV) (size : Nat) (rows : List (List DV)) : St :=
  ⟨args.map (renD nb) ++ List.replicate (n - args.length) .top, List.replicate nb none ++ [some ⟨true, size, rows, true⟩]⟩
/-- An argument of a call that hands in a block. -/
def DV.arg : DV → Bool
  | .p _ => true
  | .bs k _ _ _ _ | .addr k _ _ _ => k == 0
  | _ => false

theorem mcall_of_vc {f : FuncId} {fn : Func} {code : Code} {c : C} {nb size : Nat} {args : List DV} {rows rows' : List (List DV)} {r : DV} {rvs : List RV} (hf : P.funcs[f]? = some fn) (hb : fn.body = some code) (hn : fn.name ≠ "runtime.NumGoroutine")
    (ht : TrC P c code) (hr : RVs P fn.results.toList rvs) (hnd : (rvs.map locOf).Nodup) (hrp : r.plain = true) (hrows : allPR rows = true) (hrows' : allPR rows' = true) (hargs : args.all DV.arg = true) (hsz0 : size ≠ 0)
    (hv : vc P c (St1 fn.ntmps nb args size rows) (fun s => getB s.b nb = some ⟨true, size, rows', true⟩ ∧ rets s rvs fun xs => resOf xs = r) (fun _ _ => False) (fun s => getB s.b nb = some ⟨true, size, rows', true⟩ ∧ rets s rvs fun xs => resOf xs = r)) : MCall P f size args rows rows' r := by
  refine ⟨⟨fn, hf, by rw [hb]; rfl, hn⟩, hrp, hrows', fun M0 w cargs blk cs ty hl hbx hc => ?_⟩
  · refine calls_of_wp hf hb ?_
    have hlt : blk < w.heap.size := (Array.getElem?_eq_some_iff.1 hbx.heap).1
    generalize hX : ({ ρ := fun i => if i = nb then some blk else none, own := fun g => if g = blk then some (.box nb) else none, M := M0, w := w, ex := fun i => if i = nb then some blk else none } : Cx) = X
    have hXM : X.M = M0 := by subst hX; rfl
    have hXw : X.w = w := by subst hX; rfl
    have hXρ : X.ρ nb = some blk := by subst hX; simp
    have hpv : ∀ {L : Loc} {x : PV} {v : Value}, VRel (mcx M0 w blk) w.heap.size L (.p x) v → Flat M0 w x v := fun h => h
    have hrel : Rel ⟨w.heap.size, M0, w, fun i => if i = nb then some blk else none⟩ X (St1 fn.ntmps nb args size rows) { tmps := cargs ++ Array.replicate (fn.ntmps - cargs.size) undef, defers := [] } := by
      refine ⟨rfl, ?_, fun i d hd => ?_, fun k bx hk => ?_, by rw [hXw]; exact BelowX.refl _ _ _, by rw [hXw]; exact Nat.le_refl _, by subst hX; rfl, fun b _ _ o => by rw [hXM]⟩
      · simp [St1, hl]
      · simp only [args_get]
        simp only [St1] at hd
        rw [List.getElem?_append] at hd
        simp only [List.length_map] at hd
        by_cases hi : i < args.length
        · rw [if_pos hi, List.getElem?_map] at hd
          rw [dif_pos (by omega)]
          cases hx : args[i]? with
          | none => rw [hx] at hd; simp at hd
          | some x =>
            rw [hx] at hd
            simp only [Option.map_some, Option.some.injEq] at hd
            subst hd
            have hv := hc i x cargs[i] hx (by simp [hl, hi])
            have ha := List.all_eq_true.1 hargs x (List.mem_of_getElem? hx)
            cases x with
            | p x => show Flat X.M X.w x _; rw [hXM, hXw]; exact hv
            | bs k sz ag lo n =>
              obtain ⟨b, cap, e1, e2, e3, e4⟩ := hv
              simp only [DV.arg, beq_iff_eq] at ha
              subst ha
              simp only [mcx, if_pos, Option.some.injEq] at e1
              exact ⟨b, cap, by rw [hXρ, e1], e2, e3, e4⟩
            | addr k sz r o =>
              obtain ⟨b, e1, e2⟩ := hv
              simp only [DV.arg, beq_iff_eq] at ha
              subst ha
              simp only [mcx, if_pos, Option.some.injEq] at e1
              exact ⟨b, by rw [hXρ, e1], e2⟩
            | _ => simp [DV.arg] at ha
        · rw [if_neg hi] at hd
          have := List.mem_of_getElem? hd
          simp at this
          rw [this.2]; trivial
      · simp only [St1] at hk
        rw [List.getElem?_append] at hk
        split at hk
        · have := List.mem_of_getElem? hk
          simp at this
        · rename_i hk'
          simp only [List.length_replicate] at hk hk'
          have hk0 : k = nb := by
            have := (List.getElem?_eq_some_iff.1 hk).1
            simp at this; omega
          subst hk0
          simp only [Nat.sub_self, List.getElem?_cons_zero, Option.some.injEq] at hk
          subst hk
          refine BX.cell (blk := blk) (cs := cs) (ty := ty) hsz0 ⟨hXρ, by subst hX; simp, .inr ⟨rfl, by subst hX; simp⟩, by rw [hXw]; exact hbx.heap, hbx.size, hbx.width, fun r o row d u h1 h2 h3 => ?_, fun _ o => by rw [hXM]; exact hbx.live rfl o, fun h => by cases h⟩
          obtain ⟨f1, f2⟩ := hbx.cells r o row d u h1 h2 h3
          have hdp := allP_get (allPR_get hrows (List.mem_of_getElem? h1)) (List.mem_of_getElem? h2)
          cases d with
          | p x => exact ⟨by show Flat X.M X.w x u; rw [hXM, hXw]; exact f1, f2⟩
          | _ => simp [DV.isP] at hdp
    have fin : ∀ a w', Post ⟨w.heap.size, M0, w, fun i => if i = nb then some blk else none⟩ (fun s => getB s.b nb = some ⟨true, size, rows', true⟩ ∧ rets s rvs fun xs => resOf xs = r) a w' → bodyPost P fn (fun e w' => ∃ v X cs' ty', e = .returned v ∧ X.w = w' ∧ VRel X w.heap.size (.tmp 0) r v ∧ BoxRel X w.heap.size 0 ⟨true, size, rows', true⟩ blk cs' ty' ∧
        (∀ b, b < w.heap.size → b ≠ blk → ∀ o, X.M b o ↔ M0 b o) ∧ BelowX (fun i => if i = 0 then some blk else none) w.heap.size w w') .ret a w' := by
      intro a w' ⟨s, X', h', e', hbx', hK⟩
      subst e'
      obtain ⟨xs, vs, k1, k2, k3, k4, k5⟩ := rets_ok h' hr hK
      subst k1
      have hres : (results fn a.tmps).run P X'.w = .ok (if h : vs.toArray.size = 1 then vs.toArray[0] else .tuple vs.toArray) X'.w := by
        unfold results
        rw [← Array.toArray_toList (xs := fn.results), List.mapM_toArray]
        simp only [Sem.run_bind, Sem.run_map]
        rw [k4 _ (fun _ => rfl) (fun _ _ => rfl)]
        rfl
      obtain ⟨blk', cs', ty', hb'⟩ := h'.cbox (getB_some hbx') hsz0
      have hblk : blk' = blk := by
        rcases hb'.hbase with ⟨h1, _⟩ | ⟨_, h1⟩
        · cases h1
        · rw [h'.mold.1] at h1; simp only [if_pos, Option.some.injEq] at h1; exact h1.symm
      subst hblk
      generalize hY : handOver (rvs.map locOf) X' = Y
      have hYo : Y.own blk' = none := by
        subst hY
        show (match X'.own blk' with | some L => _ | none => none) = none
        rw [hb'.own]
        simp only
        have : (rvs.map locOf).idxOf? (.box nb) = none := by
          rw [List.idxOf?_eq_none_iff]
          intro hm
          obtain ⟨rv, _, e⟩ := List.mem_map.1 hm
          cases rv <;> simp [locOf] at e
        rw [this]; rfl
      have hYM : Y.M = X'.M := by subst hY; rfl
      have hYw : Y.w = X'.w := by subst hY; rfl
      generalize hZ : ({ Y with ρ := fun i => if i = 0 then some blk' else none, own := fun g => if g = blk' then some (.box 0) else Y.own g, ex := fun i => if i = 0 then some blk' else none } : Cx) = Z
      have hZM : Z.M = X'.M := by subst hZ; exact hYM
      have hZw : Z.w = X'.w := by subst hZ; exact hYw
      have hZo : ∀ g, g ≠ blk' → Z.own g = Y.own g := by subst hZ; intro g hg; simp [hg]
      refine ⟨h'.defers, _, hres, _, Z, cs', ty', rfl, hZw, ?_, ?_, fun b hb hne o => ?_, ?_⟩
      · have trz : ∀ {L : Loc} {d : TV} {u : Value}, TRel Y w.heap.size L d u → TRel Z w.heap.size L d u := by
          intro L d u hu
          cases d with
          | p x => show Flat Z.M Z.w x u; rw [hZM, hZw, ← hYM, ← hYw]; exact hu
          | ow sz nl rws =>
            rcases hu with hu | ⟨h0, g, cap, cur, ty, g0, g1, g2, g3, g4, g5, g6⟩
            · exact .inl hu
            · have hgb : g ≠ blk' := fun e => by rw [e, hYo] at g1; cases g1
              exact .inr ⟨h0, g, cap, cur, ty, g0, (hZo g hgb).trans g1, g2, by rw [hZw, ← hYw]; exact g3, g4, by rw [hZM, hZw, ← hYM, ← hYw]; exact g5, fun o ho => by rw [hZM, ← hYM]; exact g6 o ho⟩
        have hloc : ∀ (j : Nat) d u, xs[j]? = some d → vs[j]? = some u → TRel Z w.heap.size (if (rvs.map locOf).length = 1 then .tmp 0 else .comp (.tmp 0) j) d u := by
          intro j d u hd hu
          have hj : j < rvs.length := by rw [← k2]; exact (List.getElem?_eq_some_iff.1 hd).1
          have hrv : rvs[j]? = some rvs[j] := by simp [hj]
          have := TRel.handOver hnd (j := j) (by rw [List.getElem?_map, hrv]; rfl) (k5 j d u _ hd hu hrv)
          rw [hY] at this
          exact trz this
        match xs, vs, k2, k3, hloc with
        | [x], [v], k2, k3, hloc =>
          have := hloc 0 x v rfl rfl
          simp at k2
          rw [if_pos (by simp [← k2])] at this
          exact dv_rel this
        | [], [], k2, k3, hloc => exact ⟨#[], by simp, by simp, fun j d u hd => by simp at hd⟩
        | x :: y :: xs, vs, k2, k3, hloc =>
          have hvl : vs.length = xs.length + 2 := by rw [k3, ← k2]; rfl
          refine ⟨vs.toArray, by simp [hvl], by simp [hvl], fun j d u hd hu => ?_⟩
          have := hloc j d u hd (by simpa using hu)
          rw [if_neg (by simp [← k2])] at this
          exact this
        | [x], [], k2, k3, _ => simp at k2 k3; omega
        | [x], _ :: _ :: _, k2, k3, _ => simp at k2 k3; omega
        | [], _ :: _, k2, k3, _ => simp at k2 k3; omega
      · refine ⟨by subst hZ; simp, by subst hZ; simp, .inr ⟨rfl, by subst hZ; simp⟩, by rw [hZw]; exact hb'.heap, hb'.size, hb'.width, fun r o row d u h1 h2 h3 => ?_, fun _ o => by rw [hZM]; exact hb'.live rfl o, fun h => by cases h⟩
        obtain ⟨f1, f2⟩ := hb'.cells r o row d u h1 h2 h3
        have hdp := allP_get (allPR_get hrows' (List.mem_of_getElem? h1)) (List.mem_of_getElem? h2)
        cases d with
        | p x => exact ⟨by show Flat Z.M Z.w x u; rw [hZM, hZw]; exact f1, f2⟩
        | _ => simp [DV.isP] at hdp
      · rw [hZM]
        refine h'.mold.2 b hb (fun j e => ?_) o
        simp only at e
        split at e
        · injection e with e; exact hne e.symm
        · cases e
      · have hbl := h'.below
        refine ⟨hbl.os, hbl.tape, hbl.output, hbl.size, fun b hb hx => hbl.block b hb fun j e => ?_⟩
        simp only at e
        split at e
        · exact hx 0 (by simpa using e)
        · cases e
    have hwp := vc_ok ht hrel hv
    rw [hXw] at hwp
    refine wp_mono hwp fun e a w' hq => ?_
    cases e with
    | normal => exact fin a w' hq
    | ret => exact fin a w' hq
    | exit j => obtain ⟨_, _, _, _, h⟩ := hq; exact h.elim
    | _ => exact hq.elim

end Go.Proofs.YtkjghcbnmipgfaaGreatDoor.Vc
