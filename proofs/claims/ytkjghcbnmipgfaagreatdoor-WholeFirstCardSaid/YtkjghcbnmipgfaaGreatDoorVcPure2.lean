/- More instructions that touch no memory. No condition. -/
import Derived.Test.YtkjghcbnmipgfaaGreatDoorVcPure
namespace Go.Proofs.YtkjghcbnmipgfaaGreatDoor.Vc
open Go.RowKit
variable {P : Program}

section
variable {G : Gl} {X : Cx} {s : St} {a : Act} {Q : Exit → Act → World → Prop} {o : Oper} {K : St → Prop}

theorem s_pick (h : Rel G X s a) {c x y : Operand} {oc ox oy : O} (hc : OT c oc) (hx : OT x ox) (hy : OT y oy) (ho : o.op = .pick c x y)
    (hK : semI P .pick [oc.val s.t, ox.val s.t, oy.val s.t] s.b fun v b => K ⟨putD s.t o.dst v, b⟩) : o.wp P a X.w (Post G K) Q := by
  obtain ⟨Lc, rc⟩ := h.opnd hc
  obtain ⟨Lx, rx⟩ := h.opnd hx
  obtain ⟨Ly, ry⟩ := h.opnd hy
  generalize oc.val s.t = vc at *
  cases vc with
  | p z =>
    cases z with
    | bool b =>
      have e := Flat.boolv rc
      simp only [semI] at hK
      cases b with
      | true => exact wp_value h (by simp [execOp, ho, e, asBool]) (fun j _ => rx.copy _) (hK.1 rfl)
      | false => exact wp_value h (by simp [execOp, ho, e, asBool]) (fun j _ => ry.copy _) (hK.2 rfl)
    | _ => simp [semI] at hK
  | _ => simp [semI] at hK

theorem s_un (h : Rel G X s a) {op : UnOp} {t : TypeId} {x : Operand} {ox : O} (hx : OT x ox) (ho : o.op = .unOp op t x)
    (hK : semI P (.un op) [ox.val s.t] s.b fun v b => K ⟨putD s.t o.dst v, b⟩) : o.wp P a X.w (Post G K) Q := by
  obtain ⟨Lx, rx⟩ := h.opnd hx
  generalize ox.val s.t = vx at *
  cases vx with
  | p z =>
    cases z with
    | bool b =>
      have e := Flat.boolv rx
      cases op <;> simp only [semI] at hK <;> try exact hK.elim
      exact wp_pv (z := .bool _) h (by simp [execOp, ho, e, Op.unary]) (.bool _) hK
    | int k n =>
      have e := Flat.intv rx
      cases op <;> simp only [semI] at hK <;> try exact hK.elim
      exact wp_pv (z := .int _ _) h (by simp [execOp, ho, e, Op.unary, Op.intArith]) (.int _ _) hK
    | _ => simp [semI] at hK
  | _ => simp [semI] at hK

theorem s_conv (h : Rel G X s a) {k : IntKind} {src dst : TypeId} {x : Operand} {ox : O} (hx : OT x ox) (ho : o.op = .convert src dst x)
    (hs : ∃ d, P.underlying src = some d) (hd : P.underlying dst = some (.int k))
    (hK : semI P (.conv k) [ox.val s.t] s.b fun v b => K ⟨putD s.t o.dst v, b⟩) : o.wp P a X.w (Post G K) Q := by
  obtain ⟨Lx, rx⟩ := h.opnd hx
  obtain ⟨ds, hs⟩ := hs
  generalize ox.val s.t = vx at *
  cases vx with
  | p z =>
    cases z with
    | int k' n =>
      have e := Flat.intv rx
      simp only [semI] at hK
      exact wp_pv (z := .int _ _) h (by simp [execOp, ho, e, convert, run_underlying hs, run_underlying hd, Conv.intToInt]) (.int _ _) hK
    | _ => simp [semI] at hK
  | _ => simp [semI] at hK

theorem s_fad (h : Rel G X s a) {off : Nat} {t : TypeId} {f : Nat} {x : Operand} {ox : O} (hx : OT x ox) (ho : o.op = .fieldAddr t x f)
    {fs : Array Field} {fd : Field} {i : TypeInfo} (hu : P.underlying t = some (.struct fs)) (hf : fs[f]? = some fd) (hi : P.info? fd.type = some i) (hz : i.size ≠ 0) (hoff : fd.offset = off)
    (hK : semI P (.fad off) [ox.val s.t] s.b fun v b => K ⟨putD s.t o.dst v, b⟩) : o.wp P a X.w (Post G K) Q := by
  obtain ⟨Lx, rx⟩ := h.opnd hx
  subst hoff
  generalize ox.val s.t = vx at *
  have run : ∀ b n, a.eval x = .pointer (some ⟨b, n, none⟩) → (execOp a.eval o).run P X.w = .ok (.value (.pointer (some ⟨b, n + fd.offset, none⟩))) X.w := by
    intro b n e
    simp [execOp, ho, e, Instr.fieldAt, run_underlying hu, hf, Instr.sureAddr, fieldPlace, sizeOf, typeInfo, hi, hz, Addr.add_lit]
  cases vx with
  | addr k size r n =>
    obtain ⟨blk, h1, e⟩ := rx
    simp only [semI] at hK
    refine wp_value h (run _ _ e) (fun j _ => ?_) hK
    exact ⟨blk, h1, by rw [Nat.add_assoc]⟩
  | p z =>
    cases z with
    | ptr cells n =>
      simp only [semI] at hK
      generalize hv : a.eval x = v at *
      cases (show Flat X.M X.w (.ptr cells n) v from rx) with
      | ptr _ _ b n0 cv hc h1 hr =>
        refine wp_pv h (run _ _ rfl) ?_ hK
        rw [Nat.add_assoc]
        exact .ptr cells _ b n0 cv hc h1 hr
    | _ => simp [semI] at hK
  | _ => simp [semI] at hK

theorem takeP_eq (l : List PV) (off n : Nat) : takeP l off n = (l.drop off).take n := by
  induction l generalizing off n with
  | nil => cases n <;> simp [takeP]
  | cons x xs ih => cases n <;> cases off <;> simp [takeP, ih]
theorem takeD_eq (l : List DV) (off n : Nat) : takeD l off n = (l.drop off).take n := by
  induction l generalizing off n with
  | nil => cases n <;> simp [takeD]
  | cons x xs ih => cases n <;> cases off <;> simp [takeD, ih]

/-- A type of n cells, a struct or not. -/
structure TyIs (P : Program) (t : TypeId) (n : Nat) (isA : Bool) : Prop where
  info : ∃ i, P.info? t = some i ∧ i.size = n
  agg : ∃ d, P.underlying t = some d ∧ (match d with | .struct _ | .array _ _ => true | _ => false) = isA

theorem TyIs.run_isAgg {t : TypeId} {n : Nat} {isA : Bool} (h : TyIs P t n isA) (w : World) : (isAgg t).run P w = .ok isA w := by
  obtain ⟨d, hd, he⟩ := h.agg
  simp only [isAgg, Sem.run_bind, run_underlying hd, Result.andThen_ok]
  cases d <;> simp at he <;> subst he <;> simp
theorem TyIs.run_sizeOf {t : TypeId} {n : Nat} {isA : Bool} (h : TyIs P t n isA) (w : World) : (sizeOf t).run P w = .ok n w := by
  obtain ⟨i, hi, rfl⟩ := h.info
  simp [sizeOf, typeInfo, hi]

theorem agg_part {M : Nat → Nat → Prop} {w : World} {cs : List PV} {vs : Array Value} (h : Flat M w (.agg cs) (.agg vs)) (off n : Nat) (hn : off + n ≤ cs.length) :
    Flat M w (.agg (takeP cs off n)) (.agg (vs.extract off (off + n))) := by
  cases h with
  | agg _ _ hl h1 h =>
    refine .agg _ _ ?_ ?_ ?_
    · rw [takeP_eq]; simp [hl]; omega
    · intro c hc; rw [takeP_eq] at hc; exact h1 c (List.mem_of_mem_drop (List.mem_of_mem_take hc))
    · intro i c v hc hv
      rw [takeP_eq, List.getElem?_take] at hc
      split at hc
      · rw [List.getElem?_drop] at hc
        rw [Array.getElem?_extract] at hv
        split at hv
        · exact h (off + i) c v hc hv
        · simp at hv
      · simp at hc

theorem s_fld (h : Rel G X s a) {off n : Nat} {isA : Bool} {t : TypeId} {f : Nat} {x : Operand} {ox : O} (hx : OT x ox) (ho : o.op = .field t x f)
    {fs : Array Field} {fd : Field} (hu : P.underlying t = some (.struct fs)) (hf : fs[f]? = some fd) (hi : TyIs P fd.type n isA) (hoff : fd.offset = off)
    (hK : semI P (.fld off n isA) [ox.val s.t] s.b fun v b => K ⟨putD s.t o.dst v, b⟩) : o.wp P a X.w (Post G K) Q := by
  obtain ⟨Lx, rx⟩ := h.opnd hx
  subst hoff
  generalize ox.val s.t = vx at *
  cases vx with
  | p z =>
    cases z with
    | agg cs =>
      simp only [semI, loadP] at hK
      generalize hv : a.eval x = v at *
      have rx' : Flat X.M X.w (.agg cs) v := rx
      cases rx' with
      | agg _ vs hl h1 hh =>
        cases isA with
        | true =>
          simp only [if_true] at hK
          refine wp_pv (z := .agg _) (u := .agg (vs.extract fd.offset (fd.offset + n))) h ?_ (agg_part (.agg cs vs hl h1 hh) _ _ hK.1) hK.2
          simp [execOp, ho, hv, Instr.field, run_underlying hu, hf, part, hi.run_isAgg, hi.run_sizeOf, asAgg]
        | false =>
          simp only [Bool.false_eq_true, if_false] at hK
          obtain ⟨c, hc, hK⟩ := hK
          have hlt : fd.offset < vs.size := by rw [hl]; exact (List.getElem?_eq_some_iff.1 hc).1
          refine wp_pv (z := c) (u := vs[fd.offset]) h ?_ (hh _ c _ hc (by simp [hlt])) hK
          simp [execOp, ho, hv, Instr.field, run_underlying hu, hf, part, hi.run_isAgg, asAgg, hlt]
    | _ => simp [semI] at hK
  | _ => simp [semI] at hK

theorem run_index {t e : TypeId} {n : Nat} {isA : Bool} (hu : P.underlying t = some (.slice e)) (hi : TyIs P e n isA) (w : World) (b off len cap : Nat) (k : IntKind) (i : Int) (h0 : 0 ≤ i) (h1 : i < len) :
    (Instr.indexAt t (.slice (some ⟨b, off, none⟩) len cap) (.int k i)).run P w = .ok (.pointer (some ⟨b, off + i.toNat * n, none⟩)) w := by
  simp [Instr.indexAt, asIntOf, run_underlying hu, h0, h1, hi.run_sizeOf, Addr.add_lit]

theorem flat_index {M : Nat → Nat → Prop} {w : World} {size : Nat} {nl : Bool} {rows : List PV} {v : Value} (h : Flat M w (.sl size nl rows) v) {i : Nat} {row : PV} (hr : rows[i]? = some row) :
    ∃ b off cap, v = .slice (some ⟨b, off, none⟩) rows.length cap ∧ Flat M w (.ptr (rowCells row) 0) (.pointer (some ⟨b, off + i * size, none⟩)) := by
  have hlt : i < rows.length := (List.getElem?_eq_some_iff.1 hr).1
  cases h with
  | nilsl => simp at hr
  | sl0 => simp at hr
  | sl _ _ b off cap cv hcap hmax hc hs h1 hrr =>
    refine ⟨b, off, cap, rfl, ?_⟩
    have hm := List.mem_of_getElem? hr
    have := Flat.ptr (M := M) (w := w) (rowCells row) 0 b (off + i * size) (fun j => cv (i * size + j)) (fun j hj => ?_) (h1 row hm) (fun j c hcj => hrr i j row c hr hcj)
    · simpa using this
    · rw [hs row hm] at hj
      have h2 : i * size + j < rows.length * size := Nat.lt_of_lt_of_le (by omega : i * size + j < i * size + size) (by rw [← Nat.succ_mul]; exact Nat.mul_le_mul_right _ hlt)
      have := hc (i * size + j) h2
      rw [Nat.add_assoc]
      exact this

theorem s_iad (h : Rel G X s a) {size : Nat} {isA : Bool} {t e : TypeId} {x ix : Operand} {ox oi : O} (hx : OT x ox) (hix : OT ix oi) (ho : o.op = .indexAddr t x ix)
    (hu : P.underlying t = some (.slice e)) (hi : TyIs P e size isA)
    (hK : semI P (.iad size) [ox.val s.t, oi.val s.t] s.b fun v b => K ⟨putD s.t o.dst v, b⟩) : o.wp P a X.w (Post G K) Q := by
  obtain ⟨Lx, rx⟩ := h.opnd hx
  obtain ⟨Li, ri⟩ := h.opnd hix
  generalize ox.val s.t = vx at *
  generalize oi.val s.t = vi at *
  have imm : ∀ sz nl rows k i, Flat X.M X.w (.sl sz nl rows) (a.eval x) → a.eval ix = .int k i → sz = size → 0 ≤ i → (∃ row, rows[i.toNat]? = some row ∧ K ⟨putD s.t o.dst (.p (.ptr (rowCells row) 0)), s.b⟩) → o.wp P a X.w (Post G K) Q := by
    intro sz nl rows k i hfl ei hsz h0 ⟨row, hr, hKK⟩
    subst hsz
    obtain ⟨b, off, cap, ev, hp⟩ := flat_index hfl hr
    have hlt : i.toNat < rows.length := (List.getElem?_eq_some_iff.1 hr).1
    refine wp_pv h ?_ hp hKK
    have hr' := run_index (P := P) hu hi X.w b off rows.length cap k i h0 (by omega)
    simp [execOp, ho, ev, ei, hr']
  cases vi with
  | p z =>
    cases z with
    | int k i =>
      have ei := Flat.intv ri
      simp only [semI] at hK
      cases vx with
      | p z =>
        cases z with
        | sl sz nl rows => exact imm _ _ _ k i rx ei hK.1 hK.2.1 hK.2.2
        | _ => exact hK.elim
      | ow sz nl rows => exact imm _ _ _ k i (OwRel.flat rx) ei hK.1 hK.2.1 hK.2.2
      | bs k' sz ag lo n =>
        obtain ⟨rfl, h0, h1, hK⟩ := hK
        obtain ⟨blk, cap, e1, e2, e3, ev⟩ := rx
        refine wp_value (v := .addr k' sz (lo + i.toNat) 0) h (u := .pointer (some ⟨blk, lo * sz + i.toNat * sz, none⟩)) ?_ (fun j _ => ⟨blk, e1, by rw [Nat.add_mul]; rfl⟩) hK
        have hr' := run_index (P := P) hu hi X.w blk (lo * sz) n cap k i h0 (by omega)
        simp [execOp, ho, ev, ei, hr']
      | _ => exact hK.elim
    | _ => simp [semI] at hK
  | _ => simp [semI] at hK

theorem run_len {t : TypeId} {x : Operand} (ho : o.op = .call { callee := .builtin .len, args := #[x], argTypes := #[t] }) {e : TypeId} (hu : P.underlying t = some (.slice e))
    {b : Option Addr} {n c : Nat} (ev : a.eval x = .slice b n c) (w : World) : (execOp a.eval o).run P w = .ok (.value (.int .i64 n)) w := by
  simp [execOp, ho, resolve, invoke, builtin, Builtin.len_, run_underlying hu, ev, goInt]

theorem Flat.slv {M : Nat → Nat → Prop} {w : World} {size : Nat} {nl : Bool} {rows : List PV} {v : Value} (h : Flat M w (.sl size nl rows) v) : ∃ b cap, v = .slice b rows.length cap := by
  cases h with
  | nilsl => exact ⟨none, 0, rfl⟩
  | sl0 _ a => exact ⟨some a, 0, rfl⟩
  | sl _ _ b off cap => exact ⟨_, cap, rfl⟩

theorem Flat.sl_le {M : Nat → Nat → Prop} {w : World} {size : Nat} {nl : Bool} {rows : List PV} {v : Value} (h : Flat M w (.sl size nl rows) v) : rows.length ≤ maxLen := by
  cases h with
  | nilsl => exact Nat.zero_le _
  | sl0 => exact Nat.zero_le _
  | sl _ _ b off cap cv hcap hmax => exact Nat.le_trans hcap hmax

theorem s_len (h : Rel G X s a) {t e : TypeId} {x : Operand} {ox : O} (hx : OT x ox) (ho : o.op = .call { callee := .builtin .len, args := #[x], argTypes := #[t] })
    (hu : P.underlying t = some (.slice e))
    (hK : semI P .len [ox.val s.t] s.b fun v b => K ⟨putD s.t o.dst v, b⟩) : o.wp P a X.w (Post G K) Q := by
  obtain ⟨Lx, rx⟩ := h.opnd hx
  generalize ox.val s.t = vx at *
  cases vx with
  | p z =>
    cases z with
    | sl size nl rows =>
      obtain ⟨b, cap, ev⟩ := Flat.slv rx
      exact wp_pv (z := .int .i64 _) h (run_len ho hu ev _) (.int _ _) (hK (Flat.sl_le rx))
    | _ => simp [semI, sliceLen] at hK
  | ow size nl rows =>
    obtain ⟨b, cap, ev⟩ := (OwRel.flat rx).slv
    exact wp_pv (z := .int .i64 _) h (run_len ho hu ev _) (.int _ _) (hK (OwRel.flat rx).sl_le)
  | bs k size ag lo n =>
    obtain ⟨blk, cap, e1, e2, e3, ev⟩ := rx
    exact wp_pv (z := .int .i64 _) h (run_len ho hu ev _) (.int _ _) (hK (Nat.le_trans e2 e3))
  | _ => simp [semI, sliceLen] at hK

theorem s_slen (h : Rel G X s a) {t : TypeId} {x : Operand} {ox : O} (hx : OT x ox) (ho : o.op = .call { callee := .builtin .len, args := #[x], argTypes := #[t] })
    (hu : P.underlying t = some .string)
    (hK : semI P .slen [ox.val s.t] s.b fun v b => K ⟨putD s.t o.dst v, b⟩) : o.wp P a X.w (Post G K) Q := by
  obtain ⟨Lx, rx⟩ := h.opnd hx
  generalize ox.val s.t = vx at *
  cases vx with
  | p z =>
    cases z with
    | str z =>
      have ev := Flat.strv rx
      refine wp_pv (z := .int .i64 _) h ?_ (.int _ _) hK
      simp [execOp, ho, resolve, invoke, builtin, Builtin.len_, run_underlying hu, ev, goInt]
    | _ => simp [semI] at hK
  | _ => simp [semI] at hK

theorem s_minmax (h : Rel G X s a) {mx : Bool} {t : TypeId} {x y : Operand} {ox oy : O} (hx : OT x ox) (hy : OT y oy) (ho : o.op = .call { callee := .builtin (if mx then .max else .min), args := #[x, y], argTypes := #[t, t] })
    (hK : semI P (if mx then .mx else .mn) [ox.val s.t, oy.val s.t] s.b fun v b => K ⟨putD s.t o.dst v, b⟩) : o.wp P a X.w (Post G K) Q := by
  obtain ⟨Lx, rx⟩ := h.opnd hx
  obtain ⟨Ly, ry⟩ := h.opnd hy
  generalize ox.val s.t = vx at *
  generalize oy.val s.t = vy at *
  cases vx with
  | p z =>
    cases z with
    | int k m =>
      cases vy with
      | p z =>
        cases z with
        | int k' n =>
          have ex := Flat.intv rx
          have ey := Flat.intv ry
          cases mx with
          | true =>
            simp only [if_true, semI] at hK
            obtain ⟨rfl, hK⟩ := hK
            exact wp_pv (z := .int _ _) h (by simp [execOp, ho, resolve, invoke, builtin, Builtin.max_, Builtin.max2, ex, ey]) (.int _ _) hK
          | false =>
            simp only [Bool.false_eq_true, if_false, semI] at hK
            obtain ⟨rfl, hK⟩ := hK
            exact wp_pv (z := .int _ _) h (by simp [execOp, ho, resolve, invoke, builtin, Builtin.min_, Builtin.min2, ex, ey]) (.int _ _) hK
        | _ => cases mx <;> simp [semI] at hK
      | _ => cases mx <;> simp [semI] at hK
    | _ => cases mx <;> simp [semI] at hK
  | _ => cases mx <;> simp [semI] at hK

theorem s_nilchk (h : Rel G X s a) {x : Operand} {ox : O} (hx : OT x ox) (ho : o.op = .nilCheck x)
    (hK : semI P .nilchk [ox.val s.t] s.b fun v b => K ⟨putD s.t o.dst v, b⟩) : o.wp P a X.w (Post G K) Q := by
  obtain ⟨Lx, rx⟩ := h.opnd hx
  generalize ox.val s.t = vx at *
  cases vx with
  | addr k size r off =>
    simp only [semI] at hK
    obtain ⟨blk, h1, ev⟩ := rx
    exact wp_value (v := .addr k size r off) h (by simp [execOp, ho, ev]) (fun j _ => ⟨blk, h1, rfl⟩) hK
  | p z =>
    cases z with
    | ptr cells off =>
      simp only [semI] at hK
      generalize hv : a.eval x = v at *
      have rx' : Flat X.M X.w (.ptr cells off) v := rx
      have := rx'
      cases rx' with
      | ptr _ _ b n0 cv hc h1 hr => exact wp_pv h (by simp [execOp, ho, hv]) this hK
    | fn f caps =>
      simp only [semI] at hK
      generalize hv : a.eval x = v at *
      have rx' : Flat X.M X.w (.fn f caps) v := rx
      have := rx'
      cases rx' with
      | fn _ _ vs hl hh => exact wp_pv h (by simp [execOp, ho, hv]) this hK
    | _ => simp [semI] at hK
  | _ => simp [semI] at hK

theorem s_sidx (h : Rel G X s a) {t : TypeId} {x ix : Operand} {ox oi : O} (hx : OT x ox) (hix : OT ix oi) (ho : o.op = .index t x ix) (hu : P.underlying t = some .string)
    (hK : semI P .sidx [ox.val s.t, oi.val s.t] s.b fun v b => K ⟨putD s.t o.dst v, b⟩) : o.wp P a X.w (Post G K) Q := by
  obtain ⟨Lx, rx⟩ := h.opnd hx
  obtain ⟨Li, ri⟩ := h.opnd hix
  generalize ox.val s.t = vx at *
  generalize oi.val s.t = vi at *
  cases vx with
  | p z =>
    cases z with
    | str z =>
      cases vi with
      | p y =>
        cases y with
        | int k i =>
          have ex := Flat.strv rx
          have ei := Flat.intv ri
          simp only [semI] at hK
          obtain ⟨h0, c, hc, hK⟩ := hK
          have hlt : i.toNat < z.size := by
            have := (List.getElem?_eq_some_iff.1 hc).1
            simpa using this
          have hz : z[i.toNat]? = some c := by
            have h2 := (List.getElem?_eq_some_iff.1 hc).2
            rw [getElem?_pos z i.toNat hlt]
            congr 1
          refine wp_pv (z := .int .u8 _) h ?_ (.int _ _) hK
          simp [execOp, ho, Instr.index, asIntOf, run_underlying hu, ex, ei, h0, hz]
        | _ => simp [semI] at hK
      | _ => simp [semI] at hK
    | _ => simp [semI] at hK
  | _ => simp [semI] at hK

theorem flat_slice {M : Nat → Nat → Prop} {w : World} {size : Nat} {rows : List PV} {b off cap : Nat} (h : Flat M w (.sl size false rows) (.slice (some ⟨b, off, none⟩) rows.length cap))
    (l m : Nat) (hlm : l ≤ m) (hm : m ≤ rows.length) : Flat M w (.sl size false ((rows.take m).drop l)) (.slice (some ⟨b, if cap = l then off else off + l * size, none⟩) (m - l) (cap - l)) := by
  cases h with
  | sl0 =>
    simp at hm
    subst hm
    have : l = 0 := by omega
    subst this
    simpa using Flat.sl0 size _
  | sl _ _ _ _ _ cv hcap hmax hc hs h1 hr =>
    have hlen : ((rows.take m).drop l).length = m - l := by simp; omega
    by_cases he : m = l
    · subst he
      have e0 : (rows.take m).drop m = [] := List.eq_nil_of_length_eq_zero (by simp)
      rw [e0, Nat.sub_self]
      exact .sl size [] b _ _ (fun _ => undef) (Nat.zero_le _) (by omega) (fun j hj => by simp at hj) (fun _ h => by simp at h) (fun _ h => by simp at h) (fun _ _ _ _ h => by simp at h)
    · have hne : cap ≠ l := by omega
      rw [if_neg hne]
      have := Flat.sl (M := M) (w := w) size ((rows.take m).drop l) b (off + l * size) (cap - l) (fun j => cv (l * size + j)) (by rw [hlen]; omega) (by omega) (fun j hj => ?_)
        (fun row hrow => hs row (List.mem_of_mem_take (List.mem_of_mem_drop hrow))) (fun row hrow => h1 row (List.mem_of_mem_take (List.mem_of_mem_drop hrow))) (fun i j row c hrow hcj => ?_)
      · rw [hlen] at this; exact this
      · rw [hlen] at hj
        have h2 : l * size + j < rows.length * size := by
          have : (l + (m - l)) * size ≤ rows.length * size := Nat.mul_le_mul_right _ (by omega)
          rw [Nat.add_mul] at this; omega
        have := hc (l * size + j) h2
        rw [Nat.add_assoc]
        exact this
      · rw [List.getElem?_drop, List.getElem?_take] at hrow
        split at hrow
        · have := hr (l + i) j row c hrow hcj
          rw [Nat.add_mul, Nat.add_assoc] at this
          exact this
        · simp at hrow

theorem P_elem {t e : TypeId} (hu : P.underlying t = some (.slice e)) : P.underlying t = some (.slice (P.elem t)) := by
  rw [hu]; simp [Program.elem, hu]

theorem flat_sliced {M : Nat → Nat → Prop} {w : World} {sz size : Nat} {nl : Bool} {rows : List PV} {b : Option Addr} {n c : Nat} (h : Flat M w (.sl sz nl rows) (.slice b n c)) (hsz : sz = size ∨ rows = [])
    (l m : Nat) (hlm : l ≤ m) (hm : m ≤ rows.length) : n = rows.length ∧ n ≤ c ∧ Flat M w (.sl sz nl ((rows.take m).drop l)) (sliced b l m c size) := by
  generalize hv : Value.slice b n c = v at h
  cases h with
  | nilsl =>
    injection hv with e1 e2 e3
    subst e1; subst e2; subst e3
    simp at hm
    subst hm
    have : l = 0 := by omega
    subst this
    exact ⟨rfl, Nat.le_refl _, by simpa [sliced] using Flat.nilsl sz⟩
  | sl0 _ ad =>
    injection hv with e1 e2 e3
    subst e1; subst e2; subst e3
    simp at hm
    subst hm
    have : l = 0 := by omega
    subst this
    exact ⟨rfl, Nat.le_refl _, by simpa [sliced] using Flat.sl0 sz _⟩
  | sl _ _ b' off cap cv hcap hmax hc hs h1 hr =>
    injection hv with e1 e2 e3
    subst e1; subst e2; subst e3
    refine ⟨rfl, hcap, ?_⟩
    rcases hsz with rfl | rfl
    · have := flat_slice (.sl sz rows b' off c cv hcap hmax hc hs h1 hr) l m hlm hm
      simp only [sliced, Option.map_some, Addr.add_lit]
      split <;> rename_i he
      · rw [if_pos he] at this; exact this
      · rw [if_neg he] at this; exact this
    · simp at hm
      subst hm
      have : l = 0 := by omega
      subst this
      simp only [sliced, Option.map_some, Addr.add_lit, List.take_nil, List.drop_nil, Nat.sub_zero, Nat.zero_mul, Nat.add_zero]
      split <;> exact .sl sz [] b' off c cv (Nat.zero_le _) hmax (fun j hj => by simp at hj) (fun _ h => by simp at h) (fun _ h => by simp at h) (fun _ _ _ _ h => by simp at h)

theorem s_slc (h : Rel G X s a) {size : Nat} {isA : Bool} {t e : TypeId} {x : Operand} {ox : O} {lo hi : Option Operand} {ys : List O} (hx : OT x ox) (ho : o.op = .slice t x lo hi none)
    (hu : P.underlying t = some (.slice e)) (hi' : TyIs P e size isA)
    (hys : match lo, hi, ys with | some l, some m, [ol, om] => OT l ol ∧ OT m om | some l, none, [ol] => OT l ol | none, some m, [om] => OT m om | _, _, _ => False)
    (hK : semI P (.slc size lo.isSome hi.isSome) (ox.val s.t :: ys.map (O.val s.t)) s.b fun v b => K ⟨putD s.t o.dst v, b⟩) : o.wp P a X.w (Post G K) Q := by
  obtain ⟨Lx, rx⟩ := h.opnd hx
  generalize ox.val s.t = vx at *
  have hu' := P_elem hu
  have he : P.elem t = e := by rw [hu] at hu'; injection hu' with h1; injection h1 with h2; exact h2.symm
  have hsize : ∀ w, (sizeOf (P.elem t)).run P w = .ok size w := fun w => by rw [he]; exact hi'.run_sizeOf w
  cases vx with
  | p z =>
    cases z with
    | sl sz nl rows =>
      obtain ⟨b, cap, ev⟩ := Flat.slv rx
      have rx' : Flat X.M X.w (.sl sz nl rows) (.slice b rows.length cap) := ev ▸ rx
      simp only [semI] at hK
      obtain ⟨hsz, hK⟩ := hK
      cases lo with
      | some l =>
        cases hi with
        | some m =>
          match ys, hys with
          | [ol, om], ⟨hl, hm⟩ =>
            obtain ⟨_, rl⟩ := h.opnd hl
            obtain ⟨_, rm⟩ := h.opnd hm
            simp only [Option.isSome_some, List.map_cons, List.map_nil] at hK
            generalize ol.val s.t = vl at *
            generalize om.val s.t = vm at *
            obtain ⟨k1, l', rfl⟩ : ∃ k1 l', vl = .p (.int k1 l') := by
              rcases vl with _ | x | _ | _ | _ | _ | _ <;> first | (simp at hK; done) | skip
              cases x <;> first | (simp at hK; done) | exact ⟨_, _, rfl⟩
            obtain ⟨k2, m', rfl⟩ : ∃ k1 l', vm = .p (.int k1 l') := by
              rcases vm with _ | x | _ | _ | _ | _ | _ <;> first | (simp at hK; done) | skip
              cases x <;> first | (simp at hK; done) | exact ⟨_, _, rfl⟩
            have el := Flat.intv rl
            have em := Flat.intv rm
            obtain ⟨h0, h1, h2, hK⟩ := hK
            obtain ⟨_, hnc, hf⟩ := flat_sliced rx' hsz l'.toNat m'.toNat (by omega) (by omega)
            refine wp_pv h ?_ hf hK
            simp [execOp, ho, ev, el, em, run_sliceAt_slice, hu', run_slice_lh X.w t b rows.length cap hu' _ _ l' m' h0 h1 (by omega), hsize]
        | none =>
          match ys, hys with
          | [ol], hl =>
            obtain ⟨_, rl⟩ := h.opnd hl
            simp only [Option.isSome_some, Option.isSome_none, List.map_cons, List.map_nil] at hK
            generalize ol.val s.t = vl at *
            obtain ⟨k1, l', rfl⟩ : ∃ k1 l', vl = .p (.int k1 l') := by
              rcases vl with _ | x | _ | _ | _ | _ | _ <;> first | (simp at hK; done) | skip
              cases x <;> first | (simp at hK; done) | exact ⟨_, _, rfl⟩
            have el := Flat.intv rl
            obtain ⟨h0, h1, hK⟩ := hK
            obtain ⟨_, hnc, hf⟩ := flat_sliced rx' hsz l'.toNat rows.length (by omega) (by omega)
            rw [List.take_length] at hf
            refine wp_pv h ?_ hf hK
            simp [execOp, ho, ev, el, run_sliceAt_slice, hu', run_slice_l X.w t b rows.length cap hu' _ l' h0 h1, hsize]
      | none =>
        cases hi with
        | some m =>
          match ys, hys with
          | [om], hm =>
            obtain ⟨_, rm⟩ := h.opnd hm
            simp only [Option.isSome_some, Option.isSome_none, List.map_cons, List.map_nil] at hK
            generalize om.val s.t = vm at *
            obtain ⟨k1, m', rfl⟩ : ∃ k1 l', vm = .p (.int k1 l') := by
              rcases vm with _ | x | _ | _ | _ | _ | _ <;> first | (simp at hK; done) | skip
              cases x <;> first | (simp at hK; done) | exact ⟨_, _, rfl⟩
            have em := Flat.intv rm
            obtain ⟨h0, h1, hK⟩ := hK
            obtain ⟨_, hnc, hf⟩ := flat_sliced rx' hsz 0 m'.toNat (by omega) (by omega)
            rw [List.drop_zero] at hf
            refine wp_pv h ?_ hf hK
            simp [execOp, ho, ev, em, run_sliceAt_slice, hu', run_slice_h X.w t b rows.length cap hu' _ m' h0 (by omega), hsize]
        | none => exact hys.elim
    | _ => simp [semI] at hK
  | _ => simp [semI] at hK

/-- A slice of a string. -/
theorem s_sslc (h : Rel G X s a) {t : TypeId} {x l m : Operand} {ox ol om : O} (hx : OT x ox) (hl : OT l ol) (hm : OT m om) (ho : o.op = .slice t x (some l) (some m) none)
    (hu : P.underlying t = some .string) {z : ByteArray} {k k' : IntKind} {i j : Int} (ex : ox.val s.t = .p (.str z)) (el : ol.val s.t = .p (.int k i)) (em : om.val s.t = .p (.int k' j))
    (h0 : 0 ≤ i) (h1 : i ≤ j) (h2 : j ≤ z.size) (hK : K ⟨putD s.t o.dst (.p (.str (z.extract i.toNat j.toNat))), s.b⟩) : o.wp P a X.w (Post G K) Q := by
  obtain ⟨_, rx⟩ := h.opnd hx
  obtain ⟨_, rl⟩ := h.opnd hl
  obtain ⟨_, rm⟩ := h.opnd hm
  rw [ex] at rx; rw [el] at rl; rw [em] at rm
  have ex := Flat.strv rx
  have el := Flat.intv rl
  have em := Flat.intv rm
  refine wp_pv h ?_ (Flat.str _) hK
  simp [execOp, ho, ex, el, em, run_sliceAt_string, hu, run_slice_string X.w t z k k' i j hu h0 h1 h2]
end

end Go.Proofs.YtkjghcbnmipgfaaGreatDoor.Vc
