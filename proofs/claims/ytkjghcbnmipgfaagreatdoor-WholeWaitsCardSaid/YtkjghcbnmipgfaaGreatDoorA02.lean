/- Part of a proof over a Go program: VcBox, VcReg, VcDraw, VcNew, VcAny, VcAl. No condition. -/
import Derived.Test.YtkjghcbnmipgfaaGreatDoorA01
import Derived.Laws.StructEq
import Derived.Laws.Strings3
import Derived.Lib.ByteType
import Derived.Lib.ConvBytes
import Derived.MapKept
import Derived.WalkSpells
import Derived.Orders
set_option linter.unusedSectionVars false
set_option linter.unusedSimpArgs false
set_option linter.unusedVariables false
namespace Go.Proofs.YtkjghcbnmipgfaaGreatDoor.Vc
open Go.RowKit
variable {P : Program}
theorem allP_get {ds : List DV} (h : allP ds = true) {d : DV} (hd : d ∈ ds) : d.isP = true := by
  induction ds with
  | nil => simp at hd
  | cons e es ih =>
    simp only [allP, Bool.and_eq_true] at h
    rcases List.mem_cons.1 hd with rfl | hd
    · exact h.1
    · exact ih h.2 hd
theorem allPR_get {rs : List (List DV)} (h : allPR rs = true) {r : List DV} (hr : r ∈ rs) : allP r = true := by
  induction rs with
  | nil => simp at hr
  | cons e es ih =>
    simp only [allPR, Bool.and_eq_true] at h
    rcases List.mem_cons.1 hr with rfl | hr
    · exact h.1
    · exact ih h.2 hr
section
variable {G : Gl} {X : Cx} {s : St} {a : Act} {Q : Exit → Act → World → Prop} {o : Oper} {K : St → Prop}
theorem s_ssl (h : Rel G X s a) {t : TypeId} {x : Operand} {ox : O} {lo hi : Option Operand} {ys : List O} (hx : OT x ox) (ho : o.op = .slice t x lo hi none) (hu : P.underlying t = some .string)
    (hys : match lo, hi, ys with | some l, some m, [ol, om] => OT l ol ∧ OT m om | some l, none, [ol] => OT l ol | none, some m, [om] => OT m om | _, _, _ => False)
    (hK : semI P (.ssl lo.isSome hi.isSome) (ox.val s.t :: ys.map (O.val s.t)) s.b fun v b => K ⟨putD s.t o.dst v, b⟩) : o.wp P a X.w (Post G K) Q := by
  obtain ⟨Lx, rx⟩ := h.opnd hx
  generalize ox.val s.t = vx at *
  have anInt : ∀ {vl : DV} {v : Value} {L : Loc}, VRel X G.base L vl v → (∃ k l, vl = .p (.int k l)) → ∃ k l, vl = .p (.int k l) ∧ v = .int k l := by
    rintro vl v L hv ⟨k, l, rfl⟩; exact ⟨k, l, rfl, Flat.intv hv⟩
  cases vx with
  | p z =>
    cases z with
    | str z =>
      have ev := Flat.strv rx
      simp only [semI] at hK
      cases lo with
      | some l =>
        cases hi with
        | some m =>
          match ys, hys with
          | [ol, om], ⟨hl, hm⟩ =>
            obtain ⟨_, rl⟩ := h.opnd hl
            obtain ⟨_, rm⟩ := h.opnd hm
            simp only [Option.isSome_some, List.map_cons, List.map_nil] at hK
            generalize ol.val s.t = vl at *
            generalize om.val s.t = vm at *
            obtain ⟨k1, l', rfl⟩ : ∃ k1 l', vl = .p (.int k1 l') := by
              rcases vl with _ | x | _ | _ | _ | _ | _ <;> first | (simp at hK; done) | skip
              cases x <;> first | (simp at hK; done) | exact ⟨_, _, rfl⟩
            obtain ⟨k2, m', rfl⟩ : ∃ k1 l', vm = .p (.int k1 l') := by
              rcases vm with _ | x | _ | _ | _ | _ | _ <;> first | (simp at hK; done) | skip
              cases x <;> first | (simp at hK; done) | exact ⟨_, _, rfl⟩
            have el := Flat.intv rl
            have em := Flat.intv rm
            obtain ⟨h0, h1, h2, hK⟩ := hK
            refine wp_pv h ?_ (Flat.str _) hK
            simp [execOp, ho, ev, el, em, run_sliceAt_string, hu, run_slice_string X.w t z k1 k2 l' m' hu h0 h1 h2]
        | none =>
          match ys, hys with
          | [ol], hl =>
            obtain ⟨_, rl⟩ := h.opnd hl
            simp only [Option.isSome_some, Option.isSome_none, List.map_cons, List.map_nil] at hK
            generalize ol.val s.t = vl at *
            obtain ⟨k1, l', rfl⟩ : ∃ k1 l', vl = .p (.int k1 l') := by
              rcases vl with _ | x | _ | _ | _ | _ | _ <;> first | (simp at hK; done) | skip
              cases x <;> first | (simp at hK; done) | exact ⟨_, _, rfl⟩
            have el := Flat.intv rl
            obtain ⟨h0, h1, hK⟩ := hK
            refine wp_pv h ?_ (Flat.str _) hK
            simp [execOp, ho, ev, el, run_sliceAt_string, hu, run_slice_string_from_if X.w t z k1 l' hu, h0, h1]
      | none =>
        cases hi with
        | some m =>
          match ys, hys with
          | [om], hm =>
            obtain ⟨_, rm⟩ := h.opnd hm
            simp only [Option.isSome_some, Option.isSome_none, List.map_cons, List.map_nil] at hK
            generalize om.val s.t = vm at *
            obtain ⟨k1, m', rfl⟩ : ∃ k1 l', vm = .p (.int k1 l') := by
              rcases vm with _ | x | _ | _ | _ | _ | _ <;> first | (simp at hK; done) | skip
              cases x <;> first | (simp at hK; done) | exact ⟨_, _, rfl⟩
            have em := Flat.intv rm
            obtain ⟨h0, h1, hK⟩ := hK
            refine wp_pv h ?_ (Flat.str _) hK
            simp [execOp, ho, ev, em, run_sliceAt_string, hu, run_slice_string_to_if X.w t z k1 m' hu, h0, h1]
        | none => exact hys.elim
    | _ => simp [semI] at hK
  | _ => simp [semI] at hK
theorem s_mkz (h : Rel G X s a) {size bytes : Nat} {row : PV} {t e : TypeId} {x y : Operand} {ox oy : O} (hx : OT x ox) (hy : OT y oy) (ho : o.op = .makeSlice t x y) {d : Nat} (hd : o.dst = some d)
    (hu : P.underlying t = some (.slice e)) {i : TypeInfo} {z : Value} (hi : P.info? e = some i) (hz : i.zero = some z) (hsz : i.size = size) (hby : i.bytes = bytes) (hzs : z.cells.size = (rowCells row).length)
    (hzr : ∀ (i : Nat) c v, (rowCells row)[i]? = some c → z.cells[i]? = some v → ZP c v) (hpos : 0 < size)
    (hK : semI P (.mkz size bytes row) [ox.val s.t, oy.val s.t] s.b fun v b => K ⟨putD s.t o.dst v, b⟩) : o.wp P a X.w (Post G K) Q := by
  obtain ⟨_, rx⟩ := h.opnd hx
  obtain ⟨_, ry⟩ := h.opnd hy
  generalize ox.val s.t = vx at *
  generalize oy.val s.t = vy at *
  obtain ⟨k1, n, rfl⟩ : ∃ k1 l', vx = .p (.int k1 l') := by
    rcases vx with _ | x | _ | _ | _ | _ | _ <;> first | (simp [semI] at hK; done) | skip
    cases x <;> first | (simp [semI] at hK; done) | exact ⟨_, _, rfl⟩
  obtain ⟨k2, m, rfl⟩ : ∃ k1 l', vy = .p (.int k1 l') := by
    rcases vy with _ | x | _ | _ | _ | _ | _ <;> first | (simp [semI] at hK; done) | skip
    cases x <;> first | (simp [semI] at hK; done) | exact ⟨_, _, rfl⟩
  simp only [semI] at hK
  obtain ⟨rfl, h0, hb, hmax, hzl, hK⟩ := hK
  have ex := Flat.intv rx
  have ey := Flat.intv ry
  subst hsz
  subst hby
  have hm63 : n ≤ 9223372036854775807 := by simpa [maxLen] using hmax
  have hr := run_make (P := P) X.w t e i z hu hi hz k1 k2 n n h0 (Int.le_refl _) (by rw [Int.mul_comm]; omega) hm63
  have hnm : n.toNat ≤ maxLen := by omega
  generalize hN : n.toNat = N at *
  generalize hcur : madeCells z.cells (N * i.size) = cur at *
  have run : (execOp a.eval o).run P X.w = .ok (.value (.slice (some ⟨X.w.heap.size, 0, none⟩) N N)) (X.w.alloc (.cells cur e)) := by
    simp [execOp, ho, ex, ey, hr]
  have hcs : cur.size = N * i.size := by rw [← hcur, size_madeCells]
  have hcg : ∀ k, k < N * i.size → cur[k]? = z.cells[k % i.size]? := by
    intro k hk
    have hlt : k % i.size < z.cells.size := by rw [hzs, hzl]; exact Nat.mod_lt _ hpos
    rw [← hcur]
    simp only [madeCells, Array.getElem?_map]
    rw [Array.getElem?_range, if_pos hk]
    simp only [Option.map_some]
    rw [hzs, hzl]
    simp [hlt]
  unfold Oper.wp
  rw [run, Oper.upon_value]
  rw [hd] at hK ⊢
  by_cases hn0 : N = 0
  · subst hn0
    have hnb := NewBlock.alloc X.w cur e
    exact ⟨_, _, (h.fresh d 0 hnb).put (d := some d) (v := .ow i.size false []) (fun j hj => .inl ⟨rfl, .inr ⟨rfl, _, _, rfl⟩⟩), rfl, hK⟩
  · have hnb := NewBlock.alloc X.w cur e
    have hev' := ev_fresh (m := d) (n0 := N * i.size) hnb
    refine ⟨_, _, (h.fresh d (N * i.size) hnb).put (d := some d) (v := .ow i.size false (List.replicate N row)) (fun j hj => ?_), rfl, hK⟩
    injection hj with hj
    subst hj
    have hrl : (List.replicate N row).length = N := List.length_replicate
    have hfl : Flat (X.fresh d (N * i.size) (X.w.alloc (.cells cur e))).M (X.w.alloc (.cells cur e)) (.sl i.size false (List.replicate N row)) (.slice (some ⟨X.w.heap.size, 0, none⟩) (List.replicate N row).length N) := by
      refine flat_block hnb.new (by omega) hnm (fun o ho => ?_) (by rw [hrl, hcs]; exact Nat.le_refl _) (fun r hrm => ?_) (fun k j r c hr hc => ?_)
      · show ¬ (if X.w.heap.size = X.w.heap.size then N * i.size ≤ o else _)
        rw [if_pos rfl]; rw [hrl] at ho; omega
      · rw [(List.mem_replicate.1 hrm).2]
        refine ⟨hzl, fun c hc => ?_⟩
        obtain ⟨q, hq⟩ := List.getElem?_of_mem hc
        have hql := (List.getElem?_eq_some_iff.1 hq).1
        have : z.cells[q]? = some z.cells[q] := by simp [show q < z.cells.size by omega]
        exact ((hzr q c _ hq this).rel (M := fun _ _ => False) (w := X.w)).2
      · have hkl := (List.getElem?_eq_some_iff.1 hr).1
        rw [hrl] at hkl
        have er : r = row := (List.mem_replicate.1 (List.mem_of_getElem? hr)).2
        subst er
        have hjl := (List.getElem?_eq_some_iff.1 hc).1
        have hjs : j < i.size := by omega
        have hlt : k * i.size + j < N * i.size := by
          have : (k + 1) * i.size ≤ N * i.size := Nat.mul_le_mul_right _ hkl
          rw [Nat.add_mul] at this; omega
        have hmod : (k * i.size + j) % i.size = j := by rw [Nat.add_comm, Nat.add_mul_mod_self_right]; exact Nat.mod_eq_of_lt hjs
        have hu' : z.cells[j]? = some z.cells[j] := by simp [show j < z.cells.size by omega]
        refine ⟨_, ?_, (hzr j c _ hc hu').rel.1⟩
        rw [hcg _ hlt, hmod]
        exact hu'
    refine .inr ⟨rfl, X.w.heap.size, N, cur, e, by rw [hrl], ?_, h.hb, hnb.new, hcs, ?_, fun o ho => ?_⟩
    · show (if X.w.heap.size = X.w.heap.size then _ else _) = _; rw [if_pos rfl]
    · rw [hrl] at hfl; exact hfl
    · show (if X.w.heap.size = X.w.heap.size then N * i.size ≤ o else _)
      rw [if_pos rfl]; rw [hrl] at ho; exact ho
theorem run_eqFields_ints (d : Nat) (xs ys : Array Value) (w : World) : ∀ (fs : List Field) (j : Nat) (ps qs : List PV) (r : Bool),
    (∀ (i : Nat) f, fs[i]? = some f → f.name ≠ "_" ∧ f.offset = j + i ∧ (∃ k, P.underlying f.type = some (.int k)) ∧ TyIs P f.type 1 false) → ps.length = fs.length → eqsP ps qs = some r →
    (∀ (i : Nat) k n, ps[i]? = some (.int k n) → xs[j + i]? = some (.int k n)) → (∀ (i : Nat) k n, qs[i]? = some (.int k n) → ys[j + i]? = some (.int k n)) →
    (Op.eqFields (d + 1) xs ys fs).run P w = .ok r w
  | [], j, ps, qs, r, hf, hl, hr, hx, hy => by
    have : ps = [] := List.eq_nil_of_length_eq_zero hl
    subst this
    cases qs with
    | nil => simp [eqsP] at hr; subst hr; rfl
    | cons _ _ => simp [eqsP] at hr
  | f :: fs, j, ps, qs, r, hf, hl, hr, hx, hy => by
    match ps, qs, hl, hr with
    | .int k a :: ps, .int k' b :: qs, hl, hr =>
      simp only [eqsP] at hr
      split at hr
      · rename_i hk
        subst hk
        split at hr
        · rename_i r0 hr0
          injection hr with hr
          obtain ⟨h1, h2, ⟨k0, h3⟩, h4⟩ := hf 0 f rfl
          have ih := run_eqFields_ints d xs ys w fs (j + 1) ps qs r0 (fun i g hg => by
            have := hf (i + 1) g hg
            rw [Nat.add_assoc, Nat.add_comm 1 i]
            exact this) (by simpa using hl) hr0 (fun i k n hi => by
              have := hx (i + 1) k n hi
              rw [Nat.add_assoc, Nat.add_comm 1 i]; exact this) (fun i k n hi => by
              have := hy (i + 1) k n hi
              rw [Nat.add_assoc, Nat.add_comm 1 i]; exact this)
          have ex := hx 0 k a rfl
          have ey := hy 0 k b rfl
          rw [Nat.add_zero] at ex ey h2
          have px : (part f.type xs f.offset).run P w = .ok (.int k a) w := by
            simp [part, h4.run_isAgg w, h2, ex]
          have py : (part f.type ys f.offset).run P w = .ok (.int k b) w := by
            simp [part, h4.run_isAgg w, h2, ey]
          have pe := run_equalIn_int (P := P) w d f.type k k0 a b h3
          simp only [Op.eqFields, h1, ne_eq, not_false_eq_true, if_true, Sem.run_bind, px, py, pe, Result.andThen_ok]
          subst hr
          cases hab : (a == b) with
          | false => simp
          | true => simpa using ih
        · cases hr
      · cases hr
theorem s_eqs (h : Rel G X s a) {n : Nat} {neq : Bool} {t t' : TypeId} {x y : Operand} {ox oy : O} (hx : OT x ox) (hy : OT y oy) (ho : o.op = .binOp (if neq then .neq else .eql) t x y t')
    (hu : P.underlying t = some (.struct (P.fieldsOf t))) (hst : P.stoodInHeld t = false) (hg : P.eqGuardType P.depth t = false) (hn : (P.fieldsOf t).toList.length = n)
    (hf : ∀ (i : Nat) f, (P.fieldsOf t).toList[i]? = some f → f.name ≠ "_" ∧ f.offset = i ∧ (∃ k, P.underlying f.type = some (.int k)) ∧ TyIs P f.type 1 false)
    (hK : semI P (.eqs n neq) [ox.val s.t, oy.val s.t] s.b fun v b => K ⟨putD s.t o.dst v, b⟩) : o.wp P a X.w (Post G K) Q := by
  obtain ⟨_, rx⟩ := h.opnd hx
  obtain ⟨_, ry⟩ := h.opnd hy
  generalize ox.val s.t = vx at *
  generalize oy.val s.t = vy at *
  obtain ⟨xs, rfl⟩ : ∃ l', vx = .p (.agg l') := by
    rcases vx with _ | x | _ | _ | _ | _ | _ <;> first | (simp [semI] at hK; done) | skip
    cases x <;> first | (simp [semI] at hK; done) | exact ⟨_, rfl⟩
  obtain ⟨ys, rfl⟩ : ∃ l', vy = .p (.agg l') := by
    rcases vy with _ | x | _ | _ | _ | _ | _ <;> first | (simp [semI] at hK; done) | skip
    cases x <;> first | (simp [semI] at hK; done) | exact ⟨_, rfl⟩
  simp only [semI] at hK
  obtain ⟨hl, hK⟩ := hK
  split at hK
  · rename_i r hr
    have cells : ∀ {ps : List PV} {v : Value}, Flat X.M X.w (.agg ps) v → ∃ vs : Array Value, v = .agg vs ∧ ∀ (i : Nat) k m, ps[i]? = some (.int k m) → vs[0 + i]? = some (.int k m) := by
      intro ps v hv
      cases hv with
      | agg _ vs hl h1 h =>
        refine ⟨vs, rfl, fun i k m hi => ?_⟩
        have hlt := (List.getElem?_eq_some_iff.1 hi).1
        have hv : vs[i]? = some vs[i] := by simp [show i < vs.size by omega]
        rw [Nat.zero_add, hv, Flat.intv (h i _ _ hi hv)]
    obtain ⟨vs, ev, hv⟩ := cells rx
    obtain ⟨us, eu, hu'⟩ := cells ry
    have run := run_eqFields_ints (P := P) 9998 vs us X.w (P.fieldsOf t).toList 0 xs ys r (fun i f hif => by
      obtain ⟨a1, a2, a3⟩ := hf i f hif
      exact ⟨a1, by omega, a3⟩) (by omega) hr hv hu'
    have hq := (run_equalIn_agg (P := P) X.w 9999 t vs us hu hst).trans run
    refine wp_pv (z := .bool _) h ?_ (.bool _) hK
    cases neq with
    | true =>
      have := run_neq_struct (P := P) X.w t vs us
      simp [execOp, ho, ev, eu, run_eqGuard_agg _ _ _ _ _ _ _ hg, this, hq]
    | false =>
      have := run_eql_struct (P := P) X.w t vs us
      simp [execOp, ho, ev, eu, run_eqGuard_agg _ _ _ _ _ _ _ hg, this, hq]
  · exact hK.elim
theorem s_eqb (h : Rel G X s a) {neq : Bool} {t t' : TypeId} {x y : Operand} {ox oy : O} (hx : OT x ox) (hy : OT y oy) (ho : o.op = .binOp (if neq then .neq else .eql) t x y t') (hu : P.underlying t = some .bool)
    (hK : semI P (.eqb neq) [ox.val s.t, oy.val s.t] s.b fun v b => K ⟨putD s.t o.dst v, b⟩) : o.wp P a X.w (Post G K) Q := by
  obtain ⟨_, rx⟩ := h.opnd hx
  obtain ⟨_, ry⟩ := h.opnd hy
  generalize ox.val s.t = vx at *
  generalize oy.val s.t = vy at *
  obtain ⟨p, rfl⟩ : ∃ l', vx = .p (.bool l') := by
    rcases vx with _ | x | _ | _ | _ | _ | _ <;> first | (simp [semI] at hK; done) | skip
    cases x <;> first | (simp [semI] at hK; done) | exact ⟨_, rfl⟩
  obtain ⟨q, rfl⟩ : ∃ l', vy = .p (.bool l') := by
    rcases vy with _ | x | _ | _ | _ | _ | _ <;> first | (simp [semI] at hK; done) | skip
    cases x <;> first | (simp [semI] at hK; done) | exact ⟨_, rfl⟩
  simp only [semI] at hK
  have ex := Flat.boolv rx
  have ey := Flat.boolv ry
  have he := run_equalIn_bool' (P := P) X.w 9999 t p q hu
  refine wp_pv (z := .bool _) h ?_ (.bool _) hK
  cases neq with
  | true => simp [execOp, ho, ex, ey, eqGuard, binOp, Op.equal, Op.maxDepth, he]
  | false => simp [execOp, ho, ex, ey, eqGuard, binOp, Op.equal, Op.maxDepth, he]
theorem s_eqat (h : Rel G X s a) {t t' : TypeId} {ms : Array (String × TypeId)} {x : Operand} {ox oy : O} (hx : OT x ox) (ho : o.op = .binOp .neq t x (.const .nilIface) t') (hu : P.underlying t = some (.interface ms))
    (hK : semI P (.eqat true) [ox.val s.t, oy.val s.t] s.b fun v b => K ⟨putD s.t o.dst v, b⟩) : o.wp P a X.w (Post G K) Q := by
  obtain ⟨_, rx⟩ := h.opnd hx
  have hx' : ox.val s.t = .p (.atom .nilIface) ∧ K ⟨putD s.t o.dst (.p (.bool false)), s.b⟩ := by
    revert hK
    generalize ox.val s.t = vx
    generalize oy.val s.t = vy
    intro hK
    unfold semI at hK
    split at hK <;> first | contradiction | (rename_i e1 e2; injection e1 with e1; subst e1; injection e2 with e2 e3; injection e3 with e3 e4; exact ⟨e2, hK⟩) | skip
  obtain ⟨e1, hK⟩ := hx'
  rw [e1] at rx
  have ev : a.eval x = .nilIface := by
    generalize a.eval x = u at rx
    cases rx with
    | atom v h => rfl
  have e0 : a.eval (.const .nilIface) = .nilIface := rfl
  refine wp_pv (z := .bool false) h ?_ (.bool _) hK
  simp [execOp, ho, ev, e0, eqGuard_nil_constR, Lib.run_neq_nil_nil X.w hu]
/-- A value that is data in new blocks. -/
theorem wp_newdata (h : Rel G X s a) {z : PV} {v : Value} {w' : World} (run : (execOp a.eval o).run P X.w = .ok (.value v) w') (hb : Below X.w.heap.size X.w w') (hf : Flat (fun b i => b < X.w.heap.size ∧ X.M b i) w' z v)
    (hK : K ⟨putD s.t o.dst (.p z), s.b⟩) : o.wp P a X.w (Post G K) Q := by
  unfold Oper.wp
  rw [run, Oper.upon_value]
  obtain ⟨h1, h2⟩ := after_call h (X1 := { X with M := fun b i => b < X.w.heap.size ∧ X.M b i, w := w' }) (fun b hlt i => ⟨fun hm => hm.2, fun hm => ⟨hlt, hm⟩⟩) hb (o.dst.getD 0) (r := .p z) rfl hf
  exact ⟨_, _, h1.put (d := o.dst) (fun j hj => by have e : o.dst.getD 0 = j := by rw [hj]; rfl
                                                   rw [e] at h2 ⊢; exact h2), rfl, hK⟩
theorem s_s2b (h : Rel G X s a) {src dst e : TypeId} {x : Operand} {ox : O} (hx : OT x ox) (ho : o.op = .convert src dst x) (hs : P.underlying src = some .string) (hd : P.underlying dst = some (.slice e)) (he : P.underlying e = some (.int .u8))
    (hK : semI P .s2b [ox.val s.t] s.b fun v b => K ⟨putD s.t o.dst v, b⟩) : o.wp P a X.w (Post G K) Q := by
  obtain ⟨_, rx⟩ := h.opnd hx
  generalize ox.val s.t = vx at *
  cases vx with
  | p z =>
    cases z with
    | str z =>
      have ev := Flat.strv rx
      simp only [semI] at hK
      obtain ⟨hz, hK⟩ := hK
      have run : (execOp a.eval o).run P X.w = .ok (.value (.slice (some ⟨X.w.heap.size, 0, none⟩) z.size (grownCap X.w z.size 0 e))) (Lib.bytesWorld X.w e z) := by
        simp [execOp, ho, ev, Lib.run_convert_string_bytes X.w src dst e z hs hd he]
      have hsz : z.data.toList.length = z.size := Array.length_toList
      refine wp_newdata h run ⟨rfl, rfl, rfl, by rw [Lib.bytesWorld_size]; omega, fun k hk => Lib.bytesWorld_at_old X.w e z k hk⟩ ?_ hK
      have hf := Flat.sl (M := fun b i => b < X.w.heap.size ∧ X.M b i) (w := Lib.bytesWorld X.w e z) 1 (z.data.toList.map fun c => PV.int .u8 c.toNat) X.w.heap.size 0 (grownCap X.w z.size 0 e)
        (fun j => .int .u8 (z.data.toList.getD j 0).toNat) (by rw [List.length_map, hsz]; exact grownCap_ge X.w z.size 0 e) (grownCap_le_maxLen X.w z.size 0 e hz) (fun j hj => ?_) (fun row hr => ?_) (fun row hr c hc => ?_) (fun i j row c hr hc => ?_)
      · simpa [hsz] using hf
      · rw [List.length_map, hsz, Nat.mul_one] at hj
        rw [Nat.zero_add]
        exact ⟨Lib.bytesWorld_cell X.w e z j hj, fun hm => Nat.lt_irrefl _ hm.1⟩
      · obtain ⟨c, _, rfl⟩ := List.mem_map.1 hr; rfl
      · obtain ⟨c', _, rfl⟩ := List.mem_map.1 hr
        simp only [rowCells, List.mem_singleton] at hc
        subst hc; rfl
      · rw [List.getElem?_map] at hr
        cases hx : z.data.toList[i]? with
        | none => rw [hx] at hr; simp at hr
        | some b =>
          rw [hx] at hr
          simp only [Option.map_some, Option.some.injEq] at hr
          subst hr
          cases j with
          | zero =>
            simp only [rowCells, List.getElem?_cons_zero, Option.some.injEq] at hc
            subst hc
            have : z.data.toList.getD (i * 1 + 0) 0 = b := by simp only [Nat.mul_one, Nat.add_zero, List.getD, hx]; rfl
            rw [this]
            exact .int _ _
          | succ j => simp [rowCells] at hc
    | _ => simp [semI] at hK
  | _ => simp [semI] at hK
/-- A box of which less is said. -/
theorem BoxRel.cut {X : Cx} {base k : Nat} {bx : Box} {blk : Nat} {cs : Array Value} {ty : TypeId} (hb : BoxRel X base k bx blk cs ty) {n : Nat} (hn : n ≤ bx.rows.length) :
    BoxRel X base k { bx with rows := bx.rows.take n } blk cs ty := by
  have hle : (bx.rows.take n).length * bx.size ≤ bx.rows.length * bx.size := Nat.mul_le_mul_right _ (by simp; omega)
  refine ⟨hb.ρ, hb.own, hb.hbase, hb.heap, Nat.le_trans hle hb.size, fun row hrow => hb.width row (List.mem_of_mem_take hrow), fun r o row d u hr hd hu => ?_, hb.live, fun hl => ?_⟩
  · simp only [List.getElem?_take] at hr
    split at hr
    · exact hb.cells r o row d u hr hd hu
    · cases hr
  · obtain ⟨f1, f2⟩ := hb.fixed hl
    exact ⟨fun o ho => f1 o (Nat.lt_of_lt_of_le ho hle), fun row hrow => f2 row (List.mem_of_mem_take hrow)⟩
theorem Rel.setBox (h : Rel G X s a) {k : Nat} {bx : Box} (hb : BX X G.base k bx) : Rel G X ⟨s.t, setL s.b k (some bx)⟩ a := by
  refine ⟨h.defers, h.size, h.tmps, fun j bx' hj => ?_, h.below, h.hb, h.mold⟩
  rcases setB_get hj with ⟨rfl, rfl⟩ | ⟨_, hj⟩
  · exact hb
  · exact h.boxes j bx' hj
theorem s_slb (h : Rel G X s a) {k size : Nat} {isA : Bool} {t e : TypeId} {x m : Operand} {ox om : O} (hx : OT x ox) (hm : OT m om) (ho : o.op = .slice t x none (some m) none)
    (hu : P.underlying t = some (.slice e)) (hi' : TyIs P e size isA)
    (hK : semI P (.slb k size) [ox.val s.t, om.val s.t] s.b fun v b => K ⟨putD s.t o.dst v, b⟩) : o.wp P a X.w (Post G K) Q := by
  obtain ⟨Lx, rx⟩ := h.opnd hx
  obtain ⟨Lm, rm⟩ := h.opnd hm
  generalize ox.val s.t = vx at *
  generalize om.val s.t = vm at *
  have hu' := P_elem hu
  have he : P.elem t = e := by rw [hu] at hu'; injection hu' with h1; injection h1 with h2; exact h2.symm
  have hsize : ∀ w, (sizeOf (P.elem t)).run P w = .ok size w := fun w => by rw [he]; exact hi'.run_sizeOf w
  cases vx with
  | bs k' sz ag l n =>
    obtain ⟨k1, m', rfl⟩ : ∃ k1 l', vm = .p (.int k1 l') := by
      rcases vm with _ | x | _ | _ | _ | _ | _ <;> first | (simp [semI] at hK; done) | skip
      cases x <;> first | (simp [semI] at hK; done) | exact ⟨_, _, rfl⟩
    simp only [semI] at hK
    obtain ⟨rfl, rfl, rfl, h0, h1, hK⟩ := hK
    have em := Flat.intv rm
    cases hbk : getB s.b k' with
    | none => simp [hbk] at hK
    | some bx =>
      simp only [hbk] at hK
      obtain ⟨h2, hK⟩ := hK
      obtain ⟨blk, cap, e1, e2, e3, e4⟩ := rx
      obtain ⟨blk', cs, ty, hb⟩ := h.cbox (getB_some hbk) (getB_ne hbk)
      have hne0 : bx.size ≠ 0 := getB_ne hbk
      have h' := h.setBox (.cell (bx := { bx with rows := bx.rows.take m'.toNat }) hne0 (hb.cut (n := m'.toNat) (by omega)))
      have run : (execOp a.eval o).run P X.w = .ok (.value (.slice (some ⟨blk, 0, none⟩) m'.toNat cap)) X.w := by
        simp [execOp, ho, e4, em, run_sliceAt_slice, hu', run_slice_h X.w t _ n cap hu' _ m' h0 (by omega), hsize, sliced, Addr.add_lit]
      exact wp_value (v := .bs k' sz ag 0 m'.toNat) h' run (fun _ _ => ⟨blk, cap, e1, by omega, e3, by simp⟩) hK
  | _ => simp [semI] at hK
/-- A new map. -/
def Cx.growM (X : Cx) (k : Nat) : Cx :=
  { ρ := fun j => if j = k then some X.w.heap.size else X.ρ j
    own := fun g => if g = X.w.heap.size then some (.box k) else X.own g
    M := fun b o => if b = X.w.heap.size then True else X.M b o
    w := X.w.alloc (.map #[] 0)
    ex := X.ex }
theorem ev_growM (X : Cx) (k : Nat) : Ev (fun _ => True) X (X.growM k) := by
  refine ⟨fun b o v hM hc => ?_, fun g L hg _ hlt => ?_, rfl⟩
  · have hlt : b < X.w.heap.size := World.block_lt_of_cell? _ _ hc
    refine ⟨by show (X.w.alloc _).cell? _ = _; rw [World.cell?_alloc_lt _ _ _ hlt]; exact hc, ?_⟩
    show ¬ (if b = X.w.heap.size then True else X.M b o)
    rw [if_neg (by omega)]
    exact hM
  · refine ⟨?_, ?_, fun o hM => ?_⟩
    · show (if g = X.w.heap.size then _ else X.own g) = _
      rw [if_neg (by omega)]; exact hg
    · exact Below.heap_alloc _ _ _ hlt
    · show (if g = X.w.heap.size then True else X.M g o)
      split
      · trivial
      · exact hM
theorem s_mkmap (h : Rel G X s a) {k : Nat} {t : TypeId} (ho : o.op = .makeMap t none) (hf : k < s.b.length ∧ noRefT k (putD s.t o.dst .top) = true ∧ noRefB k 0 s.b = true)
    (hK : semI P (.mkmap k) [] s.b fun v b => K ⟨putD s.t o.dst v, b⟩) : o.wp P a X.w (Post G K) Q := by
  simp only [semI] at hK
  obtain ⟨hkl, hT, hB⟩ := hf
  have hev := ev_growM X k
  have hρ : ∀ j, j ≠ k → (X.growM k).ρ j = X.ρ j := fun j hj => by show (if j = k then _ else X.ρ j) = _; rw [if_neg hj]
  have h0 : Rel G X ⟨putD s.t o.dst .top, s.b⟩ a := by
    cases o.dst with
    | none => exact h
    | some i => exact h.weak i .top trivial
  have h1 : Rel G (X.growM k) ⟨putD s.t o.dst .top, setL s.b k (some ⟨true, 0, [], false⟩)⟩ a := by
    refine ⟨h0.defers, h0.size, ?_, ?_, h0.below.trans (.of ((Below.refl _ _).alloc h0.hb _)), by show _ ≤ (X.w.heap.push _).size; rw [Array.size_push]; exact Nat.le_succ_of_le h0.hb, h0.mold.1, ?_⟩
    · intro i e he
      have hm := noRefT_get hT he
      exact (h0.tmps i e he).mono (fun _ _ h => h) hev trivial fun j hj => hρ j (fun e' => by subst e'; rw [hm] at hj; cases hj)
    · intro j bx' hj
      rcases setB_get hj with ⟨rfl, rfl⟩ | ⟨hne, hj⟩
      · unfold BX
        rw [if_pos rfl]
        refine ⟨X.w.heap.size, #[], 0, ?_, ?_, .inl ⟨rfl, h.hb⟩, ?_, rfl, fun o => ?_, fun i row e hi => by simp at hi⟩
        · show (if j = j then some X.w.heap.size else _) = _; rw [if_pos rfl]
        · show (if X.w.heap.size = X.w.heap.size then _ else _) = _; rw [if_pos rfl]
        · show (X.w.heap.push _)[_]? = _; simp
        · show (if _ then True else _); rw [if_pos rfl]; trivial
      · have hr := noRefB_get hB hj (by omega)
        exact (h0.boxes j bx' hj).mono (fun _ _ h => h) hev trivial (fun _ _ => trivial) (hρ j hne) fun row hrow e he i hi =>
          hρ i (fun e' => by subst e'; rw [noRefR_get hr hrow he] at hi; cases hi)
    · intro b hb hx o
      have : b < X.w.heap.size := Nat.lt_of_lt_of_le hb h.hb
      show (if b = X.w.heap.size then True else X.M b o) ↔ _
      rw [if_neg (by omega)]
      exact h0.mold.2 b hb hx o
  unfold Oper.wp
  have run : (execOp a.eval o).run P X.w = .ok (.value (.map (some X.w.heap.size))) (X.w.alloc (.map #[] 0)) := by
    simp [execOp, ho, Instr.makeMap, newObj, Sem.run]
  rw [run, Oper.upon_value]
  have h2 := h1.put (d := o.dst) (v := .mh k) (u := .map (some X.w.heap.size)) (fun j _ => ⟨X.w.heap.size, by simp [Cx.growM], rfl⟩)
  have e : putD (putD s.t o.dst .top) o.dst (.mh k) = putD s.t o.dst (.mh k) := by
    cases o.dst with
    | none => rfl
    | some i =>
      apply List.ext_getElem?
      intro j
      simp only [putD, getElem?_setL]
      split
      · cases s.t[j]? <;> rfl
      · rfl
  exact ⟨_, _, by simpa [e] using h2, rfl, hK⟩
/-- What is found in a map. -/
theorem findM_now {M : Nat → Nat → Prop} {w : World} {q : IntKind} {x : Int} : ∀ {rows : List (List DV)} {es : List MapEntry} {r : Option PV} {i0 : Nat}, es.length = rows.length →
    (∀ (i : Nat) row e, rows[i]? = some row → es[i]? = some e → ∃ q n x, row = [.p (.int q n), .p x] ∧ e.key = .int q n ∧ Flat M w x e.val) → findM q x rows = some r →
    ∃ r' : Option (Nat × Value), Instr.findNow (.int q) (.int q x) es i0 = some r' ∧ (match r, r' with | none, none => True | some v, some (_, u) => Flat M w v u | _, _ => False) := by
  intro rows
  induction rows with
  | nil =>
    intro es r i0 hl _ h
    cases es with
    | nil => simp only [findM, Option.some.injEq] at h; subst h; exact ⟨none, rfl, trivial⟩
    | cons _ _ => simp at hl
  | cons row rows ih =>
    intro es r i0 hl hr h
    cases es with
    | nil => simp at hl
    | cons e es =>
      obtain ⟨q', n, v, rfl, ek, ev⟩ := hr 0 row e rfl rfl
      simp only [findM] at h
      split at h
      · rename_i hq
        subst hq
        split at h
        · rename_i hn
          subst hn
          injection h with h
          subst h
          exact ⟨some (i0, e.val), by simp [Instr.findNow, Instr.sameNow, ek], ev⟩
        · rename_i hn
          obtain ⟨r', h1, h2⟩ := ih (i0 := i0 + 1) (es := es) (by simpa using hl) (fun i row e h1 h2 => hr (i + 1) row e (by simpa using h1) (by simpa using h2)) h
          refine ⟨r', ?_, h2⟩
          have : (x == n) = false := by simpa using fun e => hn e.symm
          simp [Instr.findNow, Instr.sameNow, ek, this, h1]
      · cases h
theorem s_look (h : Rel G X s a) {zero : PV} {t kt et : TypeId} {q : IntKind} {zv : Value} {i : TypeInfo} {x y : Operand} {ox oy : O} (hx : OT x ox) (hy : OT y oy) (ho : o.op = .lookup t x y false) (hu : P.underlying t = some (.map kt et))
    (hk : P.underlying kt = some (.int q)) (hi : P.info? et = some i) (hz : i.zero = some zv) (hzr : ZP zero zv)
    (hK : semI P (.look q zero) [ox.val s.t, oy.val s.t] s.b fun v b => K ⟨putD s.t o.dst v, b⟩) : o.wp P a X.w (Post G K) Q := by
  obtain ⟨_, rx⟩ := h.opnd hx
  obtain ⟨_, ry⟩ := h.opnd hy
  generalize ox.val s.t = vx at *
  generalize oy.val s.t = vy at *
  cases vx with
  | mh k =>
    obtain ⟨q', n, rfl⟩ : ∃ q' n, vy = .p (.int q' n) := by
      rcases vy with _ | x | _ | _ | _ | _ | _ | _ <;> first | (simp [semI] at hK; done) | skip
      cases x <;> first | (simp [semI] at hK; done) | exact ⟨_, _, rfl⟩
    simp only [semI] at hK
    obtain ⟨rfl, hK⟩ := hK
    have ey := Flat.intv ry
    cases hbk : getM s.b k with
    | none => simp [hbk] at hK
    | some bx =>
      simp only [hbk] at hK
      obtain ⟨hsb, hs0⟩ := getM_some hbk
      have hB := h.boxes k bx hsb
      unfold BX at hB
      rw [if_pos hs0] at hB
      obtain ⟨blk, es, clock, m1, m2, m3, m4, m5, m6, m7⟩ := hB
      obtain ⟨blk', e1, e2⟩ := rx
      have : blk' = blk := by rw [e1] at m1; injection m1
      subst this
      cases hf : findM q' n bx.rows with
      | none => simp [hf] at hK
      | some r =>
        obtain ⟨r', g1, g2⟩ := findM_now (i0 := 0) (es := es.toList) (by simpa using m5) (fun i row e hr he => m7 i row e hr (by simpa using he)) hf
        have fin : ∀ (u : Value) (v : PV), (execOp a.eval o).run P X.w = .ok (.value u) X.w → Flat X.M X.w v u → K ⟨putD s.t o.dst (.p v), s.b⟩ → o.wp P a X.w (Post G K) Q := fun u v hr hv hKK => wp_pv h hr hv hKK
        have hkey : ∀ e n0, (Instr.checkKey e (n0 + 1) kt (.int q' n)).run P X.w = .ok () X.w := fun e n0 => MapKept.run_checkKey hk (show MapKept.IsKey (.int q') (.int q' n) from rfl) e n0
        have hfind : (Instr.findKey kt (.int q' n) es.toList).run P X.w = .ok r' X.w := MapKept.run_findKey hk g1
        cases r with
        | some v =>
          cases r' with
          | none => exact g2.elim
          | some p =>
            obtain ⟨i1, u⟩ := p
            simp only [hf] at hK
            refine fin u v ?_ g2 hK
            simp [execOp, ho, e2, ey, Instr.lookup, run_underlying hu, MapKept.run_getObj_map m4, hkey _ 9999, hfind]
        | none =>
          cases r' with
          | some p => exact g2.elim
          | none =>
            simp only [hf] at hK
            refine fin zv zero ?_ hzr.rel.1 hK
            have hzv : ∀ w, (zeroValue et).run P w = .ok zv w := fun w => by simp [zeroValue, typeInfo, hi, hz]
            simp [execOp, ho, e2, ey, Instr.lookup, run_underlying hu, MapKept.run_getObj_map m4, hkey _ 9999, hfind, hzv]
  | _ => cases vy <;> simp [semI] at hK
theorem updM_now {M : Nat → Nat → Prop} {w : World} {q : IntKind} {x : Int} {v : PV} : ∀ {rows rows' : List (List DV)} {es : List MapEntry} {i0 : Nat}, es.length = rows.length →
    (∀ (i : Nat) row e, rows[i]? = some row → es[i]? = some e → ∃ q n x, row = [.p (.int q n), .p x] ∧ e.key = .int q n ∧ Flat M w x e.val) → updM q x v rows = some rows' →
    (Instr.findNow (.int q) (.int q x) es i0 = some none ∧ rows' = rows ++ [[.p (.int q x), .p v]]) ∨
    ∃ j e, Instr.findNow (.int q) (.int q x) es i0 = some (some (i0 + j, e.val)) ∧ es[j]? = some e ∧ e.key = .int q x ∧ rows' = setL rows j [.p (.int q x), .p v] := by
  intro rows
  induction rows with
  | nil =>
    intro rows' es i0 hl _ h
    cases es with
    | nil => simp only [updM, Option.some.injEq] at h; subst h; exact .inl ⟨rfl, rfl⟩
    | cons _ _ => simp at hl
  | cons row rows ih =>
    intro rows' es i0 hl hr h
    cases es with
    | nil => simp at hl
    | cons e es =>
      obtain ⟨q', n, u, rfl, ek, ev⟩ := hr 0 row e rfl rfl
      simp only [updM] at h
      split at h
      · rename_i hq
        subst hq
        split at h
        · rename_i hn
          subst hn
          injection h with h
          subst h
          exact .inr ⟨0, e, by simp [Instr.findNow, Instr.sameNow, ek], rfl, ek, rfl⟩
        · rename_i hn
          split at h
          · rename_i l hl'
            injection h with h
            subst h
            have hne : (x == n) = false := by simpa using fun e => hn e.symm
            rcases ih (i0 := i0 + 1) (es := es) (by simpa using hl) (fun i row e h1 h2 => hr (i + 1) row e (by simpa using h1) (by simpa using h2)) hl' with ⟨h1, h2⟩ | ⟨j, e', h1, h2, h3, h4⟩
            · exact .inl ⟨by simp [Instr.findNow, Instr.sameNow, ek, hne, h1], by rw [h2]; rfl⟩
            · exact .inr ⟨j + 1, e', by simp [Instr.findNow, Instr.sameNow, ek, hne, h1]; omega, by simpa using h2, h3, by rw [h4]; rfl⟩
          · cases h
      · cases h
theorem s_mupd (h : Rel G X s a) {t kt et : TypeId} {q : IntKind} {x y z : Operand} {ox oy oz : O} (hx : OT x ox) (hy : OT y oy) (hz : OT z oz) (ho : o.op = .mapUpdate t x y z) (hd : o.dst = none) (hu : P.underlying t = some (.map kt et))
    (hk : P.underlying kt = some (.int q))
    (hK : semI P (.mupd q) [ox.val s.t, oy.val s.t, oz.val s.t] s.b fun v b => K ⟨putD s.t o.dst v, b⟩) : o.wp P a X.w (Post G K) Q := by
  obtain ⟨_, rx⟩ := h.opnd hx
  obtain ⟨_, ry⟩ := h.opnd hy
  obtain ⟨_, rz⟩ := h.opnd hz
  generalize ox.val s.t = vx at *
  generalize oy.val s.t = vy at *
  generalize oz.val s.t = vz at *
  cases vx with
  | mh k =>
    obtain ⟨q', n, rfl⟩ : ∃ q' n, vy = .p (.int q' n) := by
      rcases vy with _ | x | _ | _ | _ | _ | _ | _ <;> first | (simp [semI] at hK; done) | skip
      cases x <;> first | (simp [semI] at hK; done) | exact ⟨_, _, rfl⟩
    obtain ⟨v, rfl⟩ : ∃ v, vz = .p v := by
      rcases vz with _ | x | _ | _ | _ | _ | _ | _ <;> first | (simp [semI] at hK; done) | exact ⟨_, rfl⟩
    simp only [semI] at hK
    obtain ⟨rfl, hone, hK⟩ := hK
    have ey := Flat.intv ry
    have rz' : Flat X.M X.w v (a.eval z) := rz
    cases hbk : getM s.b k with
    | none => simp [hbk] at hK
    | some bx =>
      simp only [hbk] at hK
      obtain ⟨hsb, hs0⟩ := getM_some hbk
      have hB := h.boxes k bx hsb
      unfold BX at hB
      rw [if_pos hs0] at hB
      obtain ⟨blk, es, clock, m1, m2, m3, m4, m5, m6, m7⟩ := hB
      obtain ⟨blk', e1, e2⟩ := rx
      have : blk' = blk := by rw [e1] at m1; injection m1
      subst this
      cases hf : updM q' n v bx.rows with
      | none => simp [hf] at hK
      | some rows' =>
        simp only [hf] at hK
        have hlt : blk' < X.w.heap.size := (Array.getElem?_eq_some_iff.1 m4).1
        have hkey : ∀ e n0, (Instr.checkKey e (n0 + 1) kt (.int q' n)).run P X.w = .ok () X.w := fun e n0 => MapKept.run_checkKey hk (show MapKept.IsKey (.int q') (.int q' n) from rfl) e n0
        have key : ∃ es' clock', (execOp a.eval o).run P X.w = .ok .skip { X.w with heap := X.w.heap.setIfInBounds blk' (.map es' clock') } ∧ es'.size = rows'.length ∧
            ∀ (i : Nat) row e, rows'[i]? = some row → es'[i]? = some e → ∃ q n x, row = [.p (.int q n), .p x] ∧ e.key = .int q n ∧ Flat X.M X.w x e.val := by
          rcases updM_now (i0 := 0) (es := es.toList) (by simpa using m5) (fun i row e hr he => m7 i row e hr (by simpa using he)) hf with ⟨g1, g2⟩ | ⟨j, e, g1, g2, g3, g4⟩
          · refine ⟨es.push { key := .int q' n, val := a.eval z, born := clock }, clock + 1, ?_, by simp [g2, m5], fun i row e hr he => ?_⟩
            · simp [execOp, ho, e2, ey, Instr.mapUpdate, run_underlying hu, MapKept.run_getObj_map m4, hkey _ 9999, MapKept.run_findKey hk g1, MapKept.run_setObj_map _ m4]
            · subst g2
              rw [List.getElem?_append] at hr
              rw [Array.getElem?_push] at he
              by_cases hi : i < bx.rows.length
              · rw [if_pos hi] at hr
                rw [if_neg (by omega)] at he
                exact m7 i row e hr he
              · rw [if_neg hi] at hr
                have h0 : i - bx.rows.length = 0 := by
                  have := (List.getElem?_eq_some_iff.1 hr).1
                  simp at this; omega
                rw [h0] at hr
                rw [if_pos (by omega)] at he
                simp only [List.getElem?_cons_zero, Option.some.injEq] at hr he
                subst hr; subst he
                exact ⟨_, _, _, rfl, rfl, rz'⟩
          · have hj : es[j]? = some e := by simpa using g2
            have hjl : j < es.size := (Array.getElem?_eq_some_iff.1 hj).1
            have g1' : Instr.findNow (.int q') (.int q' n) es.toList 0 = some (some (j, e.val)) := by simpa using g1
            refine ⟨es.modify j (fun e => { e with key := .int q' n, val := a.eval z }), clock, ?_, by simp [g4, setL_length, m5], fun i row e' hr he => ?_⟩
            · simp [execOp, ho, e2, ey, Instr.mapUpdate, run_underlying hu, MapKept.run_getObj_map m4, hkey _ 9999, MapKept.run_findKey hk g1', hj, g3, MapKept.run_keyThatStays (d := .int q') (k := .int q' n) rfl, MapKept.run_setObj_map _ m4]
            · subst g4
              rw [getElem?_setL] at hr
              rw [Array.getElem?_modify] at he
              by_cases hij : i = j
              · subst hij
                rw [if_pos rfl] at hr
                rw [if_pos rfl, hj] at he
                cases hrow : bx.rows[i]? with
                | none => rw [hrow] at hr; simp at hr
                | some row0 =>
                  rw [hrow] at hr
                  simp only [Option.map_some, Option.some.injEq] at hr he
                  subst hr; subst he
                  exact ⟨_, _, _, rfl, rfl, rz'⟩
              · rw [if_neg hij] at hr
                rw [if_neg (fun e => hij e.symm)] at he
                exact m7 i row e' hr he
        obtain ⟨es', clock', run, k1, k2⟩ := key
        generalize hw : ({ X.w with heap := X.w.heap.setIfInBounds blk' (.map es' clock') } : World) = w' at run
        obtain ⟨q1, q2⟩ := MapKept.heap_set (o' := .map es' clock') m4
        have hwh : w'.heap = X.w.heap.setIfInBounds blk' (.map es' clock') := by subst hw; rfl
        rw [← hwh] at q1 q2
        have hsz : w'.heap.size = X.w.heap.size := by subst hw; simp
        have hev : Ev (fun L => L ≠ .box k) X { X with w := w' } := by
          refine ⟨fun b i u hM hcv => ?_, fun g L hg hS hgl => ?_, rfl⟩
          · have hbne : b ≠ blk' := fun e => by subst e; exact hM (m6 i)
            exact ⟨(World.cell?_of_block (w := X.w) (q2 b hbne)).trans hcv, hM⟩
          · have hgne : g ≠ blk' := fun e => by subst e; rw [m2] at hg; injection hg with hg; exact hS hg.symm
            exact ⟨hg, q2 g hgne, fun _ h => h⟩
        unfold Oper.wp
        rw [run, Oper.upon_skip, hd]
        have hp : a.put none undef = a := rfl
        rw [hp]
        refine ⟨_, { X with w := w' }, ?_, rfl, hK⟩
        rw [hd]
        refine ⟨h.defers, h.size, fun i d hdd => (h.tmps i d hdd).mono (fun _ _ _ h => by cases h) hev (by simp) fun _ _ => rfl, fun j bx' hj => ?_,
          h.below.trans ⟨by subst hw; rfl, by subst hw; rfl, by subst hw; rfl, by rw [hsz]; exact Nat.le_refl _, fun r hr hx => q2 r (fun e => by subst e; exact m3.elim (fun h => by have := h.2; omega) (fun h' => hx _ (by rw [← h.mold.1]; exact h'.2)))⟩,
          by show G.base ≤ w'.heap.size; rw [hsz]; exact h.hb, h.mold⟩
        rcases setB_get hj with ⟨rfl, rfl⟩ | ⟨hne, hj⟩
        · unfold BX
          rw [if_pos (show bx.size = 0 from hs0)]
          refine ⟨blk', es', clock', m1, m2, m3, q1, k1, m6, fun i row e hr he => ?_⟩
          obtain ⟨q0, n0, x0, f1, f2, f3⟩ := k2 i row e hr he
          exact ⟨q0, n0, x0, f1, f2, f3.mono hev.keeps⟩
        · exact (h.boxes j bx' hj).mono (fun _ _ _ h => by cases h) hev (by simp [hne]) (fun _ _ => by simp) rfl fun _ _ _ _ _ _ => rfl
  | _ => cases vy <;> cases vz <;> simp [semI] at hK
/-- What an argument holds, as the callee sees it. -/
theorem argM_ok (h : Rel G X s a) {k blk : Nat} (hρ : X.ρ k = some blk) {L : Loc} {d d' : DV} {v : Value} (hv : VRel X G.base L d v) (hd : argM k s.b d = some d') (L' : Loc) : VRel (mcx X.M X.w blk) X.w.heap.size L' d' v := by
  have other : ∀ {d : DV}, VRel X G.base L d v → (match d.frz s.b with | some x => some (DV.p x) | none => none) = some d' → VRel (mcx X.M X.w blk) X.w.heap.size L' d' v := by
    intro d hv hd
    split at hd
    · rename_i x hx
      injection hd with hd
      subst hd
      exact frz h hv hx
    · cases hd
  cases d with
  | bs k' sz ag lo n =>
    simp only [argM] at hd
    split at hd
    · rename_i e
      injection hd with hd
      subst e; subst hd
      obtain ⟨b, cap, e1, e2, e3, e4⟩ := hv
      rw [hρ] at e1
      injection e1 with e1
      subst e1
      exact ⟨blk, cap, by simp [mcx], e2, e3, e4⟩
    · cases hd
  | addr k' sz r off =>
    simp only [argM] at hd
    split at hd
    · rename_i e
      injection hd with hd
      subst e; subst hd
      obtain ⟨b, e1, e2⟩ := hv
      rw [hρ] at e1
      injection e1 with e1
      subst e1
      exact ⟨blk, by simp [mcx], e2⟩
    · cases hd
  | p x => exact other hv hd
  | top => exact other hv hd
  | mh _ => exact other hv hd
  | ow _ _ _ => exact other hv hd
  | tup _ => exact other hv hd
  | fn _ _ => exact other hv hd
theorem argsM_get {k : Nat} {b : List (Option Box)} {ds : List DV} : ∀ {xs : List DV}, argsM k b ds = some xs → xs.length = ds.length ∧ ∀ (i : Nat) d x, ds[i]? = some d → xs[i]? = some x → argM k b d = some x := by
  induction ds with
  | nil => intro xs h; simp only [argsM, Option.some.injEq] at h; subst h; exact ⟨rfl, fun i d x hd => by simp at hd⟩
  | cons d ds ih =>
    intro xs h
    simp only [argsM] at h
    split at h
    · rename_i x ys h1 h2
      injection h with h
      subst h
      obtain ⟨e1, e2⟩ := ih h2
      refine ⟨by simp [e1], fun i d' x' hd hx => ?_⟩
      cases i with
      | zero => simp only [List.getElem?_cons_zero, Option.some.injEq] at hd hx; subst hd; subst hx; exact h1
      | succ i => exact e2 i d' x' (by simpa using hd) (by simpa using hx)
    · cases h
theorem BoxRel.hand {k : Nat} {bx : Box} {base blk : Nat} {cs : Array Value} {ty : TypeId} (hb : BoxRel X base k bx blk cs ty) (hl : bx.live = true) (hp : allPR bx.rows = true) :
    BoxRel (mcx X.M X.w blk) X.w.heap.size 0 ⟨true, bx.size, bx.rows, true⟩ blk cs ty := by
  refine ⟨by simp [mcx], by simp [mcx], .inr ⟨rfl, by simp [mcx]⟩, hb.heap, hb.size, hb.width, fun r o row d u hr hd hu => ?_, fun _ => hb.live hl, fun h => by cases h⟩
  obtain ⟨h1, h2⟩ := hb.cells r o row d u hr hd hu
  have hdp := allP_get (allPR_get hp (List.mem_of_getElem? hr)) (List.mem_of_getElem? hd)
  cases d with
  | p x => exact ⟨h1, h2⟩
  | _ => simp [DV.isP] at hdp
theorem s_callm (h : Rel G X s a) {f : FuncId} {k : Nat} {xs : Array Operand} {ts : Array TypeId} {os : List O} (ho : o.op = .call { callee := .value (.func f), args := xs, argTypes := ts })
    (hl : os.length = xs.size) (hos : ∀ (k : Nat) x oo, xs.toList[k]? = some x → os[k]? = some oo → OT x oo)
    (hK : semI P (.callm f k) (os.map (O.val s.t)) s.b fun v b => K ⟨putD s.t o.dst v, b⟩) : o.wp P a X.w (Post G K) Q := by
  simp only [semI] at hK
  cases hbk : getB s.b k with
  | none => simp [hbk] at hK
  | some bx =>
    cases hargs : argsM k s.b (os.map (O.val s.t)) with
    | none => simp [hbk, hargs] at hK
    | some args =>
      simp only [hbk, hargs] at hK
      obtain ⟨hlive, hpl, rows', r, ⟨hf, hrp, hp', hcall⟩, hK⟩ := hK
      obtain ⟨blk, cs, ty, hb⟩ := h.cbox (getB_some hbk) (getB_ne hbk)
      obtain ⟨e1, e2⟩ := argsM_get hargs
      have hlt : blk < X.w.heap.size := (Array.getElem?_eq_some_iff.1 hb.heap).1
      have run : (execOp a.eval o).run P X.w = .ok (.enter f (xs.map a.eval)) X.w := by
        simp [execOp, ho, resolve, Deferred.ofValue, invoke, Act.eval, run_call hf]
      unfold Oper.wp
      rw [run, Oper.upon_enter]
      refine (hcall X.M X.w (xs.map a.eval) blk cs ty (by simp at e1 ⊢; omega) (hb.hand hlive hpl) fun i d v hd hv => ?_).mono ?_
      · rw [Array.getElem?_map] at hv
        cases hx : xs[i]? with
        | none => rw [hx] at hv; simp at hv
        | some y =>
          rw [hx] at hv
          simp only [Option.map_some, Option.some.injEq] at hv
          subst hv
          have hio : i < os.length := by rw [hl]; exact (Array.getElem?_eq_some_iff.1 hx).1
          obtain ⟨L, hvr⟩ := h.opnd (hos i y os[i] (by simpa using hx) (by simp [hio]))
          exact argM_ok h hb.ρ hvr (e2 i (os[i].val s.t) d (by simp [hio]) hd) _
      · rintro e w' ⟨v, X1, cs', ty', rfl, rfl, hv, hb1, hM, hbl⟩
        have hblock : ∀ b, b < X.w.heap.size → b ≠ blk → X1.w.heap[b]? = X.w.heap[b]? := fun b hb' hne => hbl.block b hb' fun j e => by
          split at e
          · injection e with e; exact hne e.symm
          · cases e
        generalize hX' : X.back X1 (o.dst.getD 0) = X'
        have eρ : X'.ρ = X.ρ := by subst hX'; rfl
        have eex : X'.ex = X.ex := by subst hX'; rfl
        have ew : X'.w = X1.w := by subst hX'; rfl
        have eo : ∀ g, g < X.w.heap.size → X'.own g = X.own g := by subst hX'; intro g hg; show (if g < X.w.heap.size then _ else _) = _; rw [if_pos hg]
        have eM : ∀ b, b < X.w.heap.size → ∀ o, X'.M b o ↔ X.M b o := by subst hX'; intro g hg o; show (if g < X.w.heap.size then _ else _) ↔ _; rw [if_pos hg]
        have eM2 : ∀ b, b ≠ blk → ∀ o, X'.M b o ↔ X1.M b o := by
          intro b hne o
          by_cases hg : b < X.w.heap.size
          · rw [eM b hg, hM b hg hne]
          · subst hX'; show (if b < X.w.heap.size then _ else _) ↔ _; rw [if_neg hg]
        have hMblk : ∀ o, X1.M blk o := hb1.live rfl
        have hev : Ev (fun L => L ≠ .box k) X X' := by
          refine ⟨fun b o' u hMb hc => ?_, fun g L hg hS hgl => ?_, eex⟩
          · have hlt' : b < X.w.heap.size := World.block_lt_of_cell? _ _ hc
            have hne : b ≠ blk := fun e => by subst e; exact hMb (hb.live hlive o')
            exact ⟨by rw [ew]; exact (World.cell?_of_block (w := X.w) (hblock b hlt' hne)).trans hc, fun h' => hMb ((eM b hlt' o').1 h')⟩
          · have hne : g ≠ blk := fun e => by subst e; rw [hb.own] at hg; injection hg with hg; exact hS hg.symm
            exact ⟨(eo g hgl).trans hg, by rw [ew]; exact hblock g hgl hne, fun o' hm => (eM g hgl o').2 hm⟩
        have hkeep : Keeps X1.M X1.w X'.M X'.w := by
          intro b o' u hMb hc
          have hne : b ≠ blk := fun e => by subst e; exact hMb (hMblk o')
          exact ⟨by rw [ew]; exact hc, fun h' => hMb ((eM2 b hne o').1 h')⟩
        have hbx : BoxRel X' G.base k { bx with rows := rows' } blk cs' ty' := by
          refine ⟨by rw [eρ]; exact hb.ρ, (eo blk hlt).trans hb.own, by rw [eex]; exact hb.hbase, by rw [ew]; exact hb1.heap, hb1.size, hb1.width, fun r' o' row d u hr hd hu => ?_, fun _ o' => (eM blk hlt o').2 (hb.live hlive o'), fun hl' => by rw [hlive] at hl'; cases hl'⟩
          obtain ⟨h1, h2⟩ := hb1.cells r' o' row d u hr hd hu
          have hdp := allP_get (allPR_get hp' (List.mem_of_getElem? hr)) (List.mem_of_getElem? hd)
          cases d with
          | p x => exact ⟨Flat.mono hkeep h1, h2⟩
          | _ => simp [DV.isP] at hdp
        have h1 : Rel G X' ⟨s.t, setL s.b k none⟩ a := by
          have h0 : Rel G X ⟨s.t, setL s.b k none⟩ a := by
            refine ⟨h.defers, h.size, h.tmps, fun j bx' hj => ?_, h.below, h.hb, h.mold⟩
            simp only [getElem?_setL] at hj
            split at hj
            · cases hb' : s.b[j]? <;> rw [hb'] at hj <;> simp at hj
            · exact h.boxes j bx' hj
          refine ⟨h0.defers, h0.size, fun i d hd => (h0.tmps i d hd).mono (fun _ _ _ h => by cases h) hev (by simp) fun _ _ => by rw [eρ], fun j bx' hj => ?_, ?_, by rw [ew]; exact Nat.le_trans h.hb hbl.size, eex.trans h.mold.1, fun b hb' hx o' => ?_⟩
          · have hne : j ≠ k := fun e => by
              subst e
              simp only [getElem?_setL, if_pos] at hj
              cases hb' : s.b[j]? <;> rw [hb'] at hj <;> simp at hj
            exact (h0.boxes j bx' hj).mono (fun _ _ _ h => by cases h) hev (by simp [hne]) (fun _ _ => by simp) (by rw [eρ]) fun _ _ _ _ _ _ => by rw [eρ]
          · refine h.below.trans ⟨by rw [ew]; exact hbl.os, by rw [ew]; exact hbl.tape, by rw [ew]; exact hbl.output, by rw [ew]; exact hbl.size, fun b hb' hx => ?_⟩
            rw [ew]
            refine hblock b (Nat.lt_of_lt_of_le hb' h.hb) fun e => ?_
            subst e
            rcases hb.hbase with ⟨_, h'⟩ | ⟨_, h'⟩
            · omega
            · rw [h.mold.1] at h'; exact hx _ h'
          · exact (eM b (Nat.lt_of_lt_of_le hb' h.hb) o').trans (h.mold.2 b hb' hx o')
        have h2 : Rel G X' ⟨s.t, setL s.b k (some { bx with rows := rows' })⟩ a := by
          have hne0 : bx.size ≠ 0 := getB_ne hbk
          have := h1.setBox (.cell (bx := { bx with rows := rows' }) hne0 hbx)
          have e : setL (setL s.b k none) k (some { bx with rows := rows' }) = setL s.b k (some { bx with rows := rows' }) := by
            apply List.ext_getElem?
            intro j
            simp only [getElem?_setL]
            split
            · cases s.b[j]? <;> rfl
            · rfl
          simpa [e] using this
        have hvr : VRel X' G.base (.tmp (o.dst.getD 0)) r v := by
          have own : ∀ {L : Loc} {size : Nat} {nl : Bool} {rows : List PV} {u : Value}, (L = .tmp 0 ∨ ∃ j, L = .comp (.tmp 0) j) → OwRel X1 X.w.heap.size L size nl rows u → OwRel X' G.base (toSlot 0 (o.dst.getD 0) L) size nl rows u := by
            intro L size nl rows u hL hu
            rcases hu with hu | ⟨h0, g, cap, cur, ty, g0, g1, g2, g3, g4, g5, g6⟩
            · exact .inl hu
            · have hgn : ¬ g < X.w.heap.size := by omega
              refine .inr ⟨h0, g, cap, cur, ty, g0, ?_, Nat.le_trans h.hb g2, by rw [ew]; exact g3, g4, g5.mono hkeep, fun o' ho' => (eM2 g (fun e => hgn (by rw [e]; exact hlt)) o').2 (g6 o' ho')⟩
              subst hX'
              show (if g < X.w.heap.size then X.own g else (X1.own g).map _) = _
              rw [if_neg hgn, g1]; rfl
          cases r with
          | p x => exact Flat.mono hkeep hv
          | ow size nl rows => exact own (.inl rfl) hv
          | tup ds =>
            obtain ⟨vs, g1, g2, g3⟩ := hv
            refine ⟨vs, g1, g2, fun j d' u hd hu => ?_⟩
            have := g3 j d' u hd hu
            cases d' with
            | p x => exact Flat.mono hkeep this
            | ow size nl rows => exact own (.inr ⟨j, rfl⟩) this
          | _ => simp [DV.plain] at hrp
        exact ⟨_, _, h2.put (d := o.dst) (fun j hj => by
          have e : o.dst.getD 0 = j := by rw [hj]; rfl
          rw [e] at hvr; exact hvr), ew, hK⟩
end
end Go.Proofs.YtkjghcbnmipgfaaGreatDoor.Vc
namespace Go.Proofs.YtkjghcbnmipgfaaGreatDoor.Vc
open Go.RowKit
variable {P : Program}
/-- The operation is this instruction (its guard aside). -/
inductive Tr (P : Program) (o : Oper) : Kd → List O → Prop
  | mov (take : Bool) (x : Operand) (ox : O) (hx : OT x ox) (ho : o.op = .move x ∨ o.op = .assign x) : Tr P o (.mov take) [ox]
  | pick (c x y : Operand) (oc ox oy : O) (hc : OT c oc) (hx : OT x ox) (hy : OT y oy) (ho : o.op = .pick c x y) : Tr P o .pick [oc, ox, oy]
  | box (k size : Nat) (t : TypeId) (x : Operand) (ox : O) (hx : OT x ox) (ho : o.op = .box t x) (hsne : size ≠ 0) : Tr P o (.box k size) [ox]
  | alloc (k size : Nat) (zero : List DV) (t : TypeId) (i : TypeInfo) (z : Value) (ho : o.op = .alloc t) (hi : P.info? t = some i) (hz : i.zero = some z) (hzr : ZRs zero z.cells) (hsne : size ≠ 0) : Tr P o (.alloc k size zero) []
  | build (t : TypeId) (parts : Array (Nat × Operand)) (os : List O) (zero : List PV) (offs : List (Nat × Nat)) (ho : o.op = .build t parts)
      (fields : Array Field) (hu : P.underlying t = some (.struct fields)) (it : TypeInfo) (z : Value) (hi : P.info? t = some it) (hz : it.zero = some z)
      (places : List (Nat × Nat)) (hpl : fields.toList.mapM (fun f => (P.info? f.type).map fun i => (f.offset, i.size)) = some places)
      (hzs : z.cells.size = zero.length) (hzr : ∀ (i : Nat) c v, zero[i]? = some c → z.cells[i]? = some v → ZP c v)
      (hl : parts.size = offs.length) (hl2 : os.length = parts.size)
      (hoff : ∀ (k : Nat) (p : Nat × Operand) (o : Nat × Nat), parts[k]? = some p → offs[k]? = some o → places[p.1]? = some o ∧ o.1 + o.2 ≤ zero.length)
      (hos : ∀ (k : Nat) (p : Nat × Operand) oo, parts[k]? = some p → os[k]? = some oo → OT p.2 oo) : Tr P o (.build zero offs) os
  | bsl (size n : Nat) (t e : TypeId) (parts : Array (Nat × Operand)) (os : List O) (xs : List Operand) (ho : o.op = .buildSlice t n parts) (d : Nat) (hd : o.dst = some d)
      (hu : P.underlying t = some (.slice e)) (i : TypeInfo) (z : Value) (hi : P.info? e = some i) (hz : i.zero = some z) (hsz : i.size = size) (hpos : 0 < size) (hn : n * size ≤ 16777216) (hnm : n ≤ maxLen)
      (hp : parts.toList = (xs.zipIdx 0).map fun x => (x.2, x.1)) (hl : os.length = xs.length) (hos : ∀ (j : Nat) x oo, xs[j]? = some x → os[j]? = some oo → OT x oo) : Tr P o (.bsl size n) os
  | load (n : Nat) (isA take : Bool) (t : TypeId) (ht : TyIs P t n isA) (x : Operand) (ox : O) (hx : OT x ox) (ho : o.op = .load t x) : Tr P o (.load n isA take) [ox]
  | loadp (n : Nat) (isA : Bool) (t : TypeId) (ht : TyIs P t n isA) (x : Operand) (ox : O) (hx : OT x ox) (ho : o.op = .load t x) : Tr P o (.loadp n isA) [ox]
  | store (n : Nat) (isA : Bool) (t : TypeId) (ht : TyIs P t n isA) (x y : Operand) (ox oy : O) (hx : OT x ox) (hy : OT y oy) (ho : o.op = .store t x y) (hdst : o.dst = none) (hne : ∀ m, oy = .t m → ox ≠ .t m) : Tr P o (.store n) [ox, oy]
  | bin (op : BinOp) (t t' : TypeId) (x y : Operand) (ox oy : O) (hx : OT x ox) (hy : OT y oy) (ho : o.op = .binOp op t x y t') : Tr P o (.bin op) [ox, oy]
  | eqnil (neq : Bool) (t t' e : TypeId) (x y : Operand) (ox oy : O) (hx : OT x ox) (hy : OT y oy) (ho : o.op = .binOp (if neq then .neq else .eql) t x y t') (hu : P.underlying t = some (.slice e)) (hc : ∀ n, oy ≠ .t n) : Tr P o (.eqnil neq) [ox, oy]
  | un (op : UnOp) (t : TypeId) (x : Operand) (ox : O) (hx : OT x ox) (ho : o.op = .unOp op t x) : Tr P o (.un op) [ox]
  | conv (k : IntKind) (src dst : TypeId) (x : Operand) (ox : O) (hx : OT x ox) (ho : o.op = .convert src dst x) (hs : ∃ d, P.underlying src = some d) (hd : P.underlying dst = some (.int k)) : Tr P o (.conv k) [ox]
  | fad (off : Nat) (t : TypeId) (f : Nat) (x : Operand) (ox : O) (hx : OT x ox) (ho : o.op = .fieldAddr t x f) (fs : Array Field) (fd : Field) (i : TypeInfo) (hu : P.underlying t = some (.struct fs)) (hf : fs[f]? = some fd)
      (hi : P.info? fd.type = some i) (hz : i.size ≠ 0) (hoff : fd.offset = off) : Tr P o (.fad off) [ox]
  | fld (off n : Nat) (isA : Bool) (t : TypeId) (f : Nat) (x : Operand) (ox : O) (hx : OT x ox) (ho : o.op = .field t x f) (fs : Array Field) (fd : Field) (hu : P.underlying t = some (.struct fs)) (hf : fs[f]? = some fd)
      (hi : TyIs P fd.type n isA) (hoff : fd.offset = off) : Tr P o (.fld off n isA) [ox]
  | iad (size : Nat) (isA : Bool) (t e : TypeId) (x ix : Operand) (ox oi : O) (hx : OT x ox) (hix : OT ix oi) (ho : o.op = .indexAddr t x ix) (hu : P.underlying t = some (.slice e)) (hi : TyIs P e size isA) : Tr P o (.iad size) [ox, oi]
  | sidx (t : TypeId) (x ix : Operand) (ox oi : O) (hx : OT x ox) (hix : OT ix oi) (ho : o.op = .index t x ix) (hu : P.underlying t = some .string) : Tr P o .sidx [ox, oi]
  | len (t e : TypeId) (x : Operand) (ox : O) (hx : OT x ox) (ho : o.op = .call { callee := .builtin .len, args := #[x], argTypes := #[t] }) (hu : P.underlying t = some (.slice e)) : Tr P o .len [ox]
  | lenD (t e : TypeId) (x : Operand) (ox : O) (hx : OT x ox) (ho : o.op = .call { callee := .builtin .len, args := #[x], argTypes := #[t] }) (hu : P.underlying t = some (.slice e)) : Tr P o .lenD [ox]
  | slen (t : TypeId) (x : Operand) (ox : O) (hx : OT x ox) (ho : o.op = .call { callee := .builtin .len, args := #[x], argTypes := #[t] }) (hu : P.underlying t = some .string) : Tr P o .slen [ox]
  | minmax (mx : Bool) (t : TypeId) (x y : Operand) (ox oy : O) (hx : OT x ox) (hy : OT y oy) (ho : o.op = .call { callee := .builtin (if mx then .max else .min), args := #[x, y], argTypes := #[t, t] }) : Tr P o (if mx then .mx else .mn) [ox, oy]
  | app (size bytes : Nat) (x y : Operand) (ox oy : O) (t e : TypeId) (hx : OT x ox) (hy : OT y oy) (ho : o.op = .call { callee := .builtin .append, args := #[x, y], argTypes := #[t, t] })
      (d : Nat) (hd : o.dst = some d) (hu : P.underlying t = some (.slice e)) (i : TypeInfo) (z : Value) (hi : P.info? e = some i) (hz : i.zero = some z) (hsz : i.size = size) (hby : i.bytes = bytes) (hzs : z.cells.size = size) : Tr P o (.app size bytes) [ox, oy]
  | ext (j : Nat) (x : Operand) (ox : O) (hx : OT x ox) (ho : o.op = .extract x j) : Tr P o (.ext j) [ox]
  | extp (j : Nat) (x : Operand) (ox : O) (hx : OT x ox) (ho : o.op = .extract x j) : Tr P o (.extp j) [ox]
  | call (f : FuncId) (xs : Array Operand) (ts : Array TypeId) (os : List O) (ho : o.op = .call { callee := .value (.func f), args := xs, argTypes := ts })
      (hl : os.length = xs.size) (hos : ∀ (k : Nat) x oo, xs.toList[k]? = some x → os[k]? = some oo → OT x oo) : Tr P o (.call f) os
  | callv (x : Operand) (ox : O) (hx : OT x ox) (xs : Array Operand) (ts : Array TypeId) (os : List O) (ho : o.op = .call { callee := .value x, args := xs, argTypes := ts })
      (hl : os.length = xs.size) (hos : ∀ (k : Nat) x oo, xs.toList[k]? = some x → os[k]? = some oo → OT x oo) : Tr P o .callv (ox :: os)
  | mkfn (f : FuncId) (caps : Array Operand) (os : List O) (ho : o.op = .makeFunc (.func f) #[] caps) (hl : os.length = caps.size)
      (hos : ∀ (k : Nat) x oo, caps.toList[k]? = some x → os[k]? = some oo → OT x oo) : Tr P o (.mkfn f) os
  | mksl (k size bytes : Nat) (ag : Bool) (zero : List DV) (t e : TypeId) (x y : Operand) (ox oy : O) (hx : OT x ox) (hy : OT y oy) (ho : o.op = .makeSlice t x y)
      (hu : P.underlying t = some (.slice e)) (i : TypeInfo) (z : Value) (hi : P.info? e = some i) (hz : i.zero = some z) (hsz : i.size = size) (hby : i.bytes = bytes) (hzr : ZRs zero z.cells) (hsne : size ≠ 0) : Tr P o (.mksl k size bytes ag zero) [ox, oy]
  | slc (size : Nat) (isA : Bool) (t e : TypeId) (x : Operand) (ox : O) (lo hi : Option Operand) (ys : List O) (hx : OT x ox) (ho : o.op = .slice t x lo hi none) (hu : P.underlying t = some (.slice e)) (hi' : TyIs P e size isA)
      (hys : match lo, hi, ys with | some l, some m, [ol, om] => OT l ol ∧ OT m om | some l, none, [ol] => OT l ol | none, some m, [om] => OT m om | _, _, _ => False) : Tr P o (.slc size lo.isSome hi.isSome) (ox :: ys)
  | nilchk (x : Operand) (ox : O) (hx : OT x ox) (ho : o.op = .nilCheck x) : Tr P o .nilchk [ox]
  | ssl (t : TypeId) (x : Operand) (ox : O) (lo hi : Option Operand) (ys : List O) (hx : OT x ox) (ho : o.op = .slice t x lo hi none) (hu : P.underlying t = some .string)
      (hys : match lo, hi, ys with | some l, some m, [ol, om] => OT l ol ∧ OT m om | some l, none, [ol] => OT l ol | none, some m, [om] => OT m om | _, _, _ => False) : Tr P o (.ssl lo.isSome hi.isSome) (ox :: ys)
  | slb (k size : Nat) (isA : Bool) (t e : TypeId) (x m : Operand) (ox om : O) (hx : OT x ox) (hm : OT m om) (ho : o.op = .slice t x none (some m) none) (hu : P.underlying t = some (.slice e)) (hi' : TyIs P e size isA) : Tr P o (.slb k size) [ox, om]
  | stk (os : List O) : Tr P o .stk os
  | mkmap (k : Nat) (t : TypeId) (ho : o.op = .makeMap t none) : Tr P o (.mkmap k) []
  | look (zero : PV) (t kt et : TypeId) (q : IntKind) (zv : Value) (i : TypeInfo) (x y : Operand) (ox oy : O) (hx : OT x ox) (hy : OT y oy) (ho : o.op = .lookup t x y false) (hu : P.underlying t = some (.map kt et)) (hk : P.underlying kt = some (.int q))
      (hi : P.info? et = some i) (hz : i.zero = some zv) (hzr : ZP zero zv) : Tr P o (.look q zero) [ox, oy]
  | mupd (t kt et : TypeId) (q : IntKind) (x y z : Operand) (ox oy oz : O) (hx : OT x ox) (hy : OT y oy) (hzz : OT z oz) (ho : o.op = .mapUpdate t x y z) (hd : o.dst = none) (hu : P.underlying t = some (.map kt et)) (hk : P.underlying kt = some (.int q)) : Tr P o (.mupd q) [ox, oy, oz]
  | eqat (t t' : TypeId) (ms : Array (String × TypeId)) (x : Operand) (ox oy : O) (hx : OT x ox) (ho : o.op = .binOp .neq t x (.const .nilIface) t') (hu : P.underlying t = some (.interface ms)) : Tr P o (.eqat true) [ox, oy]
  | eqs (n : Nat) (neq : Bool) (t t' : TypeId) (x y : Operand) (ox oy : O) (hx : OT x ox) (hy : OT y oy) (ho : o.op = .binOp (if neq then .neq else .eql) t x y t')
      (hu : P.underlying t = some (.struct (P.fieldsOf t))) (hst : P.stoodInHeld t = false) (hg : P.eqGuardType P.depth t = false) (hn : (P.fieldsOf t).toList.length = n)
      (hf : ∀ (i : Nat) f, (P.fieldsOf t).toList[i]? = some f → f.name ≠ "_" ∧ f.offset = i ∧ (∃ k, P.underlying f.type = some (.int k)) ∧ TyIs P f.type 1 false) : Tr P o (.eqs n neq) [ox, oy]
  | eqb (neq : Bool) (t t' : TypeId) (x y : Operand) (ox oy : O) (hx : OT x ox) (hy : OT y oy) (ho : o.op = .binOp (if neq then .neq else .eql) t x y t') (hu : P.underlying t = some .bool) : Tr P o (.eqb neq) [ox, oy]
  | mkz (size bytes : Nat) (row : PV) (t e : TypeId) (x y : Operand) (ox oy : O) (hx : OT x ox) (hy : OT y oy) (ho : o.op = .makeSlice t x y) (d : Nat) (hd : o.dst = some d)
      (hu : P.underlying t = some (.slice e)) (i : TypeInfo) (z : Value) (hi : P.info? e = some i) (hz : i.zero = some z) (hsz : i.size = size) (hby : i.bytes = bytes) (hzs : z.cells.size = (rowCells row).length)
      (hzr : ∀ (i : Nat) c v, (rowCells row)[i]? = some c → z.cells[i]? = some v → ZP c v) (hpos : 0 < size) : Tr P o (.mkz size bytes row) [ox, oy]
  | s2b (src dst e : TypeId) (x : Operand) (ox : O) (hx : OT x ox) (ho : o.op = .convert src dst x) (hs : P.underlying src = some .string) (hd : P.underlying dst = some (.slice e)) (he : P.underlying e = some (.int .u8)) : Tr P o .s2b [ox]
  | callm (f : FuncId) (k : Nat) (xs : Array Operand) (ts : Array TypeId) (os : List O) (ho : o.op = .call { callee := .value (.func f), args := xs, argTypes := ts })
      (hl : os.length = xs.size) (hos : ∀ (k : Nat) x oo, xs.toList[k]? = some x → os[k]? = some oo → OT x oo) : Tr P o (.callm f k) os
section
variable {G : Gl} {X : Cx} {s : St} {a : Act} {Q : Exit → Act → World → Prop} {o : Oper} {K : St → Prop}
theorem Flat.nilb {M : Nat → Nat → Prop} {w : World} {size : Nat} {nl : Bool} {rows : List PV} {v : Value} (h : Flat M w (.sl size nl rows) v) : ∃ b n c, v = .slice b n c ∧ b.isNone = nl := by
  cases h with
  | nilsl => exact ⟨none, 0, 0, rfl, rfl⟩
  | sl0 => exact ⟨_, _, _, rfl, rfl⟩
  | sl _ _ b off cap => exact ⟨_, _, _, rfl, rfl⟩
theorem s_bin (h : Rel G X s a) {op : BinOp} {t t' : TypeId} {x y : Operand} {ox oy : O} (hx : OT x ox) (hy : OT y oy) (ho : o.op = .binOp op t x y t')
    (hK : semI P (.bin op) [ox.val s.t, oy.val s.t] s.b fun v b => K ⟨putD s.t o.dst v, b⟩) : o.wp P a X.w (Post G K) Q := by
  obtain ⟨_, rx⟩ := h.opnd hx
  obtain ⟨_, ry⟩ := h.opnd hy
  generalize ox.val s.t = vx at *
  generalize oy.val s.t = vy at *
  cases vx with
  | p z =>
    cases vy with
    | p y' => simp only [semI] at hK; exact run_binPV h op t t' x y ho rx ry hK
    | _ => simp [semI] at hK
  | _ => simp [semI] at hK
theorem s_eqnil (h : Rel G X s a) {neq : Bool} {t t' e : TypeId} {x y : Operand} {ox oy : O} (hx : OT x ox) (hy : OT y oy) (ho : o.op = .binOp (if neq then .neq else .eql) t x y t') (hu : P.underlying t = some (.slice e)) (hc : ∀ n, oy ≠ .t n)
    (hK : semI P (.eqnil neq) [ox.val s.t, oy.val s.t] s.b fun v b => K ⟨putD s.t o.dst v, b⟩) : o.wp P a X.w (Post G K) Q := by
  obtain ⟨_, rx⟩ := h.opnd hx
  generalize ox.val s.t = vx at *
  obtain ⟨sz, ey⟩ : ∃ sz, oy = .c (.ow sz true []) := by
    cases oy with
    | t n => exact absurd rfl (hc n)
    | c d =>
      simp only [O.val] at hK
      cases d with
      | ow sz nl rows =>
        cases nl with
        | true => cases rows with
          | nil => exact ⟨sz, rfl⟩
          | cons _ _ => cases vx <;> simp [semI] at hK
        | false => cases vx <;> simp [semI] at hK
      | _ => cases vx <;> simp [semI] at hK
  subst ey
  have hyv : a.eval y = .slice none 0 0 := by cases hy; rfl
  simp only [O.val] at hK
  have fin : ∀ sz' nl rows, Flat X.M X.w (.sl sz' nl rows) (a.eval x) → K ⟨putD s.t o.dst (.p (.bool (if neq then !nl else nl))), s.b⟩ → o.wp P a X.w (Post G K) Q := by
    intro sz' nl rows hf hKK
    obtain ⟨b, n, c, ev, eb⟩ := hf.nilb
    subst eb
    refine wp_pv (z := .bool _) h ?_ (.bool _) hKK
    cases neq with
    | true =>
      have := run_neq_slice_nil_any (P := P) X.w t e b n c 0 0 hu
      simp [execOp, ho, ev, hyv, eqGuard, this]
    | false =>
      have := Lib.run_eql_slice_nil (P := P) X.w t e b n c 0 0 hu
      simp [execOp, ho, ev, hyv, eqGuard, this]
  cases vx with
  | p z =>
    cases z with
    | sl sz' nl rows => simp only [semI] at hK; exact fin sz' nl rows rx hK
    | _ => simp [semI] at hK
  | ow sz' nl rows => simp only [semI] at hK; exact fin sz' nl rows (OwRel.flat rx) hK
  | _ => simp [semI] at hK
theorem s_loadAny (h : Rel G X s a) {t : TypeId} {n : Nat} {isA take : Bool} (ht : TyIs P t n isA) {x : Operand} {ox : O} (hx : OT x ox) (ho : o.op = .load t x)
    (hK : semI P (.load n isA take) [ox.val s.t] s.b fun v b => K ⟨putD s.t o.dst v, b⟩) : o.wp P a X.w (Post G K) Q := by
  generalize e : ox.val s.t = vx at *
  cases vx with
  | addr k sz r off => exact s_loadB h ht hx ho e (by rw [e]; exact hK)
  | p z =>
    cases z with
    | ptr cells off => exact s_loadP h ht hx ho e (by rw [e]; exact hK)
    | _ => simp [semI] at hK
  | _ => simp [semI] at hK
theorem s_loadp (h : Rel G X s a) {t : TypeId} {n : Nat} {isA : Bool} (ht : TyIs P t n isA) {x : Operand} {ox : O} (hx : OT x ox) (ho : o.op = .load t x)
    (hK : semI P (.loadp n isA) [ox.val s.t] s.b fun v b => K ⟨putD s.t o.dst v, b⟩) : o.wp P a X.w (Post G K) Q := by
  generalize e : ox.val s.t = vx at *
  cases vx with
  | p z =>
    cases z with
    | ptr cells off => exact s_loadP (take := false) h ht hx ho e (by rw [e]; exact hK)
    | _ => simp [semI] at hK
  | _ => simp [semI] at hK
theorem s_lenD (h : Rel G X s a) {t e : TypeId} {x : Operand} {ox : O} (hx : OT x ox) (ho : o.op = .call { callee := .builtin .len, args := #[x], argTypes := #[t] }) (hu : P.underlying t = some (.slice e))
    (hK : semI P .lenD [ox.val s.t] s.b fun v b => K ⟨putD s.t o.dst v, b⟩) : o.wp P a X.w (Post G K) Q := by
  refine s_len h hx ho hu ?_
  simp only [semI] at hK ⊢
  cases hs : sliceLen (ox.val s.t) with
  | none => rw [hs] at hK; exact hK
  | some n => rw [hs] at hK; exact fun _ => hK
theorem s_extp (h : Rel G X s a) {j : Nat} {x : Operand} {ox : O} (hx : OT x ox) (ho : o.op = .extract x j)
    (hK : semI P (.extp j) [ox.val s.t] s.b fun v b => K ⟨putD s.t o.dst v, b⟩) : o.wp P a X.w (Post G K) Q := by
  obtain ⟨L, hv⟩ := h.opnd hx
  generalize ox.val s.t = dv at *
  cases dv with
  | tup ds =>
    simp only [semI] at hK
    cases hj : ds[j]? with
    | none => simp [hj] at hK
    | some d =>
      simp only [hj] at hK
      obtain ⟨vs, ev, hl, hh⟩ := hv
      have hlt : j < vs.size := by rw [hl]; exact (List.getElem?_eq_some_iff.1 hj).1
      have hu : vs[j]? = some vs[j] := by simp [hlt]
      have hr := hh j d _ hj hu
      have run : (execOp a.eval o).run P X.w = .ok (.value vs[j]) X.w := by simp [execOp, ho, ev, Instr.extract, hlt]
      cases d with
      | p x => exact wp_pv (z := x) h run hr hK
      | ow size n rows => exact wp_pv (z := .sl size n rows) h run (OwRel.flat hr) hK
  | _ => simp [semI] at hK
/-- A kind of its own, no remark on another one. -/
def Kd.base : Kd → Bool
  | .at _ _ | .pl _ => false
  | _ => true
theorem Tr.base {κ : Kd} {xs : List O} (ht : Tr P o κ xs) : κ.base = true := by cases ht <;> first | rfl | (rename_i mx _ _ _ _ _ _ _ _; cases mx <;> rfl)
theorem semJ_base {κ : Kd} (h : κ.base = true) {vs : List DV} {b : List (Option Box)} {K : DV → List (Option Box) → Prop} : semJ P κ vs b K = semI P κ vs b K := by cases κ <;> first | rfl | cases h
theorem core_base {κ : Kd} (h : κ.base = true) : κ.core = κ := by cases κ <;> first | rfl | cases h
/-- Each operation does what its instruction says. -/
theorem exec_ok (h : Rel G X s a) {κ : Kd} {xs : List O} (ht : Tr P o κ xs) {g : Option (Nat × Bool)} (hK : exec P ⟨o.dst, g, κ, xs⟩ s K) : o.wp P a X.w (Post G K) Q := by
  obtain ⟨hf, hK⟩ := hK
  simp only [semJ_base ht.base, core_base ht.base] at hK
  cases ht with
  | mov take x ox hx ho => exact s_mov h hx ho hK
  | pick c x y oc ox oy hc hx hy ho => exact s_pick h hc hx hy ho hK
  | box k size t x ox hx ho hsne => exact s_box h hx ho hsne hf hK
  | alloc k size zero t i z ho hi hz hzr hsne => exact s_alloc h ho hi hz hzr hsne hf hK
  | build t parts os zero offs ho fields hu it z hi hz places hpl hzs hzr hl hl2 hoff hos => exact s_build h ho hu hi hz hpl hzs hzr hl hl2 hoff hos hK
  | bsl size n t e parts os xs ho d hd hu i z hi hz hsz hpos hn hnm hp hl hos => exact s_bsl h ho hd hu hi hz hsz hpos hn hnm hp hl hos hK
  | load n isA take t ht x ox hx ho => exact s_loadAny h ht hx ho hK
  | loadp n isA t ht x ox hx ho => exact s_loadp h ht hx ho hK
  | store n isA t ht x y ox oy hx hy ho hdst hne => exact s_store h ht hx hy ho hdst hne hK
  | bin op t t' x y ox oy hx hy ho => exact s_bin h hx hy ho hK
  | eqnil neq t t' e x y ox oy hx hy ho hu hc => exact s_eqnil h hx hy ho hu hc hK
  | un op t x ox hx ho => exact s_un h hx ho hK
  | conv k src dst x ox hx ho hs hd => exact s_conv h hx ho hs hd hK
  | fad off t f x ox hx ho fs fd i hu hf' hi hz hoff => exact s_fad h hx ho hu hf' hi hz hoff hK
  | fld off n isA t f x ox hx ho fs fd hu hf' hi hoff => exact s_fld h hx ho hu hf' hi hoff hK
  | iad size isA t e x ix ox oi hx hix ho hu hi => exact s_iad h hx hix ho hu hi hK
  | sidx t x ix ox oi hx hix ho hu => exact s_sidx h hx hix ho hu hK
  | len t e x ox hx ho hu => exact s_len h hx ho hu hK
  | lenD t e x ox hx ho hu => exact s_lenD h hx ho hu hK
  | slen t x ox hx ho hu => exact s_slen h hx ho hu hK
  | minmax mx t x y ox oy hx hy ho => refine s_minmax h hx hy ho ?_; cases mx <;> exact hK
  | app size bytes x y ox oy t e hx hy ho d hd hu i z hi hz hsz hby hzs => exact s_app h hx hy ho hd hu hi hz hsz hby hzs hK
  | ext j x ox hx ho => exact s_ext h hx ho hK
  | extp j x ox hx ho => exact s_extp h hx ho hK
  | call f xs ts os ho hl hos => exact s_call h ho hl hos hK
  | callv x ox hx xs ts os ho hl hos => exact s_callv h hx ho hl hos hK
  | mkfn f caps os ho hl hos => exact s_mkfn h ho hl hos hK
  | mksl k size bytes ag zero t e x y ox oy hx hy ho hu i z hi hz hsz hby hzr hsne => exact s_mksl h hx hy ho hu hi hz hsz hby hzr hsne hf hK
  | slc size isA t e x ox lo hi ys hx ho hu hi' hys => exact s_slc h hx ho hu hi' hys hK
  | nilchk x ox hx ho => exact s_nilchk h hx ho hK
  | ssl t x ox lo hi ys hx ho hu hys => exact s_ssl h hx ho hu hys hK
  | slb k size isA t e x m ox om hx hm ho hu hi' => exact s_slb h hx hm ho hu hi' hK
  | callm f k xs ts os ho hl hos => exact s_callm h ho hl hos hK
  | stk os => simp [semI] at hK
  | mkmap k t ho => exact s_mkmap h ho hf hK
  | look zero t kt et q zv i x y ox oy hx hy ho hu hk hi hz hzr => exact s_look h hx hy ho hu hk hi hz hzr hK
  | mupd t kt et q x y z ox oy oz hx hy hzz ho hd hu hk => exact s_mupd h hx hy hzz ho hd hu hk hK
  | eqat t t' ms x ox oy hx ho hu => exact s_eqat h hx ho hu hK
  | eqs n neq t t' x y ox oy hx hy ho hu hst hg hn hfl => exact s_eqs h hx hy ho hu hst hg hn hfl hK
  | eqb neq t t' x y ox oy hx hy ho hu => exact s_eqb h hx hy ho hu hK
  | mkz size bytes row t e x y ox oy hx hy ho d hd hu i z hi hz hsz hby hzs hzr hpos => exact s_mkz h hx hy ho hd hu hi hz hsz hby hzs hzr hpos hK
  | s2b src dst e x ox hx ho hs hd he => exact s_s2b h hx ho hs hd he hK
end
/-- The operation is this instruction, with a remark on its operands perhaps. -/
inductive TrJ (P : Program) (o : Oper) : Kd → List O → Prop
  | base (κ : Kd) (xs : List O) (h : Tr P o κ xs) : TrJ P o κ xs
  | «at» (k : Nat) (κ : Kd) (xs : List O) (h : Tr P o κ xs) (hn : newBox κ = none) : TrJ P o (.at k κ) xs
  | pl (κ : Kd) (xs : List O) (h : Tr P o κ xs) (hn : newBox κ = none) : TrJ P o (.pl κ) xs
theorem execJ_ok {G : Gl} {X : Cx} {s : St} {a : Act} {Q : Exit → Act → World → Prop} {o : Oper} {K : St → Prop} (h : Rel G X s a) {κ : Kd} {xs : List O} (ht : TrJ P o κ xs) {g : Option (Nat × Bool)} (hK : exec P ⟨o.dst, g, κ, xs⟩ s K) :
    o.wp P a X.w (Post G K) Q := by
  cases ht with
  | base _ _ h' => exact exec_ok h h' hK
  | «at» k κ _ h' hn =>
    obtain ⟨_, hK⟩ := hK
    refine exec_ok h h' (g := g) ⟨by unfold fresh; simp only; rw [hn]; trivial, ?_⟩
    simp only [semJ_base h'.base, core_base h'.base]
    simp only [semJ, Kd.core] at hK
    split at hK
    · exact hK.2
    · exact hK.elim
  | pl κ _ h' hn =>
    obtain ⟨_, hK⟩ := hK
    refine exec_ok h h' (g := g) ⟨by unfold fresh; simp only; rw [hn]; trivial, ?_⟩
    simp only [semJ_base h'.base, core_base h'.base]
    exact hK.2
/-- An operation with its guard. -/
structure TrI (P : Program) (ops : Array Oper) (o : Oper) (i : Ins) : Prop where
  d : i.d = o.dst
  tr : TrJ P o i.k i.xs
  g : match o.guard, i.g with
    | none, none => True
    | some (j, want), some (t, want') => want = want' ∧ (ops[j]?).bind (·.dst) = some t
    | _, _ => False
theorem wp_next_mono {o : Oper} {a : Act} {w : World} {N N' : Act → World → Prop} {Q : Exit → Act → World → Prop} (h : o.wp P a w N Q) (hn : ∀ a w, N a w → N' a w) : o.wp P a w N' Q := by
  unfold Oper.wp Oper.upon at *
  split at h
  · exact hn _ _ h
  · exact hn _ _ h
  · exact hn _ _ h
  · refine h.mono fun e w' he => ?_
    cases e with
    | returned v => exact hn _ _ he
    | panicked c => exact he
    | outgrown => exact he
  · exact h.mono fun v w' he => hn _ _ he
  · exact h
  · exact h.elim
theorem yielded_of {ops : Array Oper} {tmps : Array Value} {j t : Nat} {b : Bool} (h : (ops[j]?).bind (·.dst) = some t) (hlt : t < tmps.size) (hb : tmps.getD t undef = .bool b) : yielded ops tmps j = some b := by
  unfold yielded
  rw [h]
  have e : tmps[t]? = some (.bool b) := by
    rw [← hb]; simp [Array.getD, hlt]
  simp [e]
theorem yielded_tup {ops : Array Oper} {tmps : Array Value} {j t : Nat} {X : Cx} {base : Nat} {L : Loc} (h : (ops[j]?).bind (·.dst) = some t) (hv : VRel X base L (.tup []) (tmps.getD t undef)) : yielded ops tmps j = none := by
  obtain ⟨vs, h1, _⟩ := hv
  unfold yielded
  rw [h]
  cases ht : tmps[t]? with
  | none => simp [ht]
  | some u =>
    have : tmps.getD t undef = u := by
      have := (Array.getElem?_eq_some_iff.1 ht)
      obtain ⟨h2, h3⟩ := this
      simp [Array.getD, h2, h3]
    rw [this] at h1
    subst h1
    simp [ht]
theorem undef_tup {X : Cx} {base : Nat} {L : Loc} : VRel X base L (.tup []) undef := ⟨#[], rfl, rfl, fun j d u hd => by simp at hd⟩
/-- A list of operations in their order. -/
theorem ops_ok {G : Gl} {ops : Array Oper} {Q : Exit → Act → World → Prop} {K : St → Prop} : ∀ (l : List Nat) (is : List Ins), l.length = is.length →
    (∀ (k : Nat) i, is[k]? = some i → ∃ o, (l[k]?).bind (ops[·]?) = some o ∧ TrI P ops o i) →
    (∀ s X a, Rel G X s a → K s → Q .normal a X.w) →
    ∀ {s : St} {X : Cx} {a : Act}, Rel G X s a → execs P is s K → wpOps P ops Q l a X.w
  | [], [], _, _, hQ, s, X, a, h, hK => by simp only [wpOps]; exact hQ s X a h hK
  | [], _ :: _, hl, _, _, _, _, _, _, _ => by simp at hl
  | _ :: _, [], hl, _, _, _, _, _, _, _ => by simp at hl
  | q :: l, i :: is, hl, htr, hQ, s, X, a, h, hK => by
    obtain ⟨o, ho, ti⟩ := htr 0 i rfl
    have ho' : ops[q]? = some o := by simpa using ho
    have ih : ∀ {s : St} {X : Cx} {a : Act}, Rel G X s a → execs P is s K → wpOps P ops Q l a X.w :=
      ops_ok l is (by simpa using hl) (fun k i hi => htr (k + 1) i (by simpa using hi)) hQ
    simp only [wpOps, ho']
    obtain ⟨id, ig, ik, ixs⟩ := i
    have hd := ti.d
    have htr' := ti.tr
    have hg := ti.g
    simp only at hd htr' hg
    subst hd
    simp only [execs, execG] at hK
    have go : ∀ {s : St}, Rel G X s a → exec P ⟨o.dst, ig, ik, ixs⟩ s (fun s' => execs P is s' K) → o.wp P a X.w (wpOps P ops Q l) Q := by
      intro s h hK
      refine wp_next_mono (execJ_ok h htr' hK) fun a' w' ⟨s', X', h', e', k'⟩ => ?_
      subst e'
      exact ih h' k'
    cases hog : o.guard with
    | none =>
      rw [hog] at hg
      cases ig with
      | some _ => exact hg.elim
      | none =>
        have hw : Region.wanted o (yielded ops a.tmps) = true := by simp [Region.wanted, hog]
        rw [if_pos hw]
        exact .inl (go h hK)
    | some jw =>
      obtain ⟨j, want⟩ := jw
      rw [hog] at hg
      cases ig with
      | none => exact hg.elim
      | some tw =>
        obtain ⟨t, want'⟩ := tw
        obtain ⟨rfl, hj⟩ := hg
        simp only at hK
        have hv := h.get t
        generalize hgt : getT s.t t = dv at *
        cases dv with
        | p z =>
          cases z with
          | bool c =>
            simp only at hK
            have hlt : t < a.tmps.size := by
              rw [h.size]
              rcases Nat.lt_or_ge t s.t.length with h0 | h0
              · exact h0
              · rw [getT_eq, List.getElem?_eq_none h0] at hgt; cases hgt
            have hb := Flat.boolv hv
            have hy : yielded ops a.tmps j = some c := yielded_of hj hlt hb
            have hweak : Rel G X ⟨setL s.t t (.p (.bool c)), s.b⟩ a := h.weak t _ hv
            by_cases hcw : c = want
            · subst hcw
              rw [if_pos (by simp [Region.wanted, hog, hy])]
              exact .inl (go hweak (hK.1 rfl))
            · rw [if_neg (by simp [Region.wanted, hog, hy, hcw])]
              have e : c = !want := by cases c <;> cases want <;> simp at hcw ⊢
              have hKK := hK.2 e
              rw [e] at hweak
              exact ih (hweak.put (d := o.dst) (v := .tup []) (fun _ _ => undef_tup)) hKK
          | _ => exact hK.elim
        | tup ds =>
          cases ds with
          | nil =>
            have hy := yielded_tup (ops := ops) hj hv
            rw [if_neg (by simp [Region.wanted, hog, hy])]
            exact ih (h.put (d := o.dst) (v := .tup []) (fun _ _ => undef_tup)) hK
          | cons _ _ => exact hK.elim
        | _ => exact hK.elim
theorem execs_region {G : Gl} {id : Nat} {ops : Array Oper} {is : List Ins} {Q : Exit → Act → World → Prop} {K : St → Prop} (hl : ops.size = is.length)
    (htr : ∀ (k : Nat) i, is[k]? = some i → ∃ o, ops[k]? = some o ∧ TrI P ops o i) (hQ : ∀ s X a, Rel G X s a → K s → Q .normal a X.w) {s : St} {X : Cx} {a : Act} (h : Rel G X s a) (hK : execs P is s K) :
    (Code.region id ops false).wp P Q a X.w := by
  refine wp_region (ops_ok (List.range ops.size) is (by simpa using hl) (fun k i hi => ?_) hQ h hK)
  obtain ⟨o, ho, ti⟩ := htr k i hi
  have hk := (List.getElem?_eq_some_iff.1 hi).1
  exact ⟨o, by simp [show k < ops.size by omega]; simpa [show k < ops.size by omega] using ho, ti⟩
end Go.Proofs.YtkjghcbnmipgfaaGreatDoor.Vc
namespace Go.Proofs.YtkjghcbnmipgfaaGreatDoor.Vc
open Go.RowKit
variable {P : Program}
theorem binPV_ang {op : BinOp} {x y : PV} {K : PV → Prop} : binPV op x y K ↔ ∃ z, binPV op x y (fun z' => z' = z) ∧ K z := by
  constructor
  · intro h
    unfold binPV at h ⊢
    cases x <;> cases y <;> cases op <;> simp only [] at h ⊢ <;> first
      | exact h.elim
      | exact ⟨_, rfl, h⟩
      | exact ⟨_, ⟨h.1, rfl⟩, h.2⟩
      | exact ⟨_, ⟨h.1, h.2.1, rfl⟩, h.2.2⟩
  · rintro ⟨z, h, hK⟩
    unfold binPV at h ⊢
    cases x <;> cases y <;> cases op <;> simp only [] at h ⊢ <;> first
      | exact h.elim
      | (subst h; exact hK)
      | (obtain ⟨h1, rfl⟩ := h; exact ⟨h1, hK⟩)
      | (obtain ⟨h1, h2, rfl⟩ := h; exact ⟨h1, h2, hK⟩)
theorem loadP_ang {cells : List PV} {off n : Nat} {ag : Bool} {K : PV → Prop} : loadP cells off n ag K ↔ ∃ z, loadP cells off n ag (fun z' => z' = z) ∧ K z := by
  unfold loadP
  cases ag with
  | false => simp
  | true =>
    simp only [if_true]
    exact ⟨fun h => ⟨_, ⟨h.1, rfl⟩, h.2⟩, fun ⟨z, ⟨h1, h2⟩, h3⟩ => ⟨h1, h2 ▸ h3⟩⟩
def nolen : Kd → Bool
  | .len | .slb _ _ | .callm _ _ | .look _ _ | .mupd _ | .mkmap _ => false
  | _ => true
set_option maxHeartbeats 2000000 in
theorem semI_mono {κ : Kd} {vs : List DV} {b : List (Option Box)} {K K' : DV → List (Option Box) → Prop} (hk : ∀ v b, K v b → K' v b) (h : semI P κ vs b K) : semI P κ vs b K' := by
  unfold semI at h ⊢
  split at h <;> (repeat' split at h) <;> (try simp_all)
  all_goals first
    | (rw [loadP_ang] at h ⊢; obtain ⟨z, h1, h2⟩ := h; exact ⟨z, h1, hk _ _ h2⟩)
    | (rw [binPV_ang] at h ⊢; obtain ⟨z, h1, h2⟩ := h; exact ⟨z, h1, hk _ _ h2⟩)
    | grind
set_option maxHeartbeats 2000000 in
/-- An instruction's outcome, taken out. -/
theorem semI_ang {κ : Kd} (hκ : nolen κ = true) {vs : List DV} {b : List (Option Box)} {K : DV → List (Option Box) → Prop} (h : semI P κ vs b K) :
    ∃ v b', semI P κ vs b (fun v1 b1 => v1 = v ∧ b1 = b') ∧ K v b' := by
  unfold semI at h ⊢
  split at h <;> (repeat' split at h) <;> (try simp_all)
  all_goals first
    | (rw [loadP_ang] at h; obtain ⟨z, h1, h2⟩ := h; exact ⟨_, _, loadP_ang.2 ⟨z, h1, rfl, rfl⟩, h2⟩)
    | (rw [binPV_ang] at h; obtain ⟨z, h1, h2⟩ := h; exact ⟨_, _, binPV_ang.2 ⟨z, h1, rfl, rfl⟩, h2⟩)
    | (simp [nolen] at hκ; done)
    | exact ⟨_, _, ⟨rfl, rfl⟩, h⟩
    | exact ⟨_, _, ⟨rfl, rfl⟩, h.2⟩
    | exact ⟨_, _, ⟨rfl, rfl⟩, h.2.2⟩
    | grind
    | (cases ‹Bool› <;> grind)
    | (obtain ⟨r, h1, h2⟩ := h; exact ⟨_, _, ⟨r, h1, rfl, rfl⟩, h2⟩)
    | grind
    | (cases ‹Bool› <;> grind)
/-- It looks at no own variable. -/
def clsA : Kd → Bool
  | .mov _ | .pick | .build _ _ | .bsl _ _ | .loadp _ _ | .bin _ | .eqnil _ | .un _ | .conv _ | .fad _ | .fld _ _ _ | .iad _ | .sidx | .lenD | .slen | .ext _ | .extp _ | .slc _ _ _ | .ssl _ _ | .stk | .eqat _ | .eqs _ _ | .eqb _ | .mkz _ _ _ | .s2b | .nilchk | .mn | .mx => true
  | _ => false
/-- It writes no own variable. -/
def clsB : Kd → Bool
  | .load _ _ take => !take
  | .app _ _ | .call _ | .callv | .mkfn _ => true
  | κ => clsA κ
set_option maxHeartbeats 2000000 in
theorem semI_keep {κ : Kd} (hκ : clsB κ = true) {vs : List DV} {b b' : List (Option Box)} {v : DV} (h : semI P κ vs b (fun v1 b1 => v1 = v ∧ b1 = b')) : b' = b := by
  cases κ <;> simp [clsB, clsA] at hκ
  all_goals
    unfold semI at h
    (repeat' split at h) <;> (try simp_all)
  all_goals first
    | (rw [loadP_ang] at h; obtain ⟨z, h1, h2, h3⟩ := h; exact h3.symm)
    | (rw [binPV_ang] at h; obtain ⟨z, h1, h2, h3⟩ := h; exact h3.symm)
    | grind
    | (cases ‹Bool› <;> grind)
set_option maxHeartbeats 2000000 in
theorem semI_ind {κ : Kd} (hκ : clsA κ = true) {vs : List DV} {b b' : List (Option Box)} {v : DV} (h : semI P κ vs b (fun v1 b1 => v1 = v ∧ b1 = b')) (b2 : List (Option Box)) :
    semI P κ vs b2 (fun v1 b1 => v1 = v ∧ b1 = b2) := by
  cases κ <;> simp [clsA] at hκ
  all_goals
    unfold semI at h ⊢
    (repeat' split at h) <;> (try simp_all)
  all_goals first
    | (rw [loadP_ang] at h ⊢; obtain ⟨z, h1, h2, h3⟩ := h; exact ⟨z, h1, h2⟩)
    | (rw [binPV_ang] at h ⊢; obtain ⟨z, h1, h2, h3⟩ := h; exact ⟨z, h1, h2⟩)
    | grind
theorem semJ_mono {κ : Kd} {vs : List DV} {b : List (Option Box)} {K K' : DV → List (Option Box) → Prop} (hk : ∀ v b, K v b → K' v b) (h : semJ P κ vs b K) : semJ P κ vs b K' := by
  unfold semJ at h ⊢
  split at h
  · split at h
    · exact ⟨h.1, semI_mono hk h.2⟩
    · exact h
  · exact ⟨h.1, semI_mono hk h.2⟩
  · exact semI_mono hk h
theorem semJ_ang {κ : Kd} (hκ : nolen κ.core = true) {vs : List DV} {b : List (Option Box)} {K : DV → List (Option Box) → Prop} (h : semJ P κ vs b K) :
    ∃ v b', semJ P κ vs b (fun v1 b1 => v1 = v ∧ b1 = b') ∧ K v b' := by
  unfold semJ at h ⊢
  split at h
  · split at h
    · obtain ⟨v, b', h1, h2⟩ := semI_ang hκ h.2; exact ⟨v, b', ⟨h.1, h1⟩, h2⟩
    · exact h.elim
  · obtain ⟨v, b', h1, h2⟩ := semI_ang hκ h.2; exact ⟨v, b', ⟨h.1, h1⟩, h2⟩
  · rename_i n1 n2
    have hb : κ.base = true := by cases κ <;> first | rfl | exact (n1 _ _ rfl).elim | exact (n2 _ rfl).elim
    rw [core_base hb] at hκ
    exact semI_ang hκ h
def plain2 : Kd → Bool
  | .call _ | .callv | .app _ _ | .mkfn _ => true
  | _ => false
def clsAJ : Kd → Bool
  | .pl κ => clsA κ || plain2 κ
  | .at _ _ => false
  | κ => clsA κ
def clsBJ : Kd → Bool
  | .pl κ => clsB κ
  | .at _ κ => clsB κ
  | κ => clsB κ
theorem frz_pvOf {d : DV} {x : PV} (h : pvOf d = some x) (b : List (Option Box)) : d.frz b = some x := by cases d <;> simp [pvOf] at h <;> simp [DV.frz, h]
theorem frzs_pvsOf {ds : List DV} {xs : List PV} (h : pvsOf ds = some xs) (b : List (Option Box)) : frzs b ds = some xs := by
  induction ds generalizing xs with
  | nil => simpa [pvsOf, frzs] using h
  | cons d ds ih =>
    simp only [pvsOf] at h
    cases hd : pvOf d with
    | none => simp [hd] at h
    | some x =>
      cases hds : pvsOf ds with
      | none => simp [hd, hds] at h
      | some ys =>
        simp [hd, hds] at h
        subst h
        simp [frzs, frz_pvOf hd b, ih hds]
theorem semJ_keep {κ : Kd} (hκ : clsBJ κ = true) {vs : List DV} {b b' : List (Option Box)} {v : DV} (h : semJ P κ vs b (fun v1 b1 => v1 = v ∧ b1 = b')) : b' = b := by
  unfold semJ at h
  split at h
  · split at h
    · exact semI_keep hκ h.2
    · exact h.elim
  · exact semI_keep hκ h.2
  · rename_i n1 n2
    refine semI_keep ?_ h
    cases κ <;> first | exact hκ | exact (n1 _ _ rfl).elim | exact (n2 _ rfl).elim
theorem semI_pl {κ : Kd} (hκ : plain2 κ = true) {vs : List DV} (hp : (pvsOf vs).isSome = true) {b b' : List (Option Box)} {v : DV} (h : semI P κ vs b (fun v1 b1 => v1 = v ∧ b1 = b')) (b2 : List (Option Box)) :
    semI P κ vs b2 (fun v1 b1 => v1 = v ∧ b1 = b2) := by
  obtain ⟨xs, hxs⟩ := Option.isSome_iff_exists.1 hp
  cases κ <;> simp [plain2] at hκ
  case call f =>
    simp only [semI, frzs_pvsOf hxs] at h ⊢
    obtain ⟨r, h1, h2, _⟩ := h
    exact ⟨r, h1, h2, trivial⟩
  case callv =>
    cases vs with
    | nil => simp [semI] at h
    | cons d ds =>
      simp only [pvsOf] at hxs
      cases hd : pvOf d with
      | none => simp [hd] at hxs
      | some x =>
        cases hds : pvsOf ds with
        | none => simp [hd, hds] at hxs
        | some ys =>
          simp only [semI, frz_pvOf hd, frzs_pvsOf hds] at h ⊢
          split at h
          · rename_i e1 e2
            obtain ⟨r, h1, h2, _⟩ := h
            injection e1 with e1
            injection e2 with e2
            subst e1
            subst e2
            exact ⟨r, h1, h2, trivial⟩
          · exact h.elim
  case mkfn f =>
    simp only [semI, frzs_pvsOf hxs] at h ⊢
    exact ⟨h.1, trivial⟩
  case app size bytes =>
    match vs, h, hxs with
    | [.ow sz nl rows, y], h, hxs =>
      simp only [pvsOf] at hxs
      cases hy : pvOf y with
      | none => simp [hy] at hxs
      | some z =>
        simp only [semI, frz_pvOf hy] at h ⊢
        split at h
        · rename_i e1
          injection e1 with e1
          subst e1
          exact ⟨h.1, h.2.1, h.2.2.1, h.2.2.2.1, h.2.2.2.2.1, trivial⟩
        · exact h.elim
    | [], h, _ => simp [semI] at h
    | [_], h, _ => simp [semI] at h
    | _ :: _ :: _ :: _, h, _ => simp [semI] at h
    | [.top, _], h, _ => simp [semI] at h
    | [.p (.sl sz true []), y], h, hxs =>
      simp only [pvsOf] at hxs
      cases hy : pvOf y with
      | none => simp [hy] at hxs
      | some z =>
        simp only [semI, frz_pvOf hy] at h ⊢
        split at h
        · rename_i e1
          injection e1 with e1
          subst e1
          exact ⟨h.1, h.2.1, h.2.2.1, h.2.2.2.1, h.2.2.2.2.1, trivial⟩
        · exact h.elim
    | [.p (.sl _ true (_ :: _)), _], h, _ => simp [semI] at h
    | [.p (.sl _ false _), _], h, _ => simp [semI] at h
    | [.p (.int _ _), _], h, _ => simp [semI] at h
    | [.p (.bool _), _], h, _ => simp [semI] at h
    | [.p (.str _), _], h, _ => simp [semI] at h
    | [.p (.atom _), _], h, _ => simp [semI] at h
    | [.p (.agg _), _], h, _ => simp [semI] at h
    | [.p (.fn _ _), _], h, _ => simp [semI] at h
    | [.p (.ptr _ _), _], h, _ => simp [semI] at h
    | [.tup _, _], h, _ => simp [semI] at h
    | [.addr _ _ _ _, _], h, _ => simp [semI] at h
    | [.bs _ _ _ _ _, _], h, _ => simp [semI] at h
    | [.fn _ _, _], h, _ => simp [semI] at h
theorem semJ_ind {κ : Kd} (hκ : clsAJ κ = true) {vs : List DV} {b b' : List (Option Box)} {v : DV} (h : semJ P κ vs b (fun v1 b1 => v1 = v ∧ b1 = b')) (b2 : List (Option Box)) :
    semJ P κ vs b2 (fun v1 b1 => v1 = v ∧ b1 = b2) := by
  unfold semJ at h ⊢
  split at h
  · cases hκ
  · simp only [clsAJ, Bool.or_eq_true] at hκ
    rcases hκ with hκ | hκ
    · exact ⟨h.1, semI_ind hκ h.2 b2⟩
    · exact ⟨h.1, semI_pl hκ h.1 h.2 b2⟩
  · rename_i n1 n2
    refine semI_ind ?_ h b2
    cases κ <;> first | exact hκ | exact (n1 _ _ rfl).elim | exact (n2 _ rfl).elim
theorem clsAB {κ : Kd} (h : clsAJ κ = true) : clsBJ κ = true := by
  cases κ <;> first | exact h | rfl | (rename_i κ; cases κ <;> first | exact h | rfl | cases h) | cases h
/-- What lies at a place, box or map. -/
def rawB : List (Option Box) → Nat → Option Box
  | [], _ => none
  | x :: _, 0 => x
  | _ :: xs, n + 1 => rawB xs n
theorem getB_raw : ∀ (l : List (Option Box)) (n : Nat), getB l n = cellB (rawB l n)
  | [], _ => rfl
  | _ :: _, 0 => rfl
  | _ :: xs, n + 1 => getB_raw xs n
theorem raw_some {l : List (Option Box)} {n : Nat} {bx : Box} (h : getB l n = some bx) : (rawB l n).isSome = true := by
  rw [getB_raw] at h; rw [(cellB_some h).1]; rfl
theorem setB_self : ∀ (l : List (Option Box)) (n : Nat), setL l n (rawB l n) = l
  | [], _ => rfl
  | x :: xs, 0 => rfl
  | x :: xs, n + 1 => by simp only [setL, rawB]; rw [setB_self xs n]
theorem getB_setL_ne : ∀ (l : List (Option Box)) (n m : Nat) (x : Option Box), n ≠ m → rawB (setL l n x) m = rawB l m
  | [], _, _, _, _ => rfl
  | _ :: _, 0, 0, _, h => (h rfl).elim
  | _ :: _, 0, _ + 1, _, _ => rfl
  | _ :: _, _ + 1, 0, _, _ => rfl
  | _ :: xs, n + 1, m + 1, x, h => by simp only [setL, rawB]; exact getB_setL_ne xs n m x (by omega)
theorem getB_setL_eq : ∀ (l : List (Option Box)) (n : Nat) (x : Option Box), (rawB l n).isSome = true → rawB (setL l n x) n = x
  | [], _, _, h => by cases h
  | _ :: _, 0, _, _ => rfl
  | _ :: xs, n + 1, x, h => by simp only [setL, rawB] at h ⊢; exact getB_setL_eq xs n x h
theorem setB_comm : ∀ (l : List (Option Box)) (n m : Nat) (x y : Option Box), n ≠ m → setL (setL l n x) m y = setL (setL l m y) n x
  | [], _, _, _, _, _ => rfl
  | _ :: _, 0, 0, _, _, h => (h rfl).elim
  | _ :: _, 0, _ + 1, _, _, _ => rfl
  | _ :: _, _ + 1, 0, _, _, _ => rfl
  | _ :: xs, n + 1, m + 1, x, y, h => by simp only [setL]; rw [setB_comm xs n m x y (by omega)]
/-- It looks at this own variable alone. -/
def atk : Kd → Option Nat
  | .at k (.load _ _ _) => some k
  | .at k (.store _) => some k
  | _ => none
theorem semJ_loc {κ : Kd} {k : Nat} (hκ : atk κ = some k) {vs : List DV} {b b' : List (Option Box)} {v : DV} (h : semJ P κ vs b (fun v1 b1 => v1 = v ∧ b1 = b')) :
    b' = setL b k (rawB b' k) ∧ ∀ b2, rawB b2 k = rawB b k → semJ P κ vs b2 (fun v1 b1 => v1 = v ∧ b1 = setL b2 k (rawB b' k)) := by
  unfold atk at hκ
  split at hκ
  · rename_i k' n ag take
    injection hκ with hκ
    subst hκ
    simp only [semJ] at h ⊢
    split at h
    · obtain ⟨rfl, h⟩ := h
      rename_i k2 sz r off rest
      cases rest with
      | cons _ _ => simp [semI] at h
      | nil =>
        simp only [semI] at h
        cases hb : getB b k2 with
        | none => simp [hb] at h
        | some bx =>
          simp only [hb] at h
          obtain ⟨h1, row, h2, h3, h4⟩ := h
          cases ag with
          | true =>
            simp only [if_true] at h4
            cases hp : pvsOf (takeD row off n) with
            | none => simp [hp] at h4
            | some cs =>
              simp only [hp] at h4
              obtain ⟨h4, rfl⟩ := h4
              refine ⟨by rw [setB_self], fun b2 h5 => ⟨rfl, ?_⟩⟩
              have h5' : getB b2 k2 = some bx := by rw [getB_raw, h5, ← getB_raw, hb]
              simp only [semI, h5']
              refine ⟨h1, row, h2, h3, ?_⟩
              simp only [if_true, hp]
              exact ⟨h4, by rw [← h5, setB_self]⟩
          | false =>
            simp only [Bool.false_eq_true, if_false] at h4
            obtain ⟨d, h5, h6, h7⟩ := h4
            cases take with
            | false =>
              simp only [Bool.false_eq_true, if_false] at h6 h7
              subst h7
              refine ⟨by rw [setB_self], fun b2 h8 => ⟨rfl, ?_⟩⟩
              have h8' : getB b2 k2 = some bx := by rw [getB_raw, h8, ← getB_raw, hb]
              simp only [semI, h8']
              refine ⟨h1, row, h2, h3, ?_⟩
              simp only [Bool.false_eq_true, if_false]
              exact ⟨d, h5, h6, by rw [← h8, setB_self]⟩
            | true =>
              simp only [if_true] at h6 h7
              subst h7
              rw [getB_setL_eq b k2 _ (raw_some hb)]
              refine ⟨rfl, fun b2 h8 => ⟨rfl, ?_⟩⟩
              have h8' : getB b2 k2 = some bx := by rw [getB_raw, h8, ← getB_raw, hb]
              simp only [semI, h8']
              refine ⟨h1, row, h2, h3, ?_⟩
              simp only [Bool.false_eq_true, if_false, if_true]
              exact ⟨d, h5, h6, rfl⟩
    · exact h.elim
  · rename_i k' n
    injection hκ with hκ
    subst hκ
    simp only [semJ] at h ⊢
    split at h
    · obtain ⟨rfl, h⟩ := h
      rename_i k2 sz r off rest
      match rest, h with
      | [], h => simp [semI] at h
      | _ :: _ :: _, h => simp [semI] at h
      | [y], h =>
        simp only [semI] at h
        cases hb : getB b k2 with
        | none => simp [hb] at h
        | some bx =>
          cases hc : cellsOfD y with
          | none => simp [hb, hc] at h
          | some cs =>
            simp only [hb, hc] at h
            obtain ⟨h1, h2, h3, row, h4, h5, h6, h7⟩ := h
            subst h7
            rw [getB_setL_eq b k2 _ (raw_some hb)]
            refine ⟨rfl, fun b2 h8 => ⟨rfl, ?_⟩⟩
            have h8' : getB b2 k2 = some bx := by rw [getB_raw, h8, ← getB_raw, hb]
            simp only [semI, h8', hc]
            exact ⟨h1, h2, h3, row, h4, h5, h6, rfl⟩
    · exact h.elim
  · cases hκ
theorem setL_self : ∀ (l : List DV) (n : Nat), setL l n (getT l n) = l
  | [], _ => rfl
  | x :: xs, 0 => rfl
  | x :: xs, n + 1 => by simp only [setL, getT]; rw [setL_self xs n]
def degS : Kd → List O → Option Nat
  | .mov true, [.t n] => some n
  | .app _ _, .t n :: _ => some n
  | .store _, [_, .t n] => some n
  | .ext _, [.t n] => some n
  | _, _ => none
def degV : Kd → DV → DV
  | .ext j, d => match d with
    | .tup ds => match ds[j]? with
      | some x => .tup (setL ds j x.copy)
      | none => d
    | _ => d
  | _, d => d.copy
theorem degr_eq (κ : Kd) (xs : List O) (t : List DV) : degr κ xs t = match degS κ xs with
    | some n => setL t n (degV κ (getT t n))
    | none => t := by
  unfold degr degS
  split
  · rfl
  · rfl
  · rfl
  · rename_i j n
    simp only [degV]
    cases e : getT t n with
    | tup ds =>
      simp only
      cases e2 : ds[j]? with
      | none => simp only; rw [← e, setL_self]
      | some d => rfl
    | _ => simp only; rw [← e, setL_self]
  · rename_i h1 h2 h3 h4
    split
    · rename_i n heq
      exfalso
      split at heq
      · exact h1 _ rfl rfl
      · exact h2 _ _ _ _ rfl rfl
      · exact h3 _ _ _ rfl rfl
      · exact h4 _ _ rfl rfl
      · cases heq
    · rfl
/-- The slots behind an instruction of outcome v. -/
def U (i : Ins) (v : DV) (t : List DV) : List DV := putD (degr i.k.core i.xs t) i.d v
theorem U_get (i : Ins) (v : DV) (t : List DV) (n : Nat) : (U i v t)[n]? = if i.d = some n then t[n]?.map (fun _ => v) else if degS i.k.core i.xs = some n then t[n]?.map (degV i.k.core) else t[n]? := by
  unfold U putD
  rw [degr_eq]
  have base : (match degS i.k.core i.xs with | some n => setL t n (degV i.k.core (getT t n)) | none => t)[n]? = if degS i.k.core i.xs = some n then t[n]?.map (degV i.k.core) else t[n]? := by
    cases hd : degS i.k.core i.xs with
    | none => simp
    | some m =>
      simp only [getElem?_setL, Option.some.injEq]
      by_cases hm : n = m
      · subst hm
        rw [if_pos rfl, if_pos rfl, getT_eq]
        cases t[n]? <;> rfl
      · rw [if_neg hm, if_neg (fun h => hm h.symm)]
  cases hdd : i.d with
  | none => simpa using base
  | some d =>
    simp only [getElem?_setL, Option.some.injEq]
    by_cases hm : n = d
    · subst hm
      rw [if_pos rfl, if_pos rfl, base]
      split
      · cases t[n]? <;> rfl
      · rfl
    · rw [if_neg hm, if_neg (fun h => hm h.symm), base]
def slotsO : List O → List Nat
  | [] => []
  | .t n :: os => n :: slotsO os
  | _ :: os => slotsO os
/-- The slots that it looks at. -/
def looks (i : Ins) : List Nat :=
  match i.g with
  | some (j, _) => j :: slotsO i.xs
  | none => slotsO i.xs
theorem degS_mem {κ : Kd} {xs : List O} {n : Nat} (h : degS κ xs = some n) : n ∈ slotsO xs := by
  unfold degS at h
  split at h <;> simp at h <;> subst h
  · simp [slotsO]
  · simp [slotsO]
  · rename_i o n; cases o <;> simp [slotsO]
  · simp [slotsO]
/-- Neither writes what the other one looks at or writes. -/
def apartI (i j : Ins) : Bool :=
  (match i.d with
    | some d => !(looks j).contains d && i.d != j.d
    | none => true) &&
  ((match j.d with
    | some d => !(looks i).contains d
    | none => true) &&
  ((match degS i.k.core i.xs with
    | some n => !(looks j).contains n
    | none => true) &&
  (match degS j.k.core j.xs with
    | some n => !(looks i).contains n
    | none => true)))
structure Apart (i j : Ins) : Prop where
  d1 : ∀ d, i.d = some d → d ∉ looks j ∧ i.d ≠ j.d
  d2 : ∀ d, j.d = some d → d ∉ looks i ∧ j.d ≠ i.d
  g1 : ∀ n, degS i.k.core i.xs = some n → n ∉ looks j
  g2 : ∀ n, degS j.k.core j.xs = some n → n ∉ looks i
theorem Apart.symm {i j : Ins} (h : Apart i j) : Apart j i := ⟨h.d2, h.d1, h.g2, h.g1⟩
theorem apartI_ok {i j : Ins} (h : apartI i j = true) : Apart i j := by
  simp only [apartI, Bool.and_eq_true] at h
  obtain ⟨h1, h2, h3, h4⟩ := h
  refine ⟨fun d hd => ?_, fun d hd => ?_, fun n hn => ?_, fun n hn => ?_⟩
  · rw [hd] at h1; simpa [hd] using h1
  · rw [hd] at h2
    refine ⟨by simpa using h2, fun e => ?_⟩
    rw [hd] at e
    rw [← e] at h1
    simp [hd] at h1
  · rw [hn] at h3; simpa using h3
  · rw [hn] at h4; simpa using h4
theorem Apart.get {i j : Ins} (h : Apart i j) (v : DV) (t : List DV) {n : Nat} (hn : n ∈ looks j) : getT (U i v t) n = getT t n := by
  rw [getT_eq, getT_eq, U_get]
  rw [if_neg (fun e => (h.d1 n e).1 hn), if_neg (fun e => h.g1 n e hn)]
theorem looks_xs {i : Ins} {n : Nat} (h : n ∈ slotsO i.xs) : n ∈ looks i := by
  unfold looks
  cases i.g with
  | none => exact h
  | some g => exact List.mem_cons_of_mem _ h
theorem slotsO_mem {xs : List O} {n : Nat} (h : .t n ∈ xs) : n ∈ slotsO xs := by
  induction xs with
  | nil => simp at h
  | cons x xs ih =>
    cases x with
    | t m =>
      simp only [slotsO]
      rcases List.mem_cons.1 h with e | h
      · injection e with e; subst e; exact List.mem_cons_self
      · exact List.mem_cons_of_mem _ (ih h)
    | c d =>
      rcases List.mem_cons.1 h with e | h
      · cases e
      · exact ih h
theorem Apart.comm {i j : Ins} (h : Apart i j) (v u : DV) (t : List DV) : U j u (U i v t) = U i v (U j u t) := by
  apply List.ext_getElem?
  intro n
  rw [U_get, U_get, U_get, U_get]
  have a1 : i.d = some n → j.d ≠ some n := fun e e' => (h.d1 n e).2 (e.trans e'.symm)
  have a2 : i.d = some n → degS j.k.core j.xs ≠ some n := fun e e' => (h.d1 n e).1 (looks_xs (degS_mem e'))
  have a3 : j.d = some n → degS i.k.core i.xs ≠ some n := fun e e' => (h.d2 n e).1 (looks_xs (degS_mem e'))
  have a4 : degS i.k.core i.xs = some n → degS j.k.core j.xs ≠ some n := fun e e' => h.g1 n e (looks_xs (degS_mem e'))
  by_cases e1 : i.d = some n
  · simp [e1, a1 e1, a2 e1]
  · by_cases e2 : j.d = some n
    · simp [e1, e2, a3 e2]
    · by_cases e3 : degS i.k.core i.xs = some n
      · simp [e1, e2, e3, a4 e3]
      · simp [e1, e2, e3]
theorem Apart.top {i j : Ins} (h : Apart i j) (u : DV) (t : List DV) : U j u (putD t i.d (.tup [])) = putD (U j u t) i.d (.tup []) := by
  apply List.ext_getElem?
  intro n
  cases hd : i.d with
  | none => rfl
  | some d =>
    simp only [putD]
    rw [U_get, getElem?_setL, getElem?_setL, U_get]
    by_cases e : n = d
    · subst e
      have a1 : j.d ≠ some n := fun e' => (h.d1 n hd).2 (hd.trans e'.symm)
      have a2 : degS j.k.core j.xs ≠ some n := fun e' => (h.d1 n hd).1 (looks_xs (degS_mem e'))
      simp [a1, a2]
    · simp [e]
theorem Apart.topget {i j : Ins} (h : Apart i j) (t : List DV) {n : Nat} (hn : n ∈ looks j) : getT (putD t i.d (.tup [])) n = getT t n := by
  cases hd : i.d with
  | none => rfl
  | some d =>
    simp only [putD]
    rw [getT_eq, getT_eq, getElem?_setL, if_neg (fun e => (h.d1 d hd).1 (by subst e; exact hn))]
def stepX (P : Program) (i : Ins) (s s' : St) : Prop := ∃ v, semJ P i.k (i.xs.map (O.val s.t)) s.b (fun v1 b1 => v1 = v ∧ b1 = s'.b) ∧ s'.t = U i v s.t
def stepI (P : Program) (i : Ins) (s s' : St) : Prop :=
  match i.g with
  | none => stepX P i s s'
  | some (j, want) => (∃ c, getT s.t j = .p (.bool c) ∧ (c = want → stepX P i s s') ∧ (c = (!want) → s' = ⟨putD s.t i.d (.tup []), s.b⟩)) ∨ (getT s.t j = .tup [] ∧ s' = ⟨putD s.t i.d (.tup []), s.b⟩)
theorem exec_iff {i : Ins} (hn : newBox i.k = none) (hl : nolen i.k.core = true) {s : St} {K : St → Prop} : exec P i s K ↔ ∃ s', stepX P i s s' ∧ K s' := by
  constructor
  · rintro ⟨_, h⟩
    obtain ⟨v, b', h1, h2⟩ := semJ_ang hl h
    exact ⟨⟨U i v s.t, b'⟩, ⟨v, h1, rfl⟩, h2⟩
  · rintro ⟨⟨t', b'⟩, ⟨v, h1, h2⟩, h3⟩
    simp only at h2
    subst h2
    refine ⟨by unfold fresh; rw [hn]; trivial, semJ_mono (fun v1 b1 ⟨e1, e2⟩ => ?_) h1⟩
    subst e1
    subst e2
    exact h3
theorem execG_iff {i : Ins} (hn : newBox i.k = none) (hl : nolen i.k.core = true) {s : St} {K : St → Prop} : execG P i s K ↔ ∃ s', stepI P i s s' ∧ K s' := by
  unfold execG stepI
  cases hg : i.g with
  | none => exact exec_iff hn hl
  | some g =>
    obtain ⟨j, want⟩ := g
    simp only
    cases hv : getT s.t j with
    | p z =>
      cases z with
      | bool c =>
        simp only
        have es : setL s.t j (.p (.bool c)) = s.t := by rw [← hv]; exact setL_self _ _
        by_cases hc : c = want
        · subst hc
          rw [es]
          constructor
          · rintro ⟨h1, _⟩
            obtain ⟨s', h2, h3⟩ := (exec_iff hn hl).1 (h1 rfl)
            exact ⟨s', .inl ⟨c, rfl, fun _ => h2, fun h => by cases c <;> cases h⟩, h3⟩
          · rintro ⟨s', ⟨c', e, h1, _⟩ | ⟨e, _⟩, h3⟩
            · injection e with e
              injection e with e
              subst e
              exact ⟨fun _ => (exec_iff hn hl).2 ⟨s', h1 rfl, h3⟩, fun h => by cases c <;> cases h⟩
            · cases e
        · have hc' : c = !want := by cases c <;> cases want <;> simp at hc ⊢
          subst hc'
          rw [es]
          constructor
          · rintro ⟨_, h2⟩
            exact ⟨_, .inl ⟨!want, rfl, fun h => absurd h hc, fun _ => rfl⟩, h2 rfl⟩
          · rintro ⟨s', ⟨c', e, _, h2⟩ | ⟨e, _⟩, h3⟩
            · injection e with e
              injection e with e
              subst e
              rw [h2 rfl] at h3
              exact ⟨fun h => absurd h hc, fun _ => h3⟩
            · cases e
      | _ => simp
    | tup ds =>
      cases ds with
      | nil =>
        simp only
        constructor
        · exact fun h => ⟨_, .inr ⟨trivial, rfl⟩, h⟩
        · rintro ⟨s', ⟨c', e, _⟩ | ⟨_, e⟩, h3⟩
          · cases e
          · rw [e] at h3; exact h3
      | cons _ _ => simp
    | _ => simp
def indep (i j : Ins) : Bool :=
  apartI i j && ((newBox i.k).isNone && ((newBox j.k).isNone && (nolen i.k.core && (nolen j.k.core && ((clsBJ i.k && clsBJ j.k) || ((clsAJ i.k || clsAJ j.k) || (match atk i.k, atk j.k with | some k1, some k2 => k1 != k2 | _, _ => false)))))))
def gOK (i : Ins) (t : List DV) : Prop :=
  match i.g with
  | none => True
  | some (j, w) => getT t j = .p (.bool w)
def gNo (i : Ins) (t : List DV) : Prop :=
  match i.g with
  | none => False
  | some (j, w) => getT t j = .p (.bool (!w)) ∨ getT t j = .tup []
inductive StepK (P : Program) (i : Ins) (s s' : St) : Prop
  | ex (v : DV) (g : gOK i s.t) (h : semJ P i.k (i.xs.map (O.val s.t)) s.b (fun v1 b1 => v1 = v ∧ b1 = s'.b)) (ht : s'.t = U i v s.t)
  | sk (g : gNo i s.t) (e : s' = ⟨putD s.t i.d (.tup []), s.b⟩)
theorem stepI_iff {i : Ins} {s s' : St} : stepI P i s s' ↔ StepK P i s s' := by
  unfold stepI
  cases hg : i.g with
  | none =>
    constructor
    · rintro ⟨v, h1, h2⟩; exact .ex v (by unfold gOK; rw [hg]; trivial) h1 h2
    · rintro (⟨v, _, h1, h2⟩ | ⟨g, _⟩)
      · exact ⟨v, h1, h2⟩
      · unfold gNo at g; rw [hg] at g; exact g.elim
  | some g =>
    obtain ⟨j, w⟩ := g
    simp only
    constructor
    · rintro (⟨c, e, h1, h2⟩ | ⟨e, h2⟩)
      · by_cases hc : c = w
        · obtain ⟨v, h3, h4⟩ := h1 hc
          exact .ex v (by unfold gOK; rw [hg]; subst hc; exact e) h3 h4
        · have hc' : c = !w := by cases c <;> cases w <;> simp at hc ⊢
          exact .sk (by unfold gNo; rw [hg]; subst hc'; exact .inl e) (h2 hc')
      · exact .sk (by unfold gNo; rw [hg]; exact .inr e) h2
    · rintro (⟨v, g, h1, h2⟩ | ⟨g, e⟩)
      · unfold gOK at g; rw [hg] at g
        exact .inl ⟨w, g, fun _ => ⟨v, h1, h2⟩, (fun h => by cases w <;> cases h)⟩
      · unfold gNo at g; rw [hg] at g
        rcases g with g | g
        · exact .inl ⟨!w, g, (fun h => by cases w <;> cases h), fun _ => e⟩
        · exact .inr ⟨g, e⟩
theorem guard_looks {i : Ins} {j : Nat} {w : Bool} (h : i.g = some (j, w)) : j ∈ looks i := by unfold looks; rw [h]; exact List.mem_cons_self
theorem gOK_congr {i : Ins} {t t' : List DV} (h : ∀ n, n ∈ looks i → getT t' n = getT t n) : gOK i t' ↔ gOK i t := by
  unfold gOK
  cases hg : i.g with
  | none => rfl
  | some g => obtain ⟨j, w⟩ := g; simp only; rw [h j (guard_looks hg)]
theorem gNo_congr {i : Ins} {t t' : List DV} (h : ∀ n, n ∈ looks i → getT t' n = getT t n) : gNo i t' ↔ gNo i t := by
  unfold gNo
  cases hg : i.g with
  | none => rfl
  | some g => obtain ⟨j, w⟩ := g; simp only; rw [h j (guard_looks hg)]
theorem vals_congr {i : Ins} {t t' : List DV} (h : ∀ n, n ∈ looks i → getT t' n = getT t n) : i.xs.map (O.val t') = i.xs.map (O.val t) := by
  refine List.map_congr_left fun x hx => ?_
  cases x with
  | c d => rfl
  | t n => exact h n (looks_xs (slotsO_mem hx))
theorem putD_comm {i j : Ins} (h : Apart i j) (t : List DV) : putD (putD t i.d (.tup [])) j.d (.tup []) = putD (putD t j.d (.tup [])) i.d (.tup []) := by
  cases hi : i.d with
  | none => cases j.d <;> rfl
  | some d =>
    cases hj : j.d with
    | none => rfl
    | some e =>
      have hne : d ≠ e := fun h' => (h.d1 d hi).2 (by rw [hi, hj, h'])
      simp only [putD]
      apply List.ext_getElem?
      intro n
      simp only [getElem?_setL]
      by_cases h1 : n = d
      · subst h1; simp [hne]
      · by_cases h2 : n = e
        · subst h2; simp [h1]
        · simp [h1, h2]
theorem swapS {i j : Ins} (h : indep i j = true) {s s1 s2 : St} (h1 : StepK P i s s1) (h2 : StepK P j s1 s2) : ∃ s', StepK P j s s' ∧ StepK P i s' s2 := by
  simp only [indep, Bool.and_eq_true] at h
  obtain ⟨ha, _, _, _, _, hcl⟩ := h
  have hap := apartI_ok ha
  obtain ⟨t, b⟩ := s
  obtain ⟨t1, b1⟩ := s1
  obtain ⟨t2, b2⟩ := s2
  cases h1 with
  | ex v g1 m1 e1 =>
    simp only at g1 m1 e1
    subst e1
    have lj : ∀ n, n ∈ looks j → getT (U i v t) n = getT t n := fun n hn => hap.get v t hn
    cases h2 with
    | ex u g2 m2 e2 =>
      simp only at g2 m2 e2
      subst e2
      rw [gOK_congr lj] at g2
      rw [vals_congr lj] at m2
      have li : ∀ n, n ∈ looks i → getT (U j u t) n = getT t n := fun n hn => hap.symm.get u t hn
      have key : ∃ b', semJ P j.k (j.xs.map (O.val t)) b (fun v1 b1 => v1 = u ∧ b1 = b') ∧ semJ P i.k (i.xs.map (O.val t)) b' (fun v1 b1 => v1 = v ∧ b1 = b2) := by
        simp only [Bool.or_eq_true, Bool.and_eq_true] at hcl
        rcases hcl with ⟨c1, c2⟩ | (c1 | c2) | c3
        · have k1 := semJ_keep c1 m1
          subst k1
          have k2 := semJ_keep c2 m2
          subst k2
          exact ⟨_, m2, m1⟩
        · have k1 := semJ_keep (clsAB c1) m1
          subst k1
          exact ⟨_, m2, semJ_ind c1 m1 _⟩
        · have k2 := semJ_keep (clsAB c2) m2
          subst k2
          exact ⟨b, semJ_ind c2 m2 _, m1⟩
        · cases ei : atk i.k with
          | none => simp [ei] at c3
          | some k1 =>
            cases ej : atk j.k with
            | none => simp [ei, ej] at c3
            | some k2 =>
              simp only [ei, ej, bne_iff_ne, ne_eq] at c3
              obtain ⟨l1, l2⟩ := semJ_loc ei m1
              obtain ⟨l3, l4⟩ := semJ_loc ej m2
              have q1 : rawB b k2 = rawB b1 k2 := by rw [l1, getB_setL_ne _ _ _ _ c3]
              refine ⟨_, l4 b q1, ?_⟩
              have q2 := l2 (setL b k2 (rawB b2 k2)) (getB_setL_ne _ _ _ _ (fun e => c3 e.symm))
              rw [setB_comm _ _ _ _ _ (fun e => c3 e.symm), ← l1, ← l3] at q2
              exact q2
      obtain ⟨b', k1, k2⟩ := key
      refine ⟨⟨U j u t, b'⟩, .ex u g2 k1 rfl, .ex v ((gOK_congr li).2 g1) (by rw [vals_congr li]; exact k2) (hap.comm v u t)⟩
    | sk g2 e2 =>
      simp only at g2
      injection e2 with e2 e3
      subst e2
      subst e3
      rw [gNo_congr lj] at g2
      have li : ∀ n, n ∈ looks i → getT (putD t j.d (.tup [])) n = getT t n := fun n hn => hap.symm.topget t hn
      exact ⟨⟨putD t j.d (.tup []), b⟩, .sk g2 rfl, .ex v ((gOK_congr li).2 g1) (by rw [vals_congr li]; exact m1) (hap.symm.top v t).symm⟩
  | sk g1 e1 =>
    simp only at g1
    injection e1 with e1 e3
    subst e1
    subst e3
    have lj : ∀ n, n ∈ looks j → getT (putD t i.d (.tup [])) n = getT t n := fun n hn => hap.topget t hn
    cases h2 with
    | ex u g2 m2 e2 =>
      simp only at g2 m2 e2
      subst e2
      rw [gOK_congr lj] at g2
      rw [vals_congr lj] at m2
      have li : ∀ n, n ∈ looks i → getT (U j u t) n = getT t n := fun n hn => hap.symm.get u t hn
      refine ⟨⟨U j u t, b2⟩, .ex u g2 m2 rfl, .sk ((gNo_congr li).2 g1) ?_⟩
      rw [hap.top u t]
    | sk g2 e2 =>
      simp only at g2
      injection e2 with e2 e3
      subst e2
      subst e3
      rw [gNo_congr lj] at g2
      have li : ∀ n, n ∈ looks i → getT (putD t j.d (.tup [])) n = getT t n := fun n hn => hap.symm.topget t hn
      refine ⟨⟨putD t j.d (.tup []), _⟩, .sk g2 rfl, .sk ((gNo_congr li).2 g1) ?_⟩
      rw [putD_comm hap t]
theorem swap {i j : Ins} (h : indep i j = true) {s : St} {K : St → Prop} (hx : execG P i s (fun s => execG P j s K)) : execG P j s (fun s => execG P i s K) := by
  have h' := h
  simp only [indep, Bool.and_eq_true, Option.isNone_iff_eq_none] at h'
  obtain ⟨_, n1, n2, l1, l2, _⟩ := h'
  rw [execG_iff n1 l1] at hx
  obtain ⟨s1, h1, hx⟩ := hx
  rw [execG_iff n2 l2] at hx
  obtain ⟨s2, h2, hK⟩ := hx
  obtain ⟨s', k1, k2⟩ := swapS h (stepI_iff.1 h1) (stepI_iff.1 h2)
  rw [execG_iff n2 l2]
  refine ⟨s', stepI_iff.2 k1, ?_⟩
  rw [execG_iff n1 l1]
  exact ⟨s2, stepI_iff.2 k2, hK⟩
end Go.Proofs.YtkjghcbnmipgfaaGreatDoor.Vc
namespace Go.Proofs.YtkjghcbnmipgfaaGreatDoor.Vc
open Go.RowKit
variable {P : Program}
theorem noRefT_iff {k : Nat} {t : List DV} : noRefT k t = true ↔ ∀ d, d ∈ t → d.ment k = false := by
  induction t with
  | nil => simp [noRefT]
  | cons d ds ih => simp [noRefT, ih]
theorem noRefR_iff {k : Nat} {rs : List (List DV)} : noRefR k rs = true ↔ ∀ r, r ∈ rs → ∀ d, d ∈ r → d.ment k = false := by
  induction rs with
  | nil => simp [noRefR]
  | cons r rs ih => simp [noRefR, ih, noRefT_iff]
theorem noRefB_iff {k : Nat} : ∀ {i : Nat} {b : List (Option Box)}, noRefB k i b = true ↔ ∀ (j : Nat) bx, b[j]? = some (some bx) → i + j ≠ k → noRefR k bx.rows = true := by
  intro i b
  induction b generalizing i with
  | nil => simp [noRefB]
  | cons x xs ih =>
    simp only [noRefB, Bool.and_eq_true, Bool.or_eq_true, beq_iff_eq, ih]
    constructor
    · rintro ⟨h1, h2⟩ j bx hj hne
      cases j with
      | zero =>
        simp at hj
        subst hj
        rcases h1 with h1 | h1
        · exact absurd h1 (by simpa using hne)
        · exact h1
      | succ j => exact h2 j bx (by simpa using hj) (by omega)
    · intro h
      refine ⟨?_, fun j bx hj hne => h (j + 1) bx (by simpa using hj) (by omega)⟩
      by_cases hik : i = k
      · exact .inl hik
      · right
        cases x with
        | none => rfl
        | some bx => exact h 0 bx rfl (by simpa using hik)
/-- Nothing speaks of box k. -/
structure NoK (k : Nat) (s : St) : Prop where
  t : ∀ d, d ∈ s.t → d.ment k = false
  b : ∀ (j : Nat) bx, s.b[j]? = some (some bx) → j ≠ k → ∀ r, r ∈ bx.rows → ∀ d, d ∈ r → d.ment k = false
theorem NoK.get {k : Nat} {s : St} (h : NoK k s) (n : Nat) : (getT s.t n).ment k = false := by
  rw [getT_eq]
  cases hn : s.t[n]? with
  | none => rfl
  | some d => exact h.t d (List.mem_of_getElem? hn)
def addrK : Kd → Bool
  | .mov _ | .pick | .fad _ | .iad _ | .nilchk => true
  | _ => false
theorem dv_plain (d : TV) : d.dv.plain = true := by cases d <;> rfl
theorem dvc_plain (d : TV) : d.dv.copy.plain = true := by cases d <;> rfl
theorem plain_ment {k : Nat} {d : DV} (h : d.plain = true) : d.ment k = false := by cases d <;> first | rfl | cases h
theorem semI_plain {κ : Kd} (hκ : clsA κ = true) (ha : addrK κ = false) {vs : List DV} {b b' : List (Option Box)} {v : DV} (h : semI P κ vs b (fun v1 b1 => v1 = v ∧ b1 = b')) : v.plain = true := by
  cases κ <;> simp [clsA] at hκ <;> simp [addrK] at ha
  all_goals
    unfold semI at h
    (repeat' split at h) <;> (try contradiction)
  all_goals first
    | (rw [loadP_ang] at h; obtain ⟨z, h1, h2, h3⟩ := h; subst h2; rfl)
    | (obtain ⟨_, _, _, _, _, rfl, _⟩ := h; rfl)
    | (rw [binPV_ang] at h; obtain ⟨z, h1, h2, h3⟩ := h; subst h2; rfl)
    | (obtain ⟨rfl, _⟩ := h; first | rfl | exact dv_plain _ | exact dvc_plain _)
    | (obtain ⟨_, rfl, _⟩ := h; rfl)
    | (obtain ⟨_, _, rfl, _⟩ := h; rfl)
    | (obtain ⟨_, _, _, rfl, _⟩ := h; rfl)
    | (obtain ⟨_, _, _, _, rfl, _⟩ := h; rfl)
    | exact h.2.elim
theorem copy_ment {k : Nat} {d : DV} (h : d.ment k = false) : d.copy.ment k = false := by cases d <;> first | exact h | rfl
theorem semI_mentA {κ : Kd} (hκ : clsA κ = true) {k : Nat} {vs : List DV} (hv : ∀ d, d ∈ vs → d.ment k = false) {b b' : List (Option Box)} {v : DV} (h : semI P κ vs b (fun v1 b1 => v1 = v ∧ b1 = b')) : v.ment k = false := by
  cases ha : addrK κ with
  | false => exact plain_ment (semI_plain hκ ha h)
  | true =>
    cases κ <;> simp [addrK] at ha
    case mov take =>
      unfold semI at h
      split at h <;> (try contradiction)
      rename_i x heq
      obtain ⟨h1, _⟩ := h
      subst h1
      have hx := hv x (by simp)
      split
      · exact hx
      · exact copy_ment hx
    case pick =>
      unfold semI at h
      split at h <;> (try contradiction)
      rename_i c x y heq
      have hx := hv x (by simp)
      have hy := hv y (by simp)
      cases c with
      | true => rw [← (h.1 rfl).1]; exact copy_ment hx
      | false => rw [← (h.2 rfl).1]; exact copy_ment hy
    case fad off =>
      unfold semI at h
      split at h <;> (try contradiction)
      · rename_i k' size r o heq
        rw [← h.1]; exact hv (.addr k' size r o) (by simp)
      · rw [← h.1]; rfl
    case iad size =>
      unfold semI at h
      split at h <;> (try contradiction)
      rename_i x k' i heq
      have hx := hv x (by simp)
      split at h
      · obtain ⟨_, _, row, _, e, _⟩ := h; rw [← e]; rfl
      · obtain ⟨_, _, row, _, e, _⟩ := h; rw [← e]; rfl
      · obtain ⟨_, _, _, e, _⟩ := h; rw [← e]; exact hx
      · exact h.elim
    case nilchk =>
      unfold semI at h
      split at h <;> (try contradiction)
      rename_i x heq
      have hx := hv x (by simp)
      split at h
      · rw [← h.1]; exact hx
      · rw [← h.1]; rfl
      · rw [← h.1]; rfl
      · exact h.elim
theorem mem_setL {α : Type} {x v : α} : ∀ {l : List α} {n : Nat}, x ∈ setL l n v → x ∈ l ∨ x = v
  | [], _, h => by simp [setL] at h
  | y :: ys, 0, h => by
    simp only [setL] at h
    rcases List.mem_cons.1 h with h | h
    · exact .inr h
    · exact .inl (List.mem_cons_of_mem _ h)
  | y :: ys, n + 1, h => by
    simp only [setL] at h
    rcases List.mem_cons.1 h with h | h
    · exact .inl (h ▸ List.mem_cons_self)
    · rcases mem_setL h with h | h
      · exact .inl (List.mem_cons_of_mem _ h)
      · exact .inr h
theorem mem_storeD {x : DV} : ∀ {cs : List DV} {l : List DV} {o : Nat}, x ∈ storeD l o cs → x ∈ l ∨ x ∈ cs
  | [], _, _, h => .inl h
  | c :: cs, l, o, h => by
    simp only [storeD] at h
    rcases mem_storeD h with h | h
    · rcases mem_setL h with h | h
      · exact .inl h
      · exact .inr (h ▸ List.mem_cons_self)
    · exact .inr (List.mem_cons_of_mem _ h)
theorem cellsOfD_ment {k : Nat} {y : DV} {cs : List DV} (h : cellsOfD y = some cs) (hy : y.ment k = false) : ∀ d, d ∈ cs → d.ment k = false := by
  intro d hd
  cases y <;> simp [cellsOfD] at h <;> subst h <;> simp at hd
  · obtain ⟨c, _, rfl⟩ := hd; rfl
  all_goals (subst hd; exact hy)
def FreeB (k : Nat) (b : List (Option Box)) : Prop := ∀ (j : Nat) bx, b[j]? = some (some bx) → j ≠ k → ∀ r, r ∈ bx.rows → ∀ d, d ∈ r → d.ment k = false
theorem FreeB.set {k j : Nat} {b : List (Option Box)} (h : FreeB k b) {bx : Box} (hb : j ≠ k → ∀ r, r ∈ bx.rows → ∀ d, d ∈ r → d.ment k = false) : FreeB k (setL b j (some bx)) := by
  intro i bx' hi hne r hr d hd
  rw [getElem?_setL] at hi
  by_cases hij : i = j
  · subst hij
    rw [if_pos rfl] at hi
    cases hx : b[i]? with
    | none => rw [hx] at hi; simp at hi
    | some y => rw [hx] at hi; simp at hi; subst hi; exact hb hne r hr d hd
  · rw [if_neg hij] at hi
    exact h i bx' hi hne r hr d hd
theorem semJ_ment {κ : Kd} (hκ : (clsAJ κ || (atk κ).isSome) = true) {k : Nat} {vs : List DV} (hv : ∀ d, d ∈ vs → d.ment k = false) {b b' : List (Option Box)} (hb : FreeB k b) {v : DV}
    (h : semJ P κ vs b (fun v1 b1 => v1 = v ∧ b1 = b')) : v.ment k = false ∧ FreeB k b' := by
  rw [Bool.or_eq_true] at hκ
  rcases hκ with hκ | hκ
  · have hk := semJ_keep (clsAB hκ) h
    subst hk
    refine ⟨?_, hb⟩
    unfold semJ at h
    split at h
    · cases hκ
    · simp only [clsAJ, Bool.or_eq_true] at hκ
      rcases hκ with hκ | hκ
      · exact semI_mentA hκ hv h.2
      · replace h := h.2
        rename_i κ'
        cases κ' <;> simp [plain2] at hκ
        case call f =>
          simp only [semI] at h
          split at h
          · obtain ⟨r, h1, h2, _⟩ := h; subst h2; exact plain_ment h1.1
          · exact h.elim
        case callv =>
          unfold semI at h
          split at h <;> (try contradiction)
          split at h
          · obtain ⟨r, h1, h2, _⟩ := h; subst h2; exact plain_ment h1.1
          · exact h.elim
        case mkfn f =>
          simp only [semI] at h
          split at h
          · rw [← h.1]; rfl
          · exact h.elim
        case app size bytes =>
          unfold semI at h
          split at h <;> (try contradiction)
          all_goals
            split at h
            · obtain ⟨_, _, _, _, e, _⟩ := h; rw [← e]; rfl
            · exact h.elim
    · rename_i n1 n2
      refine semI_mentA ?_ hv h
      cases κ <;> first | exact hκ | exact (n1 _ _ rfl).elim | exact (n2 _ rfl).elim
  · obtain ⟨j, hj⟩ := Option.isSome_iff_exists.1 hκ
    unfold atk at hj
    split at hj
    · rename_i k' n ag take
      simp only [semJ] at h
      split at h
      · obtain ⟨rfl, h⟩ := h
        rename_i k2 sz r off rest
        have hk2 : k2 ≠ k := by have := hv (.addr k2 sz r off) (by simp); simpa [DV.ment] using this
        cases rest with
        | cons _ _ => simp [semI] at h
        | nil =>
          simp only [semI] at h
          cases hbk : getB b k2 with
          | none => simp [hbk] at h
          | some bx =>
            simp only [hbk] at h
            obtain ⟨h1, row, h2, h3, h4⟩ := h
            have hrow := hb k2 bx (getB_some hbk) hk2 row (List.mem_of_getElem? h2)
            cases ag with
            | true =>
              simp only [if_true] at h4
              split at h4
              · obtain ⟨e1, e2⟩ := h4; subst e2; exact ⟨by rw [← e1]; rfl, hb⟩
              · exact h4.elim
            | false =>
              simp only [Bool.false_eq_true, if_false] at h4
              obtain ⟨d, h5, h6, h7⟩ := h4
              have hd := hrow d (List.mem_of_getElem? h5)
              cases take with
              | false =>
                simp only [Bool.false_eq_true, if_false] at h6 h7
                subst h7
                exact ⟨by rw [← h6]; exact copy_ment hd, hb⟩
              | true =>
                simp only [if_true] at h6 h7
                subst h7
                refine ⟨by rw [← h6]; exact hd, hb.set fun _ r' hr' d' hd' => ?_⟩
                rcases mem_setL hr' with hr' | hr'
                · exact hb k2 bx (getB_some hbk) hk2 r' hr' d' hd'
                · subst hr'
                  rcases mem_setL hd' with hd' | hd'
                  · exact hrow d' hd'
                  · subst hd'; exact copy_ment hd
      · exact h.elim
    · rename_i k' n
      simp only [semJ] at h
      split at h
      · obtain ⟨rfl, h⟩ := h
        rename_i k2 sz r off rest
        have hk2 : k2 ≠ k := by have := hv (.addr k2 sz r off) (by simp); simpa [DV.ment] using this
        match rest, h, hv with
        | [], h, _ => simp [semI] at h
        | _ :: _ :: _, h, _ => simp [semI] at h
        | [y], h, hv =>
          simp only [semI] at h
          cases hbk : getB b k2 with
          | none => simp [hbk] at h
          | some bx =>
            cases hc : cellsOfD y with
            | none => simp [hbk, hc] at h
            | some cs =>
              simp only [hbk, hc] at h
              obtain ⟨h1, h2, h3, row, h4, h5, h6, h7⟩ := h
              subst h7
              have hrow := hb k2 bx (getB_some hbk) hk2 row (List.mem_of_getElem? h4)
              have hcs := cellsOfD_ment hc (hv y (by simp))
              refine ⟨by rw [← h6]; rfl, hb.set fun _ r' hr' d' hd' => ?_⟩
              rcases mem_setL hr' with hr' | hr'
              · exact hb k2 bx (getB_some hbk) hk2 r' hr' d' hd'
              · subst hr'
                rcases mem_storeD hd' with hd' | hd'
                · exact hrow d' hd'
                · exact hcs d' hd'
      · exact h.elim
    · cases hj
/-- What an allocation of no guard does where nothing speaks of its box. -/
theorem execG_al {a : Ins} {k size d : Nat} {zero : List DV} (hk : a.k = .alloc k size zero) (hg : a.g = none) (hx : a.xs = []) (hd : a.d = some d) {s : St} (hN : NoK k s) (hlt : k < s.b.length) {K : St → Prop} :
    execG P a s K ↔ (zero.length = size ∧ K ⟨setL s.t d (.addr k size 0 0), setL s.b k (some ⟨true, size, [zero], false⟩)⟩) := by
  unfold execG
  rw [hg]
  simp only [exec, fresh, hk, newBox, hx, hd, List.map_nil, semJ, semI, Kd.core, degr, putD]
  constructor
  · exact fun h => h.2
  · refine fun h => ⟨⟨hlt, noRefT_iff.2 fun x hx => ?_, noRefB_iff.2 fun j bx hj hne => noRefR_iff.2 (hN.b j bx hj (by simpa using hne))⟩, h⟩
    rcases mem_setL hx with hx | hx
    · exact hN.t x hx
    · subst hx; rfl
theorem atk_ne {κ : Kd} {j k : Nat} (hj : atk κ = some j) {vs : List DV} (hv : ∀ d, d ∈ vs → d.ment k = false) {b : List (Option Box)} {K : DV → List (Option Box) → Prop} (h : semJ P κ vs b K) : j ≠ k := by
  unfold atk at hj
  split at hj
  · injection hj with hj
    subst hj
    simp only [semJ] at h
    split at h
    · rename_i k2 sz r off rest
      have := hv (.addr k2 sz r off) (by simp)
      rw [← h.1]
      simpa [DV.ment] using this
    · exact h.elim
  · injection hj with hj
    subst hj
    simp only [semJ] at h
    split at h
    · rename_i k2 sz r off rest
      have := hv (.addr k2 sz r off) (by simp)
      rw [← h.1]
      simpa [DV.ment] using this
    · exact h.elim
  · cases hj
theorem semJ_up {κ : Kd} (hκ : (clsAJ κ || (atk κ).isSome) = true) {k : Nat} {vs : List DV} (hv : ∀ d, d ∈ vs → d.ment k = false) {b b' : List (Option Box)} {v : DV} (x : Option Box)
    (h : semJ P κ vs b (fun v1 b1 => v1 = v ∧ b1 = b')) : semJ P κ vs (setL b k x) (fun v1 b1 => v1 = v ∧ b1 = setL b' k x) ∧ b'.length = b.length := by
  rw [Bool.or_eq_true] at hκ
  rcases hκ with hκ | hκ
  · have hk := semJ_keep (clsAB hκ) h
    subst hk
    exact ⟨semJ_ind hκ h _, rfl⟩
  · obtain ⟨j, hj⟩ := Option.isSome_iff_exists.1 hκ
    have hne := atk_ne hj hv h
    obtain ⟨l1, l2⟩ := semJ_loc hj h
    have := l2 (setL b k x) (getB_setL_ne _ _ _ _ (fun e => hne e.symm))
    rw [setB_comm _ _ _ _ _ (fun e => hne e.symm), ← l1] at this
    exact ⟨this, by rw [l1, setL_length]⟩
theorem semJ_down {κ : Kd} (hκ : (clsAJ κ || (atk κ).isSome) = true) {k : Nat} {vs : List DV} (hv : ∀ d, d ∈ vs → d.ment k = false) {b b2 : List (Option Box)} {v : DV} (x : Option Box)
    (h : semJ P κ vs (setL b k x) (fun v1 b1 => v1 = v ∧ b1 = b2)) : ∃ b', semJ P κ vs b (fun v1 b1 => v1 = v ∧ b1 = b') ∧ b2 = setL b' k x ∧ b'.length = b.length := by
  rw [Bool.or_eq_true] at hκ
  rcases hκ with hκ | hκ
  · have hk := semJ_keep (clsAB hκ) h
    subst hk
    exact ⟨b, semJ_ind hκ h _, rfl, rfl⟩
  · obtain ⟨j, hj⟩ := Option.isSome_iff_exists.1 hκ
    have hne := atk_ne hj hv h
    obtain ⟨l1, l2⟩ := semJ_loc hj h
    refine ⟨_, l2 b (getB_setL_ne _ _ _ _ (fun e => hne e.symm)).symm, ?_, by rw [setL_length]⟩
    rw [setB_comm _ _ _ _ _ hne, ← l1]
def cstB : List O → Bool
  | [] => true
  | .c (.p _) :: os | .c (.ow _ _ _) :: os | .c .top :: os => cstB os
  | .t _ :: os => cstB os
  | _ => false
theorem vals_free {k : Nat} {s : St} (hN : NoK k s) : ∀ {xs : List O}, cstB xs = true → ∀ d, d ∈ xs.map (O.val s.t) → d.ment k = false
  | [], _, d, hd => by simp at hd
  | .t n :: os, h, d, hd => by
    rcases List.mem_cons.1 hd with hd | hd
    · subst hd; exact hN.get n
    · exact vals_free hN (by simpa [cstB] using h) d hd
  | .c (.p x) :: os, h, d, hd => by
    rcases List.mem_cons.1 hd with hd | hd
    · subst hd; rfl
    · exact vals_free hN (by simpa [cstB] using h) d hd
  | .c (.ow a b c) :: os, h, d, hd => by
    rcases List.mem_cons.1 hd with hd | hd
    · subst hd; rfl
    · exact vals_free hN (by simpa [cstB] using h) d hd
  | .c .top :: os, h, d, hd => by
    rcases List.mem_cons.1 hd with hd | hd
    · subst hd; rfl
    · exact vals_free hN (by simpa [cstB] using h) d hd
  | .c (.tup _) :: _, h, _, _ => by simp [cstB] at h
  | .c (.addr _ _ _ _) :: _, h, _, _ => by simp [cstB] at h
  | .c (.bs _ _ _ _ _) :: _, h, _, _ => by simp [cstB] at h
  | .c (.fn _ _) :: _, h, _, _ => by simp [cstB] at h
/-- It looks at boxes in a way that is seen, and allocates none. -/
def tame (i : Ins) : Bool := (clsAJ i.k || (atk i.k).isSome) && ((newBox i.k).isNone && (nolen i.k.core && cstB i.xs))
theorem degV_ment {k : Nat} {κ : Kd} {d : DV} (h : d.ment k = false) : (degV κ d).ment k = false := by
  unfold degV
  split
  · split
    · split
      · rfl
      · exact h
    · exact h
  · exact copy_ment h
theorem NoK.step {k : Nat} {i : Ins} (hi : tame i = true) {s s' : St} (hN : NoK k s) (h : StepK P i s s') : NoK k s' ∧ s'.b.length = s.b.length := by
  simp only [tame, Bool.and_eq_true] at hi
  obtain ⟨h1, _, _, h4⟩ := hi
  cases h with
  | ex v g m e =>
    have hv := vals_free hN h4
    obtain ⟨m1, m2⟩ := semJ_ment h1 hv hN.b m
    refine ⟨⟨fun d hd => ?_, m2⟩, (semJ_up h1 hv none m).2⟩
    rw [e] at hd
    obtain ⟨n, hn⟩ := List.getElem?_of_mem hd
    rw [U_get] at hn
    split at hn
    · cases hx : s.t[n]? with
      | none => rw [hx] at hn; simp at hn
      | some y => rw [hx] at hn; simp at hn; subst hn; exact m1
    · split at hn
      · cases hx : s.t[n]? with
        | none => rw [hx] at hn; simp at hn
        | some y => rw [hx] at hn; simp at hn; subst hn; exact degV_ment (hN.t y (List.mem_of_getElem? hx))
      · exact hN.t d (List.mem_of_getElem? hn)
  | sk g e =>
    subst e
    refine ⟨⟨fun d hd => ?_, hN.b⟩, rfl⟩
    cases hdd : i.d with
    | none => rw [hdd] at hd; exact hN.t d hd
    | some n =>
      rw [hdd] at hd
      rcases mem_setL hd with hd | hd
      · exact hN.t d hd
      · subst hd; rfl
/-- Behind an allocation. -/
def al (k size d : Nat) (zero : List DV) (s : St) : St := ⟨setL s.t d (.addr k size 0 0), setL s.b k (some ⟨true, size, [zero], false⟩)⟩
theorem get_off {i : Ins} {d : Nat} (h : d ∉ looks i) (t : List DV) (x : DV) : ∀ n, n ∈ looks i → getT (setL t d x) n = getT t n := by
  intro n hn
  rw [getT_eq, getT_eq, getElem?_setL, if_neg (fun e => h (by subst e; exact hn))]
theorem U_off {i : Ins} {d : Nat} (h : d ∉ looks i) (hd : i.d ≠ some d) (v x : DV) (t : List DV) : U i v (setL t d x) = setL (U i v t) d x := by
  apply List.ext_getElem?
  intro n
  rw [U_get, getElem?_setL, getElem?_setL, U_get]
  by_cases e : n = d
  · subst e
    have a2 : degS i.k.core i.xs ≠ some n := fun e' => h (looks_xs (degS_mem e'))
    simp [hd, a2]
  · simp [e]
theorem top_off {i : Ins} {d : Nat} (hd : i.d ≠ some d) (x : DV) (t : List DV) : putD (setL t d x) i.d (.tup []) = setL (putD t i.d (.tup [])) d x := by
  cases hi : i.d with
  | none => rfl
  | some e =>
    have hne : d ≠ e := fun e' => hd (by rw [hi, e'])
    simp only [putD]
    apply List.ext_getElem?
    intro n
    simp only [getElem?_setL]
    by_cases h1 : n = d
    · subst h1; simp [hne]
    · by_cases h2 : n = e
      · subst h2; simp [h1]
      · simp [h1, h2]
theorem al_right {k size d : Nat} {zero : List DV} {i : Ins} (hi : tame i = true) (hl : d ∉ looks i) (hd : i.d ≠ some d) {s s' : St} (hN : NoK k s) (h : StepK P i s s') : StepK P i (al k size d zero s) (al k size d zero s') := by
  simp only [tame, Bool.and_eq_true] at hi
  obtain ⟨h1, _, _, h4⟩ := hi
  have g := get_off hl s.t (.addr k size 0 0)
  cases h with
  | ex v g1 m e =>
    refine .ex v ((gOK_congr (t := s.t) (t' := (al k size d zero s).t) g).2 g1) ?_ ?_
    · rw [vals_congr (t := s.t) (t' := (al k size d zero s).t) g]
      exact (semJ_up h1 (vals_free hN h4) _ m).1
    · simp only [al]; rw [e, U_off hl hd]
  | sk g1 e =>
    subst e
    refine .sk ((gNo_congr (t := s.t) (t' := (al k size d zero s).t) g).2 g1) ?_
    simp only [al]; rw [top_off hd]
theorem al_left {k size d : Nat} {zero : List DV} {i : Ins} (hi : tame i = true) (hl : d ∉ looks i) (hd : i.d ≠ some d) {s s2 : St} (hN : NoK k s) (h : StepK P i (al k size d zero s) s2) : ∃ s', StepK P i s s' ∧ s2 = al k size d zero s' := by
  simp only [tame, Bool.and_eq_true] at hi
  obtain ⟨h1, _, _, h4⟩ := hi
  have g := get_off hl s.t (.addr k size 0 0)
  cases h with
  | ex v g1 m e =>
    rw [gOK_congr (t := s.t) (t' := (al k size d zero s).t) g] at g1
    rw [vals_congr (t := s.t) (t' := (al k size d zero s).t) g] at m
    obtain ⟨b', m1, m2, _⟩ := semJ_down h1 (vals_free hN h4) _ m
    refine ⟨⟨U i v s.t, b'⟩, .ex v g1 m1 rfl, ?_⟩
    obtain ⟨t2, b2⟩ := s2
    simp only [al] at e m2 ⊢
    rw [e, m2, U_off hl hd]
  | sk g1 e =>
    rw [gNo_congr (t := s.t) (t' := (al k size d zero s).t) g] at g1
    refine ⟨⟨putD s.t i.d (.tup []), s.b⟩, .sk g1 rfl, ?_⟩
    rw [e]
    simp only [al]; rw [top_off hd]
theorem NoK.al {k k' size d : Nat} {zero : List DV} (hne : k' ≠ k) (hz : ∀ x, x ∈ zero → x.ment k = false) {s : St} (hN : NoK k s) : NoK k (Vc.al k' size d zero s) := by
  refine ⟨fun x hx => ?_, FreeB.set hN.b fun _ r hr x hx => ?_⟩
  · rcases mem_setL hx with hx | hx
    · exact hN.t x hx
    · subst hx; simp [DV.ment, hne]
  · simp at hr; subst hr; exact hz x hx
theorem al_al {k k' size size' d d' : Nat} {zero zero' : List DV} (hk : k ≠ k') (hd : d ≠ d') (s : St) : al k size d zero (al k' size' d' zero' s) = al k' size' d' zero' (al k size d zero s) := by
  simp only [al]
  rw [setB_comm _ _ _ _ _ hk.symm]
  congr 1
  apply List.ext_getElem?
  intro n
  simp only [getElem?_setL]
  by_cases h1 : n = d
  · subst h1; simp [hd]
  · by_cases h2 : n = d'
    · subst h2; simp [h1]
    · simp [h1, h2]
end Go.Proofs.YtkjghcbnmipgfaaGreatDoor.Vc
namespace Go.Proofs.YtkjghcbnmipgfaaGreatDoor.Vc
open Go.RowKit
variable {P : Program}
theorem op_ok {G : Gl} {ops : Array Oper} {Q : Exit → Act → World → Prop} {K : St → Prop} {q : Nat} {o : Oper} {i : Ins} (ho' : ops[q]? = some o) (ti : TrI P ops o i)
    {s : St} {X : Cx} {a : Act} (h : Rel G X s a) (hK : execG P i s K) : wpOp P ops Q q (Post G K) a X.w := by
  simp only [wpOp, ho']
  obtain ⟨id, ig, ik, ixs⟩ := i
  have hd := ti.d
  have htr' := ti.tr
  have hg := ti.g
  simp only at hd htr' hg
  subst hd
  simp only [execG] at hK
  have go : ∀ {s : St}, Rel G X s a → exec P ⟨o.dst, ig, ik, ixs⟩ s K → o.wp P a X.w (Post G K) Q := fun h hK => execJ_ok h htr' hK
  cases hog : o.guard with
  | none =>
    rw [hog] at hg
    cases ig with
    | some _ => exact hg.elim
    | none =>
      have hw : Region.wanted o (yielded ops a.tmps) = true := by simp [Region.wanted, hog]
      rw [if_pos hw]
      exact .inl (go h hK)
  | some jw =>
    obtain ⟨j, want⟩ := jw
    rw [hog] at hg
    cases ig with
    | none => exact hg.elim
    | some tw =>
      obtain ⟨t, want'⟩ := tw
      obtain ⟨rfl, hj⟩ := hg
      simp only at hK
      have hv := h.get t
      generalize hgt : getT s.t t = dv at *
      cases dv with
      | p z =>
        cases z with
        | bool c =>
          simp only at hK
          have hlt : t < a.tmps.size := by
            rw [h.size]
            rcases Nat.lt_or_ge t s.t.length with h0 | h0
            · exact h0
            · rw [getT_eq, List.getElem?_eq_none h0] at hgt; cases hgt
          have hb := Flat.boolv hv
          have hy : yielded ops a.tmps j = some c := yielded_of hj hlt hb
          have hweak : Rel G X ⟨setL s.t t (.p (.bool c)), s.b⟩ a := h.weak t _ hv
          by_cases hcw : c = want
          · subst hcw
            rw [if_pos (by simp [Region.wanted, hog, hy])]
            exact .inl (go hweak (hK.1 rfl))
          · rw [if_neg (by simp [Region.wanted, hog, hy, hcw])]
            have e : c = !want := by cases c <;> cases want <;> simp at hcw ⊢
            have hKK := hK.2 e
            rw [e] at hweak
            exact ⟨_, _, hweak.put (d := o.dst) (v := .tup []) (fun _ _ => undef_tup), rfl, hKK⟩
        | _ => exact hK.elim
      | tup ds =>
        cases ds with
        | nil =>
          have hy := yielded_tup (ops := ops) hj hv
          rw [if_neg (by simp [Region.wanted, hog, hy])]
          exact ⟨_, _, h.put (d := o.dst) (v := .tup []) (fun _ _ => undef_tup), rfl, hK⟩
        | cons _ _ => exact hK.elim
      | _ => exact hK.elim
theorem execG_mono {i : Ins} {s : St} {K K' : St → Prop} (hk : ∀ s, K s → K' s) (h : execG P i s K) : execG P i s K' := by
  have ex : ∀ {s : St}, exec P i s K → exec P i s K' := fun ⟨h1, h2⟩ => ⟨h1, semJ_mono (fun v b h => hk _ h) h2⟩
  unfold execG at h ⊢
  split at h
  · exact ex h
  · split at h
    · exact ⟨fun hc => ex (h.1 hc), fun hc => hk _ (h.2 hc)⟩
    · exact hk _ h
    · exact h
theorem swapFront {i : Ins} {K : St → Prop} {post : List Ins} : ∀ {pre : List Ins}, (∀ j, j ∈ pre → indep j i = true) → ∀ {s : St}, execs P (pre ++ i :: post) s K → execG P i s (fun s => execs P (pre ++ post) s K)
  | [], _, _, h => h
  | p :: pre, hp, s, h => by
    have h1 : execG P p s (fun s' => execG P i s' (fun s'' => execs P (pre ++ post) s'' K)) :=
      execG_mono (fun s' hs' => swapFront (fun j hj => hp j (List.mem_cons_of_mem _ hj)) hs') h
    exact swap (hp p List.mem_cons_self) h1
def DownC (ops : Array Oper) (listed : Array Bool) : Prop :=
  ∀ (k : Nat) (o : Oper), listed.getD k false = true → ops[k]? = some o → ∀ e, e ∈ o.after → Region.binds .any e = true → listed.getD e.on false = true
def clEdges (acc : List Nat) : List Edge → Nat
  | [] => 0
  | e :: es => if Region.binds .any e then (2 ^ e.on ||| acc.getD e.on 0) ||| clEdges acc es else clEdges acc es
def clos : List Oper → List Nat → List Nat
  | [], acc => acc
  | o :: os, acc => clos os (acc ++ [clEdges acc o.after.toList])
theorem clEdges_bit {acc : List Nat} {j : Nat} : ∀ {es : List Edge}, (clEdges acc es).testBit j = true → ∃ e, e ∈ es ∧ Region.binds .any e = true ∧ (j = e.on ∨ (acc.getD e.on 0).testBit j = true)
  | [], h => by simp [clEdges] at h
  | e :: es, h => by
    simp only [clEdges] at h
    split at h
    · rename_i hb
      rw [Nat.testBit_or, Nat.testBit_or, Bool.or_eq_true, Bool.or_eq_true] at h
      rcases h with (h | h) | h
      · rw [Nat.testBit_two_pow] at h
        exact ⟨e, List.mem_cons_self, hb, .inl (by simpa [eq_comm] using h)⟩
      · exact ⟨e, List.mem_cons_self, hb, .inr h⟩
      · obtain ⟨e', h1, h2⟩ := clEdges_bit h
        exact ⟨e', List.mem_cons_of_mem _ h1, h2⟩
    · obtain ⟨e', h1, h2⟩ := clEdges_bit h
      exact ⟨e', List.mem_cons_of_mem _ h1, h2⟩
def RowsOK (ops : Array Oper) (rows : List Nat) : Prop :=
  ∀ (k : Nat) (r : Nat) (o : Oper), rows[k]? = some r → ops[k]? = some o → ∀ j, r.testBit j = true → ∀ listed, DownC ops listed → (∀ e, e ∈ o.after → Region.binds .any e = true → listed.getD e.on false = true) → listed.getD j false = true
theorem clos_ok {ops : Array Oper} : ∀ (os pre : List Oper) (acc : List Nat), pre ++ os = ops.toList → acc.length = pre.length → RowsOK ops acc → RowsOK ops (clos os acc)
  | [], _, _, _, _, h => h
  | o :: os, pre, acc, he, hl, h => by
    refine clos_ok os (pre ++ [o]) _ (by simpa using he) (by simp [hl]) fun k r o' hr ho j hj listed hd ha => ?_
    rw [List.getElem?_append] at hr
    by_cases hk : k < acc.length
    · rw [if_pos hk] at hr
      exact h k r o' hr ho j hj listed hd ha
    · rw [if_neg hk] at hr
      have hk0 : k - acc.length = 0 := by
        have := (List.getElem?_eq_some_iff.1 hr).1
        simp at this; exact this
      rw [hk0] at hr
      simp at hr
      subst hr
      have hke : k = pre.length := by omega
      have ho2 : o' = o := by
        have : ops.toList[k]? = some o' := by simpa using ho
        rw [← he, hke] at this
        simp at this
        exact this.symm
      subst ho2
      obtain ⟨e, h1, h2, h3⟩ := clEdges_bit hj
      have he' : e ∈ o'.after := by simpa using h1
      have hon := ha e he' h2
      rcases h3 with rfl | h3
      · exact hon
      · rw [List.getD_eq_getElem?_getD] at h3
        cases hrr : acc[e.on]? with
        | none => rw [hrr] at h3; simp at h3
        | some r' =>
          rw [hrr] at h3
          have hlt : e.on < ops.size := by
            have h1 := (List.getElem?_eq_some_iff.1 hrr).1
            have h2 : ops.size = pre.length + (os.length + 1) := by rw [← Array.length_toList, ← he]; simp
            omega
          exact h e.on r' ops[e.on] hrr (by simp [hlt]) j (by simpa using h3) listed hd (hd e.on ops[e.on] hon (by simp [hlt]))
/-- Each two are plainly independent, or bound in the order of the text. -/
def pairsW (ind : Ins → Ins → Bool) (ops : Array Oper) (is : List Ins) : Bool :=
  let rows := clos ops.toList []
  (List.range is.length).all fun i => (match ops[i]? with
      | some o => o.after.all fun e => !Region.binds .any e || decide (e.on < i)
      | none => false) &&
    (List.range i).all fun j => match is[j]?, is[i]?, rows[i]? with
      | some a, some b, some r => r.testBit j || ind a b
      | _, _, _ => false
def pairsB (ops : Array Oper) (is : List Ins) : Bool := pairsW indep ops is
theorem any_ok {ind : Ins → Ins → Bool} {Inv : List Ins → St → Prop} {K : St → Prop}
    (hsw : ∀ (pre : List Ins) (i : Ins) (post : List Ins) (s : St), (∀ j, j ∈ pre → ind j i = true) → Inv (pre ++ i :: post) s → execs P (pre ++ i :: post) s K → execG P i s (fun s' => execs P (pre ++ post) s' K ∧ Inv (pre ++ post) s'))
    {G : Gl} {ops : Array Oper} {is : List Ins} {Q : Exit → Act → World → Prop} (hl : ops.size = is.length)
    (htr : ∀ (k : Nat) i, is[k]? = some i → ∃ o, ops[k]? = some o ∧ TrI P ops o i) (hp : pairsW ind ops is = true) (hQ : ∀ s X a, Rel G X s a → K s → Q .normal a X.w) :
    ∀ (n : Nat) (rem : List (Nat × Ins)) (listed : Array Bool), rem.length = n → listed.size = ops.size → DownC ops listed → (∀ p, p ∈ rem → is[p.1]? = some p.2) → (rem.map (·.1)).Pairwise (· < ·) →
      (∀ j, j < ops.size → (listed.getD j true = false ↔ j ∈ rem.map (·.1))) →
      ∀ {s : St} {X : Cx} {a : Act}, Rel G X s a → Inv (rem.map (·.2)) s → execs P (rem.map (·.2)) s K → wpAny P .any ops Q n listed a X.w := by
  have hrows : RowsOK ops (clos ops.toList []) := clos_ok ops.toList [] [] rfl rfl (fun k r o h => by simp at h)
  have hback : ∀ (i : Nat) (o : Oper), ops[i]? = some o → ∀ e, e ∈ o.after → Region.binds .any e = true → e.on < i := by
    intro i o ho e he hb
    have hi : i < is.length := by rw [← hl]; exact (Array.getElem?_eq_some_iff.1 ho).1
    have := List.all_eq_true.1 hp i (by simpa using hi)
    simp only [Bool.and_eq_true, ho] at this
    have := Array.all_eq_true_iff_forall_mem.1 this.1 e he
    simpa [hb] using this
  intro n
  induction n with
  | zero =>
    intro rem listed hn hsz hd hmem hsort hun s X a h hI hK
    have : rem = [] := List.eq_nil_of_length_eq_zero hn
    subst this
    refine ⟨?_, hQ s X a h hK⟩
    refine List.eq_nil_iff_forall_not_mem.2 fun j hj => ?_
    obtain ⟨h1, o, h2, _⟩ := mem_ready.1 hj
    have := (hun j (Array.getElem?_eq_some_iff.1 h2).1).1 h1
    simp at this
  | succ n ih =>
    intro rem listed hn hsz hd hmem hsort hun s X a h hI hK
    have lis : ∀ j, j < ops.size → listed.getD j true = true → listed.getD j false = true := by
      intro j hj h1
      have hj' : j < listed.size := by omega
      simp [hj'] at h1 ⊢; exact h1
    have unl : ∀ j, j < ops.size → j ∈ rem.map (·.1) → listed.getD j false = false := by
      intro j hj h1
      have := (hun j hj).2 h1
      have hj' : j < listed.size := by omega
      simp [hj'] at this ⊢; exact this
    refine ⟨fun hr => ?_, fun i hi => ?_⟩
    · exfalso
      cases rem with
      | nil => simp at hn
      | cons p rem =>
        obtain ⟨j, ins⟩ := p
        have hj : is[j]? = some ins := hmem (j, ins) List.mem_cons_self
        obtain ⟨o, ho, _⟩ := htr j ins hj
        have hjlt := (Array.getElem?_eq_some_iff.1 ho).1
        have : j ∈ Region.ready .any ops listed := by
          refine mem_ready.2 ⟨(hun j hjlt).2 (by simp), o, ho, fun e he hb => ?_⟩
          have hlt := hback j o ho e he hb
          have hlt2 : e.on < ops.size := by omega
          refine lis e.on hlt2 ?_
          cases hc : listed.getD e.on true with
          | true => rfl
          | false =>
            have hin := (hun e.on hlt2).1 hc
            simp only [List.map_cons, List.mem_cons] at hin
            rw [List.map_cons, List.pairwise_cons] at hsort
            rcases hin with hin | hin
            · omega
            · have := hsort.1 _ hin; omega
        rw [hr] at this
        cases this
    · obtain ⟨h1, o, ho, hall⟩ := mem_ready.1 hi
      have hilt := (Array.getElem?_eq_some_iff.1 ho).1
      have hin := (hun i hilt).1 h1
      obtain ⟨p, hpm, hpi⟩ := List.mem_map.1 hin
      obtain ⟨pre, post, hsp⟩ := List.append_of_mem hpm
      obtain ⟨i', ins⟩ := p
      simp only at hpi
      subst hpi
      subst hsp
      have hins : is[i']? = some ins := hmem (i', ins) (by simp)
      obtain ⟨o', ho', ti⟩ := htr i' ins hins
      have hind : ∀ j, j ∈ pre.map (·.2) → ind j ins = true := by
        intro j hj
        obtain ⟨q, hq, rfl⟩ := List.mem_map.1 hj
        have hqs := hmem q (by simp [hq])
        have hqlt : q.1 < i' := by
          rw [List.map_append, List.map_cons, List.pairwise_append] at hsort
          exact hsort.2.2 q.1 (List.mem_map_of_mem hq) i' (by simp)
        have hq2 : q.1 < ops.size := by omega
        have hc := List.all_eq_true.1 hp i' (by simpa [← hl] using hilt)
        simp only [Bool.and_eq_true] at hc
        have hc := List.all_eq_true.1 hc.2 q.1 (by simpa using hqlt)
        rw [hqs, hins] at hc
        cases hr : (clos ops.toList [])[i']? with
        | none => simp [hr] at hc
        | some r =>
          simp only [hr, Bool.or_eq_true] at hc
          rcases hc with hc | hc
          · exfalso
            have t1 := hrows i' r o hr ho q.1 hc listed hd hall
            rw [unl q.1 hq2 (by simp; exact .inl ⟨q.2, hq⟩)] at t1
            cases t1
          · exact hc
      have hK' : execG P ins s (fun s => execs P (pre.map (·.2) ++ post.map (·.2)) s K ∧ Inv (pre.map (·.2) ++ post.map (·.2)) s) := by
        rw [List.map_append, List.map_cons] at hK hI
        exact hsw _ _ _ _ hind hI hK
      refine wpOp_mono (fun a' w' ⟨s', X', h', e', k', i''⟩ => ?_) (op_ok ho' ti h hK')
      subst e'
      refine ih (pre ++ post) _ (by simp at hn ⊢; omega) (by simp [hsz]) ?_ (fun p hp => hmem p (by
        rcases List.mem_append.1 hp with hp | hp
        · simp [hp]
        · simp [hp])) ?_ ?_ h' (by rw [List.map_append]; exact i'') (by rw [List.map_append]; exact k')
      · intro k ok hk hok e he hb
        by_cases hki : k = i'
        · subst hki
          rw [ho] at hok
          injection hok with hok
          subst hok
          exact getD_set_true (hall e he hb)
        · rw [getD_set_ne false (fun h => hki h.symm)] at hk
          exact getD_set_true (hd k ok hk hok e he hb)
      · rw [List.map_append, List.map_cons, List.pairwise_append] at hsort
        rw [List.map_append, List.pairwise_append]
        refine ⟨hsort.1, (List.pairwise_cons.1 hsort.2.1).2, fun x hx y hy => hsort.2.2 x hx y (List.mem_cons_of_mem _ hy)⟩
      · intro j hj
        have hnd : i' ∉ (pre ++ post).map (·.1) := by
          rw [List.map_append, List.map_cons, List.pairwise_append] at hsort
          rw [List.map_append]
          intro hm
          rcases List.mem_append.1 hm with hm | hm
          · exact Nat.lt_irrefl _ (hsort.2.2 i' hm i' (by simp))
          · exact Nat.lt_irrefl _ ((List.pairwise_cons.1 hsort.2.1).1 i' hm)
        by_cases hji : j = i'
        · subst hji
          have : j < listed.size := by omega
          constructor
          · intro hc; simp [this] at hc
          · intro hc; exact absurd hc hnd
        · rw [getD_set_ne true (fun h => hji h.symm), hun j hj]
          simp [hji]
/-- A region whose order is drawn. -/
theorem execs_drawW {ind : Ins → Ins → Bool} {Inv : List Ins → St → Prop} {K : St → Prop}
    (hsw : ∀ (pre : List Ins) (i : Ins) (post : List Ins) (s : St), (∀ j, j ∈ pre → ind j i = true) → Inv (pre ++ i :: post) s → execs P (pre ++ i :: post) s K → execG P i s (fun s' => execs P (pre ++ post) s' K ∧ Inv (pre ++ post) s'))
    {G : Gl} {id : Nat} {ops : Array Oper} {is : List Ins} {Q : Exit → Act → World → Prop} (hm : P.follows .mixedOrders = true) (hl : ops.size = is.length)
    (htr : ∀ (k : Nat) i, is[k]? = some i → ∃ o, ops[k]? = some o ∧ TrI P ops o i) (hp : pairsW ind ops is = true) (hQ : ∀ s X a, Rel G X s a → K s → Q .normal a X.w) {s : St} {X : Cx} {a : Act} (h : Rel G X s a) (hI : Inv is s) (hK : execs P is s K) :
    (Code.region id ops true).wp P Q a X.w := by
  refine wp_region_any hm ?_
  have hX : Rel G { X with w := { X.w with drawn := X.w.drawn + 1 } } s a := by
    have hcell : ∀ b o, World.cell? { X.w with drawn := X.w.drawn + 1 } ⟨b, o, none⟩ = X.w.cell? ⟨b, o, none⟩ := fun b o => World.cell?_of_block rfl
    refine h.change (fun _ => True) (fun _ _ h => h) ⟨fun b o v hM hc => ⟨(hcell b o).trans hc, hM⟩, fun g L hg _ _ => ⟨hg, rfl, fun _ h => h⟩, rfl⟩ (fun i d hd => .inl ⟨trivial, fun _ _ => rfl⟩)
      (fun k bx hk => .inl ⟨trivial, fun _ _ => trivial, rfl, fun _ _ _ _ _ _ => rfl⟩) ⟨rfl, rfl, rfl, Nat.le_refl _, fun _ _ => rfl⟩ (fun b _ o => Iff.rfl)
  refine any_ok hsw (X := { X with w := { X.w with drawn := X.w.drawn + 1 } }) hl htr hp hQ ops.size (is.zipIdx.map fun p => (p.2, p.1)) _ (by simp [hl]) (by simp) ?_ ?_ ?_ ?_ hX ?_ ?_
  · intro k o hk
    by_cases hlt : k < ops.size
    · simp [hlt] at hk
    · simp [hlt] at hk
  · intro p hpm
    obtain ⟨q, hq, rfl⟩ := List.mem_map.1 hpm
    have := List.mem_zipIdx hq
    simp at this
    simp only
    rw [List.getElem?_eq_getElem (by omega)]
    simp [this.2]
  · have : (is.zipIdx.map fun p => (p.2, p.1)).map (·.1) = List.range is.length := by
      rw [List.map_map]
      have e : ((fun x => x.1) ∘ fun (p : Ins × Nat) => (p.2, p.1)) = Prod.snd := rfl
      rw [e, List.zipIdx_map_snd, List.range_eq_range']
    rw [this]
    exact List.pairwise_lt_range
  · intro j hj
    have : (is.zipIdx.map fun p => (p.2, p.1)).map (·.1) = List.range is.length := by
      rw [List.map_map]
      have e : ((fun x => x.1) ∘ fun (p : Ins × Nat) => (p.2, p.1)) = Prod.snd := rfl
      rw [e, List.zipIdx_map_snd, List.range_eq_range']
    rw [this]
    simp [hj, ← hl]
  · have : (is.zipIdx.map fun p => (p.2, p.1)).map (·.2) = is := by
      rw [List.map_map]
      have e : ((fun x => x.2) ∘ fun (p : Ins × Nat) => (p.2, p.1)) = Prod.fst := rfl
      rw [e, List.zipIdx_map_fst]
    rw [this]; exact hI
  · have : (is.zipIdx.map fun p => (p.2, p.1)).map (·.2) = is := by
      rw [List.map_map]
      have e : ((fun x => x.2) ∘ fun (p : Ins × Nat) => (p.2, p.1)) = Prod.fst := rfl
      rw [e, List.zipIdx_map_fst]
    rw [this]; exact hK
theorem execs_draw {G : Gl} {id : Nat} {ops : Array Oper} {is : List Ins} {Q : Exit → Act → World → Prop} {K : St → Prop} (hm : P.follows .mixedOrders = true) (hl : ops.size = is.length)
    (htr : ∀ (k : Nat) i, is[k]? = some i → ∃ o, ops[k]? = some o ∧ TrI P ops o i) (hp : pairsB ops is = true) (hQ : ∀ s X a, Rel G X s a → K s → Q .normal a X.w) {s : St} {X : Cx} {a : Act} (h : Rel G X s a) (hK : execs P is s K) :
    (Code.region id ops true).wp P Q a X.w :=
  execs_drawW (ind := indep) (Inv := fun _ _ => True) (fun pre i post s hind _ hK => execG_mono (fun s h => ⟨h, trivial⟩) (swapFront hind hK)) hm hl htr hp hQ h trivial hK
end Go.Proofs.YtkjghcbnmipgfaaGreatDoor.Vc
namespace Go.Proofs.YtkjghcbnmipgfaaGreatDoor.Vc
open Go.RowKit
variable {P : Program}
def zeroB : List DV → Bool
  | [] => true
  | .p _ :: ds | .ow _ _ _ :: ds | .top :: ds => zeroB ds
  | _ => false
theorem zeroB_ok {k : Nat} : ∀ {ds : List DV}, zeroB ds = true → ∀ d, d ∈ ds → d.ment k = false
  | [], _, d, hd => by simp at hd
  | .p x :: ds, h, d, hd => by
    rcases List.mem_cons.1 hd with hd | hd
    · subst hd; rfl
    · exact zeroB_ok (by simpa [zeroB] using h) d hd
  | .ow a b c :: ds, h, d, hd => by
    rcases List.mem_cons.1 hd with hd | hd
    · subst hd; rfl
    · exact zeroB_ok (by simpa [zeroB] using h) d hd
  | .top :: ds, h, d, hd => by
    rcases List.mem_cons.1 hd with hd | hd
    · subst hd; rfl
    · exact zeroB_ok (by simpa [zeroB] using h) d hd
  | .tup _ :: _, h, _, _ => by simp [zeroB] at h
  | .addr _ _ _ _ :: _, h, _, _ => by simp [zeroB] at h
  | .bs _ _ _ _ _ :: _, h, _, _ => by simp [zeroB] at h
  | .fn _ _ :: _, h, _, _ => by simp [zeroB] at h
/-- A plain allocation. -/
structure Al (i : Ins) (k size d : Nat) (zero : List DV) : Prop where
  k : i.k = .alloc k size zero
  g : i.g = none
  x : i.xs = []
  d : i.d = some d
  z : zeroB zero = true
def alB (i : Ins) : Option (Nat × Nat × Nat × List DV) :=
  match i with
  | ⟨some d, none, .alloc k size zero, []⟩ => if zeroB zero then some (k, size, d, zero) else none
  | _ => none
theorem alB_ok {i : Ins} {k size d : Nat} {zero : List DV} (h : alB i = some (k, size, d, zero)) : Al i k size d zero := by
  unfold alB at h
  split at h
  · split at h
    · rename_i hz
      simp at h
      obtain ⟨rfl, rfl, rfl, rfl⟩ := h
      exact ⟨rfl, rfl, rfl, rfl, hz⟩
    · cases h
  · cases h
def okI (i : Ins) : Bool := (alB i).isSome || tame i
def indepA (p i : Ins) : Bool :=
  match alB p, alB i with
  | none, none => indep p i
  | some (_, _, d, _), none => !(looks i).contains d && i.d != some d
  | none, some (_, _, d, _) => !(looks p).contains d && p.d != some d
  | some (k, _, d, _), some (k', _, d', _) => k != k' && d != d'
structure InvA (l : List Ins) (s : St) : Prop where
  ok : ∀ i, i ∈ l → okI i = true
  dis : (l.filterMap fun i => (alB i).map (·.1)).Nodup
  no : ∀ i, i ∈ l → ∀ k size d zero, alB i = some (k, size, d, zero) → NoK k s ∧ k < s.b.length
theorem tame_of {i : Ins} (h : okI i = true) (ha : alB i = none) : tame i = true := by simpa [okI, ha] using h
theorem tame_iff {i : Ins} (h : tame i = true) {s : St} {K : St → Prop} : execG P i s K ↔ ∃ s', StepK P i s s' ∧ K s' := by
  simp only [tame, Bool.and_eq_true, Option.isNone_iff_eq_none] at h
  rw [execG_iff h.2.1 h.2.2.1]
  exact ⟨fun ⟨s', a, b⟩ => ⟨s', stepI_iff.1 a, b⟩, fun ⟨s', a, b⟩ => ⟨s', stepI_iff.2 a, b⟩⟩
theorem al_iff {i : Ins} {k size d : Nat} {zero : List DV} (h : Al i k size d zero) {s : St} (hN : NoK k s) (hlt : k < s.b.length) {K : St → Prop} : execG P i s K ↔ (zero.length = size ∧ K (al k size d zero s)) :=
  execG_al h.k h.g h.x h.d hN hlt
/-- A step keeps what is asked for the others. -/
theorem InvA.step {x : Ins} {l1 l2 : List Ins} {s : St} {K : St → Prop} (hI : InvA (l1 ++ x :: l2) s) (h : execG P x s K) : execG P x s (fun s' => K s' ∧ InvA (l1 ++ l2) s') := by
  have hx : x ∈ l1 ++ x :: l2 := by simp
  have hsub : ∀ i, i ∈ l1 ++ l2 → i ∈ l1 ++ x :: l2 := by
    intro i hi
    rcases List.mem_append.1 hi with hi | hi
    · simp [hi]
    · simp [hi]
  have hdis : ((l1 ++ l2).filterMap fun i => (alB i).map (·.1)).Nodup := by
    refine hI.dis.sublist (List.Sublist.filterMap _ ?_)
    exact List.Sublist.append (List.Sublist.refl _) (List.sublist_cons_self _ _)
  cases ha : alB x with
  | none =>
    have ht := tame_of (hI.ok x hx) ha
    obtain ⟨s', h1, h2⟩ := (tame_iff ht).1 h
    refine (tame_iff ht).2 ⟨s', h1, h2, fun i hi => hI.ok i (hsub i hi), hdis, fun i hi k size d zero hk => ?_⟩
    obtain ⟨n1, n2⟩ := hI.no i (hsub i hi) k size d zero hk
    obtain ⟨m1, m2⟩ := n1.step ht h1
    exact ⟨m1, by rw [m2]; exact n2⟩
  | some q =>
    obtain ⟨k, size, d, zero⟩ := q
    have hA := alB_ok ha
    obtain ⟨n1, n2⟩ := hI.no x hx k size d zero ha
    rw [al_iff hA n1 n2] at h ⊢
    refine ⟨h.1, h.2, fun i hi => hI.ok i (hsub i hi), hdis, fun i hi k' size' d' zero' hk => ?_⟩
    obtain ⟨m1, m2⟩ := hI.no i (hsub i hi) k' size' d' zero' hk
    have hne : k ≠ k' := by
      intro e
      subst e
      have hd := hI.dis
      rw [List.filterMap_append, List.filterMap_cons, ha] at hd
      simp only [Option.map_some] at hd
      rw [List.nodup_append] at hd
      rcases List.mem_append.1 hi with hi | hi
      · exact hd.2.2 k (List.mem_filterMap.2 ⟨i, hi, by rw [hk]; rfl⟩) k (by simp) rfl
      · exact (List.nodup_cons.1 hd.2.1).1 (List.mem_filterMap.2 ⟨i, hi, by rw [hk]; rfl⟩)
    exact ⟨m1.al hne (zeroB_ok hA.z), by simp [al, setL_length]; exact m2⟩
theorem swapA {p i : Ins} (h : indepA p i = true) {l1 l2 l3 : List Ins} {s : St} {K : St → Prop} (hI : InvA (l1 ++ p :: (l2 ++ i :: l3)) s) (hx : execG P p s (fun s => execG P i s K)) : execG P i s (fun s => execG P p s K) := by
  have mp : p ∈ l1 ++ p :: (l2 ++ i :: l3) := by simp
  have mi : i ∈ l1 ++ p :: (l2 ++ i :: l3) := by simp
  unfold indepA at h
  cases hp : alB p with
  | none =>
    have tp := tame_of (hI.ok p mp) hp
    cases hi : alB i with
    | none => rw [hp, hi] at h; exact swap h hx
    | some q =>
      obtain ⟨k, size, d, zero⟩ := q
      rw [hp, hi] at h
      simp only [Bool.and_eq_true, Bool.not_eq_true', bne_iff_ne, ne_eq] at h
      have hA := alB_ok hi
      obtain ⟨n1, n2⟩ := hI.no i mi k size d zero hi
      obtain ⟨s1, h1, h2⟩ := (tame_iff tp).1 hx
      obtain ⟨m1, m2⟩ := n1.step tp h1
      rw [al_iff hA m1 (by rw [m2]; exact n2)] at h2
      rw [al_iff hA n1 n2]
      exact ⟨h2.1, (tame_iff tp).2 ⟨_, al_right tp (by simpa using h.1) h.2 n1 h1, h2.2⟩⟩
  | some q =>
    obtain ⟨k, size, d, zero⟩ := q
    have hA := alB_ok hp
    obtain ⟨n1, n2⟩ := hI.no p mp k size d zero hp
    rw [al_iff hA n1 n2] at hx
    cases hi : alB i with
    | none =>
      have ti := tame_of (hI.ok i mi) hi
      rw [hp, hi] at h
      simp only [Bool.and_eq_true, Bool.not_eq_true', bne_iff_ne, ne_eq] at h
      obtain ⟨s2, h1, h2⟩ := (tame_iff ti).1 hx.2
      obtain ⟨s', h3, h4⟩ := al_left ti (by simpa using h.1) h.2 n1 h1
      subst h4
      obtain ⟨m1, m2⟩ := n1.step ti h3
      refine (tame_iff ti).2 ⟨s', h3, ?_⟩
      rw [al_iff hA m1 (by rw [m2]; exact n2)]
      exact ⟨hx.1, h2⟩
    | some q' =>
      obtain ⟨k', size', d', zero'⟩ := q'
      have hA' := alB_ok hi
      rw [hp, hi] at h
      simp only [Bool.and_eq_true, bne_iff_ne, ne_eq] at h
      obtain ⟨n1', n2'⟩ := hI.no i mi k' size' d' zero' hi
      have hx2 := hx.2
      rw [al_iff hA' (n1'.al h.1 (zeroB_ok hA.z)) (by simp [al, setL_length]; exact n2')] at hx2
      rw [al_iff hA' n1' n2']
      refine ⟨hx2.1, ?_⟩
      rw [al_iff hA (n1.al (fun e => h.1 e.symm) (zeroB_ok hA'.z)) (by simp [al, setL_length]; exact n2)]
      refine ⟨hx.1, ?_⟩
      rw [al_al h.1 h.2]; exact hx2.2
theorem swapFrontA {i : Ins} {K : St → Prop} {post : List Ins} : ∀ {pre : List Ins}, (∀ j, j ∈ pre → indepA j i = true) → ∀ {s : St}, InvA (pre ++ i :: post) s → execs P (pre ++ i :: post) s K → execG P i s (fun s => execs P (pre ++ post) s K)
  | [], _, _, _, h => h
  | p :: pre, hp, s, hI, h => by
    have h0 : execG P p s (fun s' => execs P (pre ++ i :: post) s' K ∧ InvA (pre ++ i :: post) s') := InvA.step (l1 := []) hI h
    have h1 : execG P p s (fun s' => execG P i s' (fun s'' => execs P (pre ++ post) s'' K)) :=
      execG_mono (fun s' hs' => swapFrontA (fun j hj => hp j (List.mem_cons_of_mem _ hj)) hs'.2 hs'.1) h0
    exact swapA (l1 := []) (hp p List.mem_cons_self) hI h1
theorem execs_drawA {G : Gl} {id : Nat} {ops : Array Oper} {is : List Ins} {Q : Exit → Act → World → Prop} {K : St → Prop} (hm : P.follows .mixedOrders = true) (hl : ops.size = is.length)
    (htr : ∀ (k : Nat) i, is[k]? = some i → ∃ o, ops[k]? = some o ∧ TrI P ops o i) (hp : pairsW indepA ops is = true) (hQ : ∀ s X a, Rel G X s a → K s → Q .normal a X.w) {s : St} {X : Cx} {a : Act} (h : Rel G X s a) (hI : InvA is s) (hK : execs P is s K) :
    (Code.region id ops true).wp P Q a X.w :=
  execs_drawW (ind := indepA) (Inv := InvA) (fun _ _ _ _ hind hI hK => hI.step (swapFrontA hind hI hK)) hm hl htr hp hQ h hI hK
/-- What is asked of the state ahead of such a region, by evaluation. -/
def invB (is : List Ins) (s : St) : Bool :=
  is.all fun i => match alB i with
    | some (k, _, _, _) => decide (k < s.b.length) && (noRefT k s.t && noRefB k 0 s.b)
    | none => true
def stB (is : List Ins) : Bool := is.all okI && decide (is.filterMap fun i => (alB i).map (·.1)).Nodup
theorem invA_of {is : List Ins} {s : St} (h1 : stB is = true) (h2 : invB is s = true) : InvA is s := by
  simp only [stB, Bool.and_eq_true, decide_eq_true_eq, List.all_eq_true] at h1
  refine ⟨h1.1, h1.2, fun i hi k size d zero hk => ?_⟩
  have := List.all_eq_true.1 h2 i hi
  rw [hk] at this
  simp only [Bool.and_eq_true, decide_eq_true_eq] at this
  obtain ⟨t1, t2, t3⟩ := this
  refine ⟨⟨noRefT_iff.1 t2, fun j bx hj hne r hr x hx => ?_⟩, t1⟩
  exact noRefR_iff.1 (noRefB_iff.1 t3 j bx hj (by simpa using hne)) r hr x hx
end Go.Proofs.YtkjghcbnmipgfaaGreatDoor.Vc
