/- Part of a proof over a Go program: VcComp, VcEv, Fn2. No condition. -/
import Derived.Test.YtoepoghmeajocaaGreatDoorQ09
import Derived.Test.YtoepoghmeajocaaGreatDoorProg
set_option linter.unnecessarySimpa false
set_option linter.unusedSectionVars false
set_option linter.unusedSimpArgs false
set_option linter.unusedVariables false
namespace Go.Proofs.YtoepoghmeajocaaGreatDoor.Vc
open Go.RowKit
variable {P : Program}
def bO : Operand → O → Bool
 | .tmp n, .t m => n == m
 | .const (.int k n), .c (.p (.int k' n')) => decide (k = k') && n == n'
 | .const (.bool b), .c (.p (.bool b')) => b == b'
 | .const (.string s), .c (.p (.str s')) => decide (s.data.toList = s'.data.toList)
 | .const (.slice none 0 0), .c (.ow _ true []) => true
 | .const (.slice none 0 0), .c (.p (.sl _ true [])) => true
 | .func f, .c (.p (.fn f' [])) => f == f'
 | .const .nilIface, .c (.p (.atom .nilIface)) => true
 | .const (.pointer none), .c (.p (.atom (.pointer none))) => true
 | .const (.map none), .c (.p (.atom (.map none))) => true
 | _, .c .top => true
 | _, _ => false
theorem ba_ext {s t : ByteArray} (h : s.data.toList = t.data.toList) : s = t := by
 obtain ⟨⟨a⟩⟩ := s
 obtain ⟨⟨b⟩⟩ := t
 simp at h; subst h; rfl
theorem bO_ok {x : Operand} {o : O} (h : bO x o = true) : OT x o := by
 unfold bO at h
 split at h
 ·simp at h; subst h; exact .tmp _
 ·simp at h; obtain ⟨rfl, rfl⟩ := h; exact .int _ _
 ·simp at h; subst h; exact .bool _
 ·simp only [decide_eq_true_eq] at h; rw [ba_ext h]; exact .str _
 ·exact .nil _
 ·exact .nilp _
 ·simp at h; subst h; exact .func _
 ·exact .atom _ rfl
 ·exact .atom _ rfl
 ·exact .atom _ rfl
 ·exact .any _
 ·cases h
def bOs : List Operand → List O → Bool
 | [], [] => true
 | x :: xs, o :: os => bO x o && bOs xs os
 | _, _ => false
theorem bOs_ok : ∀ {xs : List Operand} {os : List O}, bOs xs os = true → os.length = xs.length ∧ ∀ (k : Nat) x oo, xs[k]? = some x → os[k]? = some oo → OT x oo
 | [], [], _ => ⟨rfl, fun k x oo h => by simp at h⟩
 | x :: xs, o :: os, h => by
  simp only [bOs, Bool.and_eq_true] at h
  obtain ⟨e1, e2⟩ := bOs_ok h.2
  refine ⟨by simp [e1], fun k y oo hy ho => ?_⟩
  cases k with
  | zero => simp at hy ho; subst hy; subst ho; exact bO_ok h.1
  | succ k => exact e2 k y oo (by simpa using hy) (by simpa using ho)
 | [], _ :: _, h => by simp [bOs] at h
 | _ :: _, [], h => by simp [bOs] at h
def isAD : TypeDesc → Bool
 | .struct _ | .array _ _ => true
 | _ => false
def bTy (P : Program) (t : TypeId) (n : Nat) (isA : Bool) : Bool :=
 match P.info? t, P.underlying t with
 | some i, some d => i.size == n && isAD d == isA
 | _, _ => false
theorem bTy_ok {t : TypeId} {n : Nat} {isA : Bool} (h : bTy P t n isA = true) : TyIs P t n isA := by
 unfold bTy at h
 split at h
 ·rename_i i d hi hd
  simp at h
  exact ⟨⟨i, hi, h.1⟩, ⟨d, hd, h.2⟩⟩
 ·cases h
def bZ : DV → Value → Bool
 | .p (.int k n), .int k' n' => decide (k = k') && n == n'
 | .p (.bool b), .bool b' => b == b'
 | .p (.str s), .string s' => decide (s.data.toList = s'.data.toList)
 | .ow _ true [], .slice none 0 0 => true
 | .p (.atom (.pointer none)), .pointer none => true
 | .p (.atom (.map none)), .map none => true
 | .top, v => v.oneCell'
 | _, _ => false
theorem bZ_ok {d : DV} {v : Value} (h : bZ d v = true) : ZR d v := by
 unfold bZ at h
 split at h
 ·simp at h; obtain ⟨rfl, rfl⟩ := h; exact .int _ _
 ·simp at h; subst h; exact .bool _
 ·simp only [decide_eq_true_eq] at h; rw [ba_ext h]; exact .str _
 ·exact .nil _
 ·exact .atom _ rfl
 ·exact .atom _ rfl
 ·exact .top _ h
 ·cases h
def bZs : List DV → List Value → Bool
 | [], [] => true
 | d :: ds, v :: vs => bZ d v && bZs ds vs
 | _, _ => false
theorem bZs_ok' : ∀ {ds : List DV} {vs : List Value}, bZs ds vs = true → vs.length = ds.length ∧ ∀ (i : Nat) d v, ds[i]? = some d → vs[i]? = some v → ZR d v
 | [], [], _ => ⟨rfl, fun i d v h => by simp at h⟩
 | d :: ds, v :: vs, h => by
  simp only [bZs, Bool.and_eq_true] at h
  obtain ⟨e1, e2⟩ := bZs_ok' h.2
  refine ⟨by simp [e1], fun i y u hy ho => ?_⟩
  cases i with
  | zero => simp at hy ho; subst hy; subst ho; exact bZ_ok h.1
  | succ i => exact e2 i y u (by simpa using hy) (by simpa using ho)
 | [], _ :: _, h => by simp [bZs] at h
 | _ :: _, [], h => by simp [bZs] at h
theorem bZs_ok {ds : List DV} {vs : Array Value} (h : bZs ds vs.toList = true) : ZRs ds vs :=
 ⟨by have := (bZs_ok' h).1; simpa using this, fun i d v hd hv => (bZs_ok' h).2 i d v hd (by simpa using hv)⟩
def bZP : PV → Value → Bool
 | .int k n, .int k' n' => decide (k = k') && n == n'
 | .bool b, .bool b' => b == b'
 | .str s, .string s' => decide (s.data.toList = s'.data.toList)
 | .sl _ true [], .slice none 0 0 => true
 | .atom (.pointer none), .pointer none => true
 | _, _ => false
theorem bZP_ok {d : PV} {v : Value} (h : bZP d v = true) : ZP d v := by
 unfold bZP at h
 split at h
 ·simp at h; obtain ⟨rfl, rfl⟩ := h; exact .int _ _
 ·simp at h; subst h; exact .bool _
 ·simp only [decide_eq_true_eq] at h; rw [ba_ext h]; exact .str _
 ·exact .nil _
 ·exact .atom _ rfl
 ·cases h
def bZPs : List PV → List Value → Bool
 | [], [] => true
 | d :: ds, v :: vs => bZP d v && bZPs ds vs
 | _, _ => false
theorem bZPs_ok : ∀ {ds : List PV} {vs : List Value}, bZPs ds vs = true → vs.length = ds.length ∧ ∀ (i : Nat) d v, ds[i]? = some d → vs[i]? = some v → ZP d v
 | [], [], _ => ⟨rfl, fun i d v h => by simp at h⟩
 | d :: ds, v :: vs, h => by
  simp only [bZPs, Bool.and_eq_true] at h
  obtain ⟨e1, e2⟩ := bZPs_ok h.2
  refine ⟨by simp [e1], fun i y u hy ho => ?_⟩
  cases i with
  | zero => simp at hy ho; subst hy; subst ho; exact bZP_ok h.1
  | succ i => exact e2 i y u (by simpa using hy) (by simpa using ho)
 | [], _ :: _, h => by simp [bZPs] at h
 | _ :: _, [], h => by simp [bZPs] at h
def bFlds (P : Program) : List Field → Nat → Bool
 | [], _ => true
 | f :: fs, j => f.name != "_" && (decide (f.offset = j) && ((match P.underlying f.type with | some (.int _) => true | _ => false) && (bTy P f.type 1 false && bFlds P fs (j + 1))))
theorem bFlds_ok {fs : List Field} : ∀ {j : Nat}, bFlds P fs j = true → ∀ (i : Nat) f, fs[i]? = some f → f.name ≠ "_" ∧ f.offset = j + i ∧ (∃ k, P.underlying f.type = some (.int k)) ∧ TyIs P f.type 1 false := by
 induction fs with
 | nil => intro j _ i f hf; simp at hf
 | cons g fs ih =>
  intro j h i f hf
  simp only [bFlds, Bool.and_eq_true, decide_eq_true_eq, bne_iff_ne] at h
  obtain ⟨h1, h2, h3, h4, h5⟩ := h
  cases i with
  | zero =>
   cases hf
   refine ⟨h1, h2, ?_, bTy_ok h4⟩
   split at h3
   ·exact ⟨_, ‹_›⟩
   ·cases h3
  | succ i =>
   have := ih h5 i f hf
   rw [Nat.add_assoc, Nat.add_comm 1 i] at this
   exact this
theorem fieldsOf_eq {t : TypeId} {fs : Array Field} (h : P.underlying t = some (.struct fs)) : P.fieldsOf t = fs := by simp [Program.fieldsOf, h]
def bOffs (places : List (Nat × Nat)) (n : Nat) : List (Nat × Operand) → List (Nat × Nat) → Bool
 | [], [] => true
 | p :: ps, o :: os => decide (places[p.1]? = some o) && decide (o.1 + o.2 ≤ n) && bOffs places n ps os
 | _, _ => false
theorem bOffs_ok {places : List (Nat × Nat)} {n : Nat} : ∀ {ps : List (Nat × Operand)} {os : List (Nat × Nat)}, bOffs places n ps os = true → ps.length = os.length ∧
  ∀ (k : Nat) (p : Nat × Operand) (o : Nat × Nat), ps[k]? = some p → os[k]? = some o → places[p.1]? = some o ∧ o.1 + o.2 ≤ n
 | [], [], _ => ⟨rfl, fun i d v h => by simp at h⟩
 | d :: ds, v :: vs, h => by
  simp only [bOffs, Bool.and_eq_true, decide_eq_true_eq] at h
  obtain ⟨e1, e2⟩ := bOffs_ok h.2
  refine ⟨by simp [e1], fun i y u hy ho => ?_⟩
  cases i with
  | zero => simp at hy ho; subst hy; subst ho; exact h.1
  | succ i => exact e2 i y u (by simpa using hy) (by simpa using ho)
 | [], _ :: _, h => by simp [bOffs] at h
 | _ :: _, [], h => by simp [bOffs] at h
def bSeq : Nat → List (Nat × Operand) → Bool
 | _, [] => true
 | k, p :: ps => p.1 == k && bSeq (k + 1) ps
theorem bSeq_ok : ∀ {k : Nat} {ps : List (Nat × Operand)}, bSeq k ps = true → ps = ((ps.map (·.2)).zipIdx k).map fun x => (x.2, x.1)
 | _, [], _ => rfl
 | k, p :: ps, h => by
  simp only [bSeq, Bool.and_eq_true, beq_iff_eq] at h
  obtain ⟨rfl, h2⟩ := h
  have := bSeq_ok h2
  simp only [List.map_cons, List.zipIdx_cons, ← this]
def bZV : PV → Value → Bool
 | .agg cs, .agg vs => bZPs cs vs.toList
 | c, v => bZP c v
theorem bZV_ok {c : PV} {v : Value} (h : bZV c v = true) : ZV c v := by
 unfold bZV at h
 split at h
 ·obtain ⟨z1, z2⟩ := bZPs_ok h
  exact .agg _ _ (by simpa using z1) fun i c v hc hv => z2 i c v hc (by simpa using hv)
 ·exact .one _ _ (bZP_ok h)
def bKey (P : Program) (kt : TypeId) : Option IntKind → Bool
 | some q => match P.underlying kt with
  | some (.int q') => decide (q' = q)
  | _ => false
 | none => match P.underlying kt with
  | some .string => true
  | _ => false
theorem bKey_ok {kt : TypeId} {q : Option IntKind} (h : bKey P kt q = true) : P.underlying kt = some (kdesc q) := by
 cases q with
 | none =>
  simp only [bKey] at h
  split at h
  ·assumption
  ·cases h
 | some q =>
  simp only [bKey] at h
  split at h
  ·simp only [decide_eq_true_eq] at h
   subst h
   assumption
  ·cases h
def bMap (P : Program) (t : TypeId) (q : Option IntKind) : Bool :=
 match P.underlying t with
 | some (.map kt _) => bKey P kt q
 | _ => false
theorem bMap_ok {t : TypeId} {q : Option IntKind} (h : bMap P t q = true) : ∃ kt et, P.underlying t = some (.map kt et) ∧ P.underlying kt = some (kdesc q) := by
 unfold bMap at h
 split at h
 ·exact ⟨_, _, ‹_›, bKey_ok h⟩
 ·cases h
def chkO (P : Program) (o : Oper) : KO → List O → Bool
 | .ldo _ _, [ox] => match o.op with
  | .load t x => bTy P t 1 false && bO x ox
  | _ => false
 | .callo f _, os => match o.op with
  | .call { callee := .value (.func f'), args := xs, .. } => f' == f && bOs xs.toList os
  | _ => false
 | .callvo _, ox :: os => match o.op with
  | .call { callee := .value x, args := xs, .. } => bO x ox && bOs xs.toList os
  | _ => false
 | .bldo zero offs, os => match o.op with
  | .build t parts => match P.underlying t with
   | some (.struct fields) => match P.info? t with
    | some it => match it.zero with
     | some z => match fields.toList.mapM (fun f => (P.info? f.type).map fun i => (f.offset, i.size)) with
      | some places => bZPs zero z.cells.toList && (bOffs places zero.length parts.toList offs && bOs (parts.toList.map (·.2)) os)
      | none => false
     | none => false
    | none => false
   | _ => false
  | _ => false
 | .eqp neq, [ox, oy] => match o.op with
  | .binOp op t x y _ => match P.underlying t with
   | some (.pointer _) => decide (op = if neq then .neq else .eql) && (bO x ox && bO y oy)
   | _ => false
  | _ => false
 | .appd size bytes _, [ox, oy] => match o.op with
  | .call { callee := .builtin .append, args := ⟨[x, y]⟩, argTypes := ⟨[t, t']⟩ } => match P.underlying t with
   | some (.slice e) => match P.info? e with
    | some i => match i.zero with
     | some z => decide (t = t') && (decide ((i.size = size ∧ i.bytes = bytes ∧ z.cells.size = size) ∧ size ≠ 0) && (bO x ox && bO y oy))
     | none => false
    | none => false
   | _ => false
  | _ => false
 | .bsld _ n _, os => match o.op with
  | .buildSlice t m parts => match P.underlying t with
   | some (.slice e) => match P.info? e with
    | some i => i.zero.isSome && (decide (m = n ∧ i.size = 1 ∧ n ≤ 16777216) && (decide (n ≤ maxLen) && (bSeq 0 parts.toList && bOs (parts.toList.map (·.2)) os)))
    | none => false
   | _ => false
  | _ => false
 | .slx size, [ox, om] => match o.op with
  | .slice t x none (some m) none => match P.underlying t with
   | some (.slice e) => (bTy P e size true || bTy P e size false) && (bO x ox && bO m om)
   | _ => false
  | _ => false
 | .lookx q zero ok, [ox, oy] => match o.op with
  | .lookup t x y ok' => match P.underlying t with
   | some (.map kt et) => match P.info? et with
    | some i => match i.zero with
     | some zv => decide (ok' = ok) && (bKey P kt q && (bZV zero zv && (bO x ox && bO y oy)))
     | none => false
    | _ => false
   | _ => false
  | _ => false
 | .mupx q, [ox, oy, oz] => match o.op with
  | .mapUpdate t x y z => bMap P t q && (o.dst.isNone && (bO x ox && (bO y oy && bO z oz)))
  | _ => false
 | .mdel q, [ox, oy] => match o.op with
  | .call { callee := .builtin .delete, args := ⟨[x, y]⟩, argTypes := ⟨t :: _⟩ } => bMap P t q && (bO x ox && bO y oy)
  | _ => false
 | .mpe q, [ox, oy] => match o.op with
  | .mapEntry t x y => bMap P t q && (bO x ox && bO y oy)
  | _ => false
 | .lda n, [ox] => match o.op with
  | .load t x => bTy P t n true && bO x ox
  | _ => false
 | .ents, [ox, oy, oz] => match o.op with
  | .entryStore t x y z => o.dst.isNone && (bO x ox && (bO y oy && bO z oz))
  | _ => false
 | .mlen, [ox] => match o.op with
  | .call { callee := .builtin .len, args := ⟨[x]⟩, argTypes := ⟨[t]⟩ } => match P.underlying t with
   | some (.map _ _) => bO x ox
   | _ => false
  | _ => false
 | .callr f, os => match o.op with
  | .call { callee := .value (.func f'), args := xs, .. } => f' == f && bOs xs.toList os
  | _ => false
 | _, _ => false
theorem bTyE_ok {t : TypeId} {n : Nat} (h : (bTy P t n true || bTy P t n false) = true) : ∃ isA, TyIs P t n isA := by
 simp only [Bool.or_eq_true] at h
 rcases h with h | h
 ·exact ⟨_, bTy_ok h⟩
 ·exact ⟨_, bTy_ok h⟩
theorem chkO_ok {o : Oper} {κ : KO} {xs : List O} (h : chkO P o κ xs = true) : TrO P o κ xs := by
 unfold chkO at h
 split at h
 ·split at h
  ·simp only [Bool.and_eq_true] at h
   exact .ldo _ _ _ (bTy_ok h.1) _ _ (bO_ok h.2) ‹_›
  ·cases h
 ·(repeat' split at h) <;> try cases h
  simp only [Bool.and_eq_true, beq_iff_eq] at h
  obtain ⟨rfl, h2⟩ := h
  obtain ⟨p1, p2⟩ := bOs_ok h2
  exact .callo _ _ _ _ _ ‹_› (by simpa using p1) p2
 ·(repeat' split at h) <;> try cases h
  simp only [Bool.and_eq_true] at h
  obtain ⟨h1, h2⟩ := h
  obtain ⟨p1, p2⟩ := bOs_ok h2
  exact .callvo _ _ _ (bO_ok h1) _ _ _ ‹_› (by simpa using p1) p2
 ·(repeat' split at h) <;> try cases h
  simp only [Bool.and_eq_true] at h
  obtain ⟨h1, h2, h3⟩ := h
  obtain ⟨z1, z2⟩ := bZPs_ok h1
  obtain ⟨o1, o2⟩ := bOffs_ok h2
  obtain ⟨p1, p2⟩ := bOs_ok h3
  refine .bldo _ _ _ _ _ ‹_› _ ‹_› _ _ ‹_› ‹_› _ ‹_› (by simpa using z1) (fun i c v hc hv => z2 i c v hc (by simpa using hv)) (by simpa using o1) (by simpa using p1) (fun k p o hp ho => o2 k p o (by simpa using hp) ho) fun k p oo hp ho => p2 k p.2 oo (by rw [List.getElem?_map]; simp [hp]) ho
 ·split at h
  ·split at h
   ·rename_i hu
    simp only [Bool.and_eq_true, decide_eq_true_eq] at h
    obtain ⟨rfl, h2, h3⟩ := h
    exact .eqp _ _ _ _ _ _ _ (bO_ok h2) (bO_ok h3) ‹_› (by simp [Program.pointee, hu])
   ·cases h
  ·cases h
 ·(repeat' split at h) <;> try cases h
  simp only [Bool.and_eq_true, decide_eq_true_eq] at h
  obtain ⟨rfl, ⟨⟨h3, h4, h5⟩, h8⟩, h6, h7⟩ := h
  exact .appd _ _ _ _ _ _ _ _ _ (bO_ok h6) (bO_ok h7) ‹_› ‹_› _ _ ‹_› ‹_› h3 h4 h5 h8
 ·(repeat' split at h) <;> try cases h
  simp only [Bool.and_eq_true, decide_eq_true_eq] at h
  obtain ⟨h1, ⟨rfl, h3, h5⟩, h6, h7, h8⟩ := h
  obtain ⟨z, hz⟩ := Option.isSome_iff_exists.1 h1
  obtain ⟨p1, p2⟩ := bOs_ok h8
  exact .bsld _ _ _ _ _ _ _ _ ‹_› ‹_› _ z ‹_› hz h3 h5 h6 (bSeq_ok h7) p1 p2
 ·split at h
  ·split at h
   ·simp only [Bool.and_eq_true] at h
    obtain ⟨h1, h2, h3⟩ := h
    obtain ⟨isA, hty⟩ := bTyE_ok h1
    exact .slx _ isA _ _ _ _ _ _ (bO_ok h2) (bO_ok h3) ‹_› ‹_› hty
   ·cases h
  ·cases h
 ·(repeat' split at h) <;> try cases h
  simp only [Bool.and_eq_true, decide_eq_true_eq] at h
  obtain ⟨rfl, h0, h1, h2, h3⟩ := h
  exact .lookx _ _ _ _ _ _ _ _ _ _ _ _ (bO_ok h2) (bO_ok h3) ‹_› ‹_› (bKey_ok h0) ‹_› ‹_› (bZV_ok h1)
 ·split at h
  ·simp only [Bool.and_eq_true, Option.isNone_iff_eq_none] at h
   obtain ⟨h1, h2, h3, h4, h5⟩ := h
   obtain ⟨kt, et, e1, e2⟩ := bMap_ok h1
   exact .mupx _ _ _ _ _ _ _ _ _ _ (bO_ok h3) (bO_ok h4) (bO_ok h5) ‹_› h2 e1 e2
  ·cases h
 ·(repeat' split at h) <;> try cases h
  simp only [Bool.and_eq_true] at h
  obtain ⟨h1, h2, h3⟩ := h
  obtain ⟨kt, et, e1, e2⟩ := bMap_ok h1
  exact .mdel _ _ _ _ _ _ _ _ _ (bO_ok h2) (bO_ok h3) ‹_› rfl e1 e2
 ·split at h
  ·simp only [Bool.and_eq_true] at h
   obtain ⟨h1, h3, h4⟩ := h
   obtain ⟨kt, et, e1, e2⟩ := bMap_ok h1
   exact .mpe _ _ _ _ _ _ _ _ (bO_ok h3) (bO_ok h4) ‹_› e1 e2
  ·cases h
 ·split at h
  ·simp only [Bool.and_eq_true] at h
   exact .lda _ _ (bTy_ok h.1) _ _ (bO_ok h.2) ‹_›
  ·cases h
 ·split at h
  ·simp only [Bool.and_eq_true, Option.isNone_iff_eq_none] at h
   obtain ⟨h2, h3, h4, h5⟩ := h
   exact .ents _ _ _ _ _ _ _ (bO_ok h3) (bO_ok h4) (bO_ok h5) ‹_› h2
  ·cases h
 ·(repeat' split at h) <;> try cases h
  exact .mlen _ _ _ _ _ (bO_ok h) ‹_› ‹_›
 ·(repeat' split at h) <;> try cases h
  simp only [Bool.and_eq_true, beq_iff_eq] at h
  obtain ⟨rfl, h2⟩ := h
  obtain ⟨p1, p2⟩ := bOs_ok h2
  exact .callr _ _ _ _ ‹_› (by simpa using p1) p2
 ·cases h
def chk (P : Program) (o : Oper) : Kd → List O → Bool
 | .mov _, [ox] => match o.op with
  | .move x => bO x ox
  | .assign x => bO x ox
  | _ => false
 | .pick, [oc, ox, oy] => match o.op with
  | .pick c x y => bO c oc && (bO x ox && bO y oy)
  | _ => false
 | .box _ size, [ox] => match o.op with
  | .box _ x => decide (size ≠ 0) && bO x ox
  | _ => false
 | .alloc _ size zero, [] => match o.op with
  | .alloc t => match P.info? t with
   | some i => match i.zero with
    | some z => decide (size ≠ 0) && bZs zero z.cells.toList
    | none => false
   | none => false
  | _ => false
 | .build zero offs, os => match o.op with
  | .build t parts => match P.underlying t with
   | some (.struct fields) => match P.info? t with
    | some it => match it.zero with
     | some z => match fields.toList.mapM (fun f => (P.info? f.type).map fun i => (f.offset, i.size)) with
      | some places => bZPs zero z.cells.toList && (bOffs places zero.length parts.toList offs && bOs (parts.toList.map (·.2)) os)
      | none => false
     | none => false
    | none => false
   | _ => false
  | _ => false
 | .bsl size n, os => match o.op with
  | .buildSlice t m parts => match P.underlying t with
   | some (.slice e) => match P.info? e with
    | some i => i.zero.isSome && (o.dst.isSome && (decide (m = n ∧ i.size = size ∧ 0 < size ∧ n * size ≤ 16777216) && (decide (n ≤ maxLen) && (bSeq 0 parts.toList && bOs (parts.toList.map (·.2)) os))))
    | none => false
   | _ => false
  | _ => false
 | .load n isA _, [ox] => match o.op with
  | .load t x => bTy P t n isA && bO x ox
  | _ => false
 | .loadp n isA, [ox] => match o.op with
  | .load t x => bTy P t n isA && bO x ox
  | _ => false
 | .store n, [ox, oy] => match o.op with
  | .store t x y => (bTy P t n true || bTy P t n false) && (bO x ox && (bO y oy && (o.dst.isNone && (match oy, ox with | .t m, .t m' => m != m' | _, _ => true))))
  | _ => false
 | .bin op, [ox, oy] => match o.op with
  | .binOp op' _ x y _ => decide (op' = op) && (bO x ox && bO y oy)
  | _ => false
 | .eqnil neq, [ox, oy] => match o.op with
  | .binOp op t x y _ => match P.underlying t with
   | some (.slice _) => decide (op = if neq then .neq else .eql) && (bO x ox && (bO y oy && (match oy with | .t _ => false | _ => true)))
   | _ => false
  | _ => false
 | .un op, [ox] => match o.op with
  | .unOp op' _ x => decide (op' = op) && bO x ox
  | _ => false
 | .conv k, [ox] => match o.op with
  | .convert src dst x => match P.underlying dst with
   | some (.int k') => decide (k' = k) && ((P.underlying src).isSome && bO x ox)
   | _ => false
  | _ => false
 | .fad off, [ox] => match o.op with
  | .fieldAddr t x f => match P.underlying t with
   | some (.struct fs) => match fs[f]? with
    | some fd => match P.info? fd.type with
     | some i => decide (i.size ≠ 0 ∧ fd.offset = off) && bO x ox
     | none => false
    | none => false
   | _ => false
  | _ => false
 | .fld off n isA, [ox] => match o.op with
  | .field t x f => match P.underlying t with
   | some (.struct fs) => match fs[f]? with
    | some fd => bTy P fd.type n isA && (decide (fd.offset = off) && bO x ox)
    | none => false
   | _ => false
  | _ => false
 | .iad size, [ox, oi] => match o.op with
  | .indexAddr t x ix => match P.underlying t with
   | some (.slice e) => (bTy P e size true || bTy P e size false) && (bO x ox && bO ix oi)
   | _ => false
  | _ => false
 | .sidx, [ox, oi] => match o.op with
  | .index t x ix => match P.underlying t with
   | some .string => bO x ox && bO ix oi
   | _ => false
  | _ => false
 | .len, [ox] => match o.op with
  | .call { callee := .builtin .len, args := ⟨[x]⟩, argTypes := ⟨[t]⟩ } => match P.underlying t with
   | some (.slice _) => bO x ox
   | _ => false
  | _ => false
 | .lenD, [ox] => match o.op with
  | .call { callee := .builtin .len, args := ⟨[x]⟩, argTypes := ⟨[t]⟩ } => match P.underlying t with
   | some (.slice _) => bO x ox
   | _ => false
  | _ => false
 | .slen, [ox] => match o.op with
  | .call { callee := .builtin .len, args := ⟨[x]⟩, argTypes := ⟨[t]⟩ } => match P.underlying t with
   | some .string => bO x ox
   | _ => false
  | _ => false
 | .mn, [ox, oy] => match o.op with
  | .call { callee := .builtin .min, args := ⟨[x, y]⟩, argTypes := ⟨[t, t']⟩ } => decide (t = t') && (bO x ox && bO y oy)
  | _ => false
 | .mx, [ox, oy] => match o.op with
  | .call { callee := .builtin .max, args := ⟨[x, y]⟩, argTypes := ⟨[t, t']⟩ } => decide (t = t') && (bO x ox && bO y oy)
  | _ => false
 | .app size bytes, [ox, oy] => match o.op with
  | .call { callee := .builtin .append, args := ⟨[x, y]⟩, argTypes := ⟨[t, t']⟩ } => match P.underlying t with
   | some (.slice e) => match P.info? e with
    | some i => match i.zero with
     | some z => decide (t = t') && (o.dst.isSome && (decide (i.size = size ∧ i.bytes = bytes ∧ z.cells.size = size) && (bO x ox && bO y oy)))
     | none => false
    | none => false
   | _ => false
  | _ => false
 | .ext j, [ox] => match o.op with
  | .extract x j' => j' == j && bO x ox
  | _ => false
 | .extp j, [ox] => match o.op with
  | .extract x j' => j' == j && bO x ox
  | _ => false
 | .call f, os => match o.op with
  | .call { callee := .value (.func f'), args := xs, .. } => f' == f && bOs xs.toList os
  | _ => false
 | .callv, ox :: os => match o.op with
  | .call { callee := .value x, args := xs, .. } => bO x ox && bOs xs.toList os
  | _ => false
 | .mkfn f, os => match o.op with
  | .makeFunc (.func f') ⟨[]⟩ caps => f' == f && bOs caps.toList os
  | _ => false
 | .mksl _ size bytes _ zero, [ox, oy] => match o.op with
  | .makeSlice t x y => match P.underlying t with
   | some (.slice e) => match P.info? e with
    | some i => match i.zero with
     | some z => decide ((i.size = size ∧ i.bytes = bytes) ∧ size ≠ 0) && (bZs zero z.cells.toList && (bO x ox && bO y oy))
     | none => false
    | none => false
   | _ => false
  | _ => false
 | .slc size lo hi, ox :: ys => match o.op with
  | .slice t x l h none => match P.underlying t with
   | some (.slice e) => (bTy P e size true || bTy P e size false) && (bO x ox && (decide (lo = l.isSome) && (decide (hi = h.isSome) && (match l, h, ys with
    | some l, some m, [ol, om] => bO l ol && bO m om
    | some l, none, [ol] => bO l ol
    | none, some m, [om] => bO m om
    | _, _, _ => false))))
   | _ => false
  | _ => false
 | .nilchk, [ox] => match o.op with
  | .nilCheck x => bO x ox
  | _ => false
 | .ssl lo hi, ox :: ys => match o.op with
  | .slice t x l h none => match P.underlying t with
   | some .string => bO x ox && (decide (lo = l.isSome) && (decide (hi = h.isSome) && (match l, h, ys with
    | some l, some m, [ol, om] => bO l ol && bO m om
    | some l, none, [ol] => bO l ol
    | none, some m, [om] => bO m om
    | _, _, _ => false)))
   | _ => false
  | _ => false
 | .slb _ size, [ox, om] => match o.op with
  | .slice t x none (some m) none => match P.underlying t with
   | some (.slice e) => (bTy P e size true || bTy P e size false) && (bO x ox && bO m om)
   | _ => false
  | _ => false
 | .stk, _ => true
 | .mkmap _, [] => match o.op with
  | .makeMap _ none => true
  | _ => false
 | .look q zero, [ox, oy] => match o.op with
  | .lookup t x y false => match P.underlying t with
   | some (.map kt et) => match P.underlying kt, P.info? et with
    | some (.int q'), some i => match i.zero with
     | some zv => decide (q' = q) && (bZP zero zv && (bO x ox && bO y oy))
     | none => false
    | _, _ => false
   | _ => false
  | _ => false
 | .mupd q, [ox, oy, oz] => match o.op with
  | .mapUpdate t x y z => match P.underlying t with
   | some (.map kt _) => match P.underlying kt with
    | some (.int q') => decide (q' = q) && (o.dst.isNone && (bO x ox && (bO y oy && bO z oz)))
    | _ => false
   | _ => false
  | _ => false
 | .eqat true, [ox, _] => match o.op with
  | .binOp .neq t x (.const .nilIface) _ => match P.underlying t with
   | some (.interface _) => bO x ox
   | _ => false
  | _ => false
 | .eqs n neq, [ox, oy] => match o.op with
  | .binOp op t x y _ => match P.underlying t with
   | some (.struct fs) => decide (op = if neq then .neq else .eql) && (decide (fs.toList.length = n) && (bFlds P fs.toList 0 && (!P.stoodInHeld t && (!P.eqGuardType P.depth t && (bO x ox && bO y oy)))))
   | _ => false
  | _ => false
 | .eqb neq, [ox, oy] => match o.op with
  | .binOp op t x y _ => match P.underlying t with
   | some .bool => decide (op = if neq then .neq else .eql) && (bO x ox && bO y oy)
   | _ => false
  | _ => false
 | .mkz size bytes row, [ox, oy] => match o.op, o.dst with
  | .makeSlice t x y, some _ => match P.underlying t with
   | some (.slice e) => match P.info? e with
    | some i => match i.zero with
     | some z => decide ((i.size = size ∧ i.bytes = bytes) ∧ 0 < size) && (bZPs (rowCells row) z.cells.toList && (bO x ox && bO y oy))
     | none => false
    | none => false
   | _ => false
  | _, _ => false
 | .s2b, [ox] => match o.op with
  | .convert src dst x => match P.underlying src, P.underlying dst with
   | some .string, some (.slice e) => match P.underlying e with
    | some (.int .u8) => bO x ox
    | _ => false
   | _, _ => false
  | _ => false
 | .callm f _, os => match o.op with
  | .call { callee := .value (.func f'), args := xs, .. } => f' == f && bOs xs.toList os
  | _ => false
 | .ob κ, os => chkO P o κ os
 | _, _ => false
theorem bTy2_ok {t : TypeId} {n : Nat} (h : (bTy P t n true || bTy P t n false) = true) : ∃ isA, TyIs P t n isA := by
 simp only [Bool.or_eq_true] at h
 rcases h with h | h
 ·exact ⟨_, bTy_ok h⟩
 ·exact ⟨_, bTy_ok h⟩
theorem isSomeE {α : Type} {x : Option α} (h : x.isSome = true) : ∃ y, x = some y := Option.isSome_iff_exists.1 h
theorem chk_ok {o : Oper} {κ : Kd} {xs : List O} (h : chk P o κ xs = true) : Tr P o κ xs := by
 unfold chk at h
 split at h
 ·split at h
  ·exact .mov _ _ _ (bO_ok h) (.inl ‹_›)
  ·exact .mov _ _ _ (bO_ok h) (.inr ‹_›)
  ·cases h
 ·split at h
  ·simp only [Bool.and_eq_true] at h
   exact .pick _ _ _ _ _ _ (bO_ok h.1) (bO_ok h.2.1) (bO_ok h.2.2) ‹_›
  ·cases h
 ·split at h
  ·simp only [Bool.and_eq_true, decide_eq_true_eq] at h
   exact .box _ _ _ _ _ (bO_ok h.2) ‹_› h.1
  ·cases h
 ·(repeat' split at h) <;> try cases h
  simp only [Bool.and_eq_true, decide_eq_true_eq] at h
  exact .alloc _ _ _ _ _ _ ‹_› ‹_› ‹_› (bZs_ok h.2) h.1
 ·(repeat' split at h) <;> try cases h
  simp only [Bool.and_eq_true] at h
  obtain ⟨h1, h2, h3⟩ := h
  obtain ⟨z1, z2⟩ := bZPs_ok h1
  obtain ⟨o1, o2⟩ := bOffs_ok h2
  obtain ⟨p1, p2⟩ := bOs_ok h3
  refine .build _ _ _ _ _ ‹_› _ ‹_› _ _ ‹_› ‹_› _ ‹_› (by simpa using z1) (fun i c v hc hv => z2 i c v hc (by simpa using hv)) (by simpa using o1) (by simpa using p1) (fun k p o hp ho => o2 k p o (by simpa using hp) ho) fun k p oo hp ho => p2 k p.2 oo (by rw [List.getElem?_map]; simp [hp]) ho
 ·(repeat' split at h) <;> try cases h
  simp only [Bool.and_eq_true, decide_eq_true_eq] at h
  obtain ⟨h1, h2, ⟨rfl, h3, h4, h5⟩, h6, h7, h8⟩ := h
  obtain ⟨z, hz⟩ := isSomeE h1
  obtain ⟨d, hd⟩ := isSomeE h2
  obtain ⟨p1, p2⟩ := bOs_ok h8
  exact .bsl _ _ _ _ _ _ _ ‹_› d hd ‹_› _ z ‹_› hz h3 h4 h5 h6 (bSeq_ok h7) p1 p2
 ·split at h
  ·simp only [Bool.and_eq_true] at h
   exact .load _ _ _ _ (bTy_ok h.1) _ _ (bO_ok h.2) ‹_›
  ·cases h
 ·split at h
  ·simp only [Bool.and_eq_true] at h
   exact .loadp _ _ _ (bTy_ok h.1) _ _ (bO_ok h.2) ‹_›
  ·cases h
 ·split at h
  ·simp only [Bool.and_eq_true] at h
   obtain ⟨h1, h2, h3, h4, h5⟩ := h
   obtain ⟨isA, hty⟩ := bTy2_ok h1
   refine .store _ isA _ hty _ _ _ _ (bO_ok h2) (bO_ok h3) ‹_› (by simpa using h4) fun m e1 e2 => ?_
   subst e1
   subst e2
   simp at h5
  ·cases h
 ·split at h
  ·simp only [Bool.and_eq_true, decide_eq_true_eq] at h
   obtain ⟨rfl, h2, h3⟩ := h
   exact .bin _ _ _ _ _ _ _ (bO_ok h2) (bO_ok h3) ‹_›
  ·cases h
 ·split at h
  ·split at h
   ·simp only [Bool.and_eq_true, decide_eq_true_eq] at h
    obtain ⟨rfl, h2, h3, h4⟩ := h
    refine .eqnil _ _ _ _ _ _ _ _ (bO_ok h2) (bO_ok h3) ‹_› ‹_› fun n e => ?_
    subst e
    simp at h4
   ·cases h
  ·cases h
 ·split at h
  ·simp only [Bool.and_eq_true, decide_eq_true_eq] at h
   obtain ⟨rfl, h2⟩ := h
   exact .un _ _ _ _ (bO_ok h2) ‹_›
  ·cases h
 ·(repeat' split at h) <;> try cases h
  simp only [Bool.and_eq_true, decide_eq_true_eq] at h
  obtain ⟨rfl, h2, h3⟩ := h
  exact .conv _ _ _ _ _ (bO_ok h3) ‹_› (isSomeE h2) ‹_›
 ·(repeat' split at h) <;> try cases h
  simp only [Bool.and_eq_true, decide_eq_true_eq] at h
  obtain ⟨⟨h1, h2⟩, h3⟩ := h
  exact .fad _ _ _ _ _ (bO_ok h3) ‹_› _ _ _ ‹_› ‹_› ‹_› h1 h2
 ·(repeat' split at h) <;> try cases h
  simp only [Bool.and_eq_true, decide_eq_true_eq] at h
  obtain ⟨h1, h2, h3⟩ := h
  exact .fld _ _ _ _ _ _ _ (bO_ok h3) ‹_› _ _ ‹_› ‹_› (bTy_ok h1) h2
 ·(repeat' split at h) <;> try cases h
  simp only [Bool.and_eq_true] at h
  obtain ⟨h1, h2, h3⟩ := h
  obtain ⟨isA, hty⟩ := bTy2_ok h1
  exact .iad _ isA _ _ _ _ _ _ (bO_ok h2) (bO_ok h3) ‹_› ‹_› hty
 ·(repeat' split at h) <;> try cases h
  simp only [Bool.and_eq_true] at h
  exact .sidx _ _ _ _ _ (bO_ok h.1) (bO_ok h.2) ‹_› ‹_›
 ·(repeat' split at h) <;> try cases h
  exact .len _ _ _ _ (bO_ok h) ‹_› ‹_›
 ·(repeat' split at h) <;> try cases h
  exact .lenD _ _ _ _ (bO_ok h) ‹_› ‹_›
 ·(repeat' split at h) <;> try cases h
  exact .slen _ _ _ (bO_ok h) ‹_› ‹_›
 ·(repeat' split at h) <;> try cases h
  simp only [Bool.and_eq_true, decide_eq_true_eq] at h
  obtain ⟨rfl, h2, h3⟩ := h
  exact .minmax false _ _ _ _ _ (bO_ok h2) (bO_ok h3) ‹_›
 ·(repeat' split at h) <;> try cases h
  simp only [Bool.and_eq_true, decide_eq_true_eq] at h
  obtain ⟨rfl, h2, h3⟩ := h
  exact .minmax true _ _ _ _ _ (bO_ok h2) (bO_ok h3) ‹_›
 ·(repeat' split at h) <;> try cases h
  simp only [Bool.and_eq_true, decide_eq_true_eq] at h
  obtain ⟨rfl, h2, ⟨h3, h4, h5⟩, h6, h7⟩ := h
  obtain ⟨d, hd⟩ := isSomeE h2
  exact .app _ _ _ _ _ _ _ _ (bO_ok h6) (bO_ok h7) ‹_› d hd ‹_› _ _ ‹_› ‹_› h3 h4 h5
 ·(repeat' split at h) <;> try cases h
  simp only [Bool.and_eq_true, beq_iff_eq] at h
  obtain ⟨rfl, h2⟩ := h
  exact .ext _ _ _ (bO_ok h2) ‹_›
 ·(repeat' split at h) <;> try cases h
  simp only [Bool.and_eq_true, beq_iff_eq] at h
  obtain ⟨rfl, h2⟩ := h
  exact .extp _ _ _ (bO_ok h2) ‹_›
 ·(repeat' split at h) <;> try cases h
  simp only [Bool.and_eq_true, beq_iff_eq] at h
  obtain ⟨rfl, h2⟩ := h
  obtain ⟨p1, p2⟩ := bOs_ok h2
  exact .call _ _ _ _ ‹_› (by simpa using p1) p2
 ·(repeat' split at h) <;> try cases h
  simp only [Bool.and_eq_true] at h
  obtain ⟨h1, h2⟩ := h
  obtain ⟨p1, p2⟩ := bOs_ok h2
  exact .callv _ _ (bO_ok h1) _ _ _ ‹_› (by simpa using p1) p2
 ·(repeat' split at h) <;> try cases h
  simp only [Bool.and_eq_true, beq_iff_eq] at h
  obtain ⟨rfl, h2⟩ := h
  obtain ⟨p1, p2⟩ := bOs_ok h2
  exact .mkfn _ _ _ ‹_› (by simpa using p1) p2
 ·(repeat' split at h) <;> try cases h
  simp only [Bool.and_eq_true, decide_eq_true_eq] at h
  obtain ⟨⟨⟨h1, h2⟩, h0⟩, h3, h4, h5⟩ := h
  exact .mksl _ _ _ _ _ _ _ _ _ _ _ (bO_ok h4) (bO_ok h5) ‹_› ‹_› _ _ ‹_› ‹_› h1 h2 (bZs_ok h3) h0
 ·split at h
  ·split at h
   ·simp only [Bool.and_eq_true, decide_eq_true_eq] at h
    obtain ⟨h1, h2, rfl, rfl, h3⟩ := h
    obtain ⟨isA, hty⟩ := bTy2_ok h1
    refine .slc _ isA _ _ _ _ _ _ _ (bO_ok h2) ‹_› ‹_› hty ?_
    split at h3
    ·simp only [Bool.and_eq_true] at h3; exact ⟨bO_ok h3.1, bO_ok h3.2⟩
    ·exact bO_ok h3
    ·exact bO_ok h3
    ·cases h3
   ·cases h
  ·cases h
 ·split at h
  ·exact .nilchk _ _ (bO_ok h) ‹_›
  ·cases h
 ·split at h
  ·split at h
   ·simp only [Bool.and_eq_true, decide_eq_true_eq] at h
    obtain ⟨h2, rfl, rfl, h3⟩ := h
    refine .ssl _ _ _ _ _ _ (bO_ok h2) ‹_› ‹_› ?_
    split at h3
    ·simp only [Bool.and_eq_true] at h3; exact ⟨bO_ok h3.1, bO_ok h3.2⟩
    ·exact bO_ok h3
    ·exact bO_ok h3
    ·cases h3
   ·cases h
  ·cases h
 ·split at h
  ·split at h
   ·simp only [Bool.and_eq_true] at h
    obtain ⟨h1, h2, h3⟩ := h
    obtain ⟨isA, hty⟩ := bTy2_ok h1
    exact .slb _ _ isA _ _ _ _ _ _ (bO_ok h2) (bO_ok h3) ‹_› ‹_› hty
   ·cases h
  ·cases h
 ·exact .stk _
 ·split at h
  ·exact .mkmap _ _ ‹_›
  ·cases h
 ·split at h
  ·split at h
   ·split at h
    ·split at h
     ·simp only [Bool.and_eq_true, decide_eq_true_eq] at h
      obtain ⟨rfl, h⟩ := h
      exact .look _ _ _ _ _ _ _ _ _ _ _ (bO_ok h.2.1) (bO_ok h.2.2) ‹_› ‹_› ‹_› ‹_› ‹_› (bZP_ok h.1)
     ·cases h
    ·cases h
   ·cases h
  ·cases h
 ·split at h
  ·split at h
   ·split at h
    ·simp only [Bool.and_eq_true, Option.isNone_iff_eq_none, decide_eq_true_eq] at h
     obtain ⟨rfl, h⟩ := h
     exact .mupd _ _ _ _ _ _ _ _ _ _ (bO_ok h.2.1) (bO_ok h.2.2.1) (bO_ok h.2.2.2) ‹_› h.1 ‹_› ‹_›
    ·cases h
   ·cases h
  ·cases h
 ·split at h
  ·split at h
   ·exact .eqat _ _ _ _ _ _ (bO_ok h) ‹_› ‹_›
   ·cases h
  ·cases h
 ·split at h
  ·split at h
   ·rename_i hu
    simp only [Bool.and_eq_true, decide_eq_true_eq, Bool.not_eq_true'] at h
    obtain ⟨rfl, h1, h2, h3, h4, h5, h6⟩ := h
    have hfs := fieldsOf_eq hu
    refine .eqs _ _ _ _ _ _ _ _ (bO_ok h5) (bO_ok h6) ‹_› (by rw [hfs]; exact hu) h3 h4 (by rw [hfs]; exact h1) fun i f hf => ?_
    rw [hfs] at hf
    have := bFlds_ok h2 i f hf
    rw [Nat.zero_add] at this
    exact this
   ·cases h
  ·cases h
 ·split at h
  ·split at h
   ·simp only [Bool.and_eq_true, decide_eq_true_eq] at h
    obtain ⟨rfl, h5, h6⟩ := h
    exact .eqb _ _ _ _ _ _ _ (bO_ok h5) (bO_ok h6) ‹_› ‹_›
   ·cases h
  ·cases h
 ·(repeat' split at h) <;> try cases h
  simp only [Bool.and_eq_true, decide_eq_true_eq] at h
  obtain ⟨⟨⟨h1, h2⟩, h0⟩, h3, h4, h5⟩ := h
  have hz := bZPs_ok h3
  exact .mkz _ _ _ _ _ _ _ _ _ (bO_ok h4) (bO_ok h5) ‹_› _ ‹_› ‹_› _ _ ‹_› ‹_› h1 h2 (by simpa using hz.1) (fun i c v hc hv => hz.2 i c v hc (by simpa using hv)) h0
 ·split at h
  ·split at h
   ·split at h
    ·exact .s2b _ _ _ _ _ (bO_ok h) ‹_› ‹_› ‹_› ‹_›
    ·cases h
   ·cases h
  ·cases h
 ·(repeat' split at h) <;> try cases h
  simp only [Bool.and_eq_true, beq_iff_eq] at h
  obtain ⟨rfl, h2⟩ := h
  obtain ⟨p1, p2⟩ := bOs_ok h2
  exact .callm _ _ _ _ _ ‹_› (by simpa using p1) p2
 ·exact .ob _ _ (chkO_ok h)
 ·cases h
def chkJ (P : Program) (o : Oper) (κ : Kd) (xs : List O) : Bool :=
 match κ with
 | .at _ κ' => (newBox κ').isNone && (!growB κ' && chk P o κ' xs)
 | .pl κ' => (newBox κ').isNone && (!growB κ' && chk P o κ' xs)
 | κ' => chk P o κ' xs
theorem chkJ_ok {o : Oper} {κ : Kd} {xs : List O} (h : chkJ P o κ xs = true) : TrJ P o κ xs := by
 unfold chkJ at h
 split at h
 ·simp only [Bool.and_eq_true, Option.isNone_iff_eq_none, Bool.not_eq_true'] at h
  exact .at _ _ _ (chk_ok h.2.2) h.1 h.2.1
 ·simp only [Bool.and_eq_true, Option.isNone_iff_eq_none, Bool.not_eq_true'] at h
  exact .pl _ _ (chk_ok h.2.2) h.1 h.2.1
 ·exact .base _ _ (chk_ok h)
def chkI (P : Program) (ops : Array Oper) (o : Oper) (i : Ins) : Bool :=
 decide (i.d = o.dst) && (chkJ P o i.k i.xs && match o.guard, i.g with
  | none, none => true
  | some (j, want), some (t, want') => want == want' && decide ((ops[j]?).bind (·.dst) = some t)
  | _, _ => false)
theorem chkI_ok {ops : Array Oper} {o : Oper} {i : Ins} (h : chkI P ops o i = true) : TrI P ops o i := by
 simp only [chkI, Bool.and_eq_true, decide_eq_true_eq] at h
 refine ⟨h.1, chkJ_ok h.2.1, ?_⟩
 have h3 := h.2.2
 split at h3
 ·rename_i e1 e2; rw [e1, e2]; trivial
 ·rename_i e1 e2; rw [e1, e2]; simpa using h3
 ·cases h3
def chkL (P : Program) (ops : Array Oper) : List Oper → List Ins → Bool
 | [], [] => true
 | o :: os, i :: is => chkI P ops o i && chkL P ops os is
 | _, _ => false
theorem chkL_ok {ops : Array Oper} : ∀ {os : List Oper} {is : List Ins}, chkL P ops os is = true → os.length = is.length ∧ ∀ (k : Nat) i, is[k]? = some i → ∃ o, os[k]? = some o ∧ TrI P ops o i
 | [], [], _ => ⟨rfl, fun k i h => by simp at h⟩
 | o :: os, i :: is, h => by
  simp only [chkL, Bool.and_eq_true] at h
  obtain ⟨e1, e2⟩ := chkL_ok h.2
  refine ⟨by simp [e1], fun k j hj => ?_⟩
  cases k with
  | zero => simp at hj; subst hj; exact ⟨o, rfl, chkI_ok h.1⟩
  | succ k => obtain ⟨o', h1, h2⟩ := e2 k j (by simpa using hj); exact ⟨o', by simpa using h1, h2⟩
 | [], _ :: _, h => by simp [chkL] at h
 | _ :: _, [], h => by simp [chkL] at h
def chkE : Nat → List Oper → List (Ins × List Nat) → Bool
 | k, o :: os, p :: ps => edgesB o k p.2 && chkE (k + 1) os ps
 | _, _, _ => true
theorem chkE_ok : ∀ {os : List Oper} {l : List (Ins × List Nat)} {k : Nat}, chkE k os l = true → ∀ (j : Nat) o p, os[j]? = some o → l[j]? = some p → edgesB o (k + j) p.2 = true
 | [], _, _, _, j, o, p, h, _ => by simp at h
 | _ :: _, [], _, _, j, o, p, _, h => by simp at h
 | o0 :: os, p0 :: ps, k, h, j, o, p, ho, hp => by
  simp only [chkE, Bool.and_eq_true] at h
  cases j with
  | zero => simp at ho hp; subst ho; subst hp; exact h.1
  | succ j => rw [show k + (j + 1) = (k + 1) + j by omega]; exact chkE_ok h.2 j o p (by simpa using ho) (by simpa using hp)
def fsts : List (Ins × List Nat) → List Ins
 | [] => []
 | p :: l => p.1 :: fsts l
theorem fsts_eq (l : List (Ins × List Nat)) : fsts l = l.map (·.1) := by induction l with | nil => rfl | cons p l ih => simp [fsts, ih]
def chkC (P : Program) : C → Code → Bool
 | .stuck, _ => true
 | .skip, .skip => true
 | .reg is, .region _ ops false => chkL P ops ops.toList is
 | .regd is, .region _ ops true => P.follows .mixedOrders && (chkL P ops ops.toList is && pairsB ops is)
 | .rega is, .region _ ops true => P.follows .mixedOrders && (chkL P ops ops.toList is && (stB is && pairsW indepA ops is))
 | .seq a b, .seq x y => chkC P a x && chkC P b y
 | .cond o a b, .cond c x y => bO c o && (chkC P a x && chkC P b y)
 | .block id a, .block id' x => id' == id && chkC P a x
 | .loop _ _ a, .loop x => chkC P a x
 | .exit id, .exit id' => id' == id
 | .ret, .ret => true
 | .pre _ _ _ a, x => chkC P a x
 | .own _ _ _ a, x => chkC P a x
 | .regx l, .region _ ops true => P.follows .mixedOrders && (chkL P ops ops.toList (fsts l) && chkE 0 ops.toList l)
 | _, _ => false
theorem chkC_ok : ∀ {c : C} {x : Code}, chkC P c x = true → TrC P c x := by
 intro c
 induction c with
 | stuck => intro x _; exact .stuck x
 | skip => intro x h; cases x <;> simp [chkC] at h; exact .skip
 | reg is =>
  intro x h
  cases x <;> try (simp [chkC] at h; done)
  rename_i id ops dr
  cases dr with
  | true => simp [chkC] at h
  | false =>
   obtain ⟨e1, e2⟩ := chkL_ok (show chkL P ops ops.toList is = true from h)
   exact .reg id ops is (by simpa using e1) fun k i hi => by obtain ⟨o, h1, h2⟩ := e2 k i hi; exact ⟨o, by simpa using h1, h2⟩
 | regd is =>
  intro x h
  cases x <;> try (simp [chkC] at h; done)
  rename_i id ops dr
  cases dr with
  | false => simp [chkC] at h
  | true =>
   simp only [chkC, Bool.and_eq_true] at h
   obtain ⟨h0, h1, h2⟩ := h
   obtain ⟨e1, e2⟩ := chkL_ok h1
   exact .regd id ops is h0 (by simpa using e1) (fun k i hi => by obtain ⟨o, h1, h2⟩ := e2 k i hi; exact ⟨o, by simpa using h1, h2⟩) h2
 | rega is =>
  intro x h
  cases x <;> try (simp [chkC] at h; done)
  rename_i id ops dr
  cases dr with
  | false => simp [chkC] at h
  | true =>
   simp only [chkC, Bool.and_eq_true] at h
   obtain ⟨h0, h1, h2, h3⟩ := h
   obtain ⟨e1, e2⟩ := chkL_ok h1
   exact .rega id ops is h0 (by simpa using e1) (fun k i hi => by obtain ⟨o, h1, h2⟩ := e2 k i hi; exact ⟨o, by simpa using h1, h2⟩) h2 h3
 | seq a b iha ihb => intro x h; cases x <;> simp [chkC] at h; exact .seq _ _ _ _ (iha h.1) (ihb h.2)
 | cond o a b iha ihb => intro x h; cases x <;> simp [chkC] at h; exact .cond _ _ _ _ _ _ (bO_ok h.1) (iha h.2.1) (ihb h.2.2)
 | block id a iha => intro x h; cases x <;> simp [chkC] at h; obtain ⟨rfl, h⟩ := h; exact .block _ _ _ (iha h)
 | loop fs ds a iha => intro x h; cases x <;> simp [chkC] at h; exact .loop _ _ _ _ (iha h)
 | exit id => intro x h; cases x <;> simp [chkC] at h; subst h; exact .exit _
 | ret => intro x h; cases x <;> simp [chkC] at h; exact .ret
 | pre fs zs ds a iha => intro x h; exact .pre _ _ _ _ _ (iha h)
 | own i k ag a iha => intro x h; exact .own _ _ _ _ _ (iha h)
 | regx l =>
  intro x h
  cases x <;> try (simp [chkC] at h; done)
  rename_i id ops dr
  cases dr with
  | false => simp [chkC] at h
  | true =>
   simp only [chkC, Bool.and_eq_true] at h
   obtain ⟨h0, h1, h2⟩ := h
   obtain ⟨e1, e2⟩ := chkL_ok h1
   refine .regx id ops l h0 (by simpa [fsts_eq] using e1) fun k p hp => ?_
   obtain ⟨o, g1, g2⟩ := e2 k p.1 (by rw [fsts_eq, List.getElem?_map, hp]; rfl)
   exact ⟨o, by simpa using g1, g2, by simpa using chkE_ok h2 k o p g1 hp⟩
def chkRV (P : Program) : List ResultVar → List RV → Bool
 | [], [] => true
 | .tmp t :: rs, .tmp t' :: l => t' == t && chkRV P rs l
 | .cell t ty :: rs, .cell t' n :: l => t' == t && (bTy P ty n true && chkRV P rs l)
 | _, _ => false
theorem chkRV_ok : ∀ {rs : List ResultVar} {l : List RV}, chkRV P rs l = true → RVs P rs l
 | [], [], _ => .nil
 | .tmp t :: rs, .tmp t' :: l, h => by simp [chkRV] at h; obtain ⟨rfl, h⟩ := h; exact .tmp _ _ _ (chkRV_ok h)
 | .cell t ty :: rs, .cell t' n :: l, h => by simp [chkRV] at h; obtain ⟨rfl, h1, h2⟩ := h; exact .cell _ _ _ _ _ (bTy_ok h1) (chkRV_ok h2)
 | [], _ :: _, h => by simp [chkRV] at h
 | _ :: _, [], h => by simp [chkRV] at h
 | .tmp _ :: _, .cell _ _ :: _, h => by simp [chkRV] at h
 | .cell _ _ :: _, .tmp _ :: _, h => by simp [chkRV] at h
structure Fn where
 n : Nat
 nb : Nat
 rv : List RV
 c : C
def chkF (P : Program) (f : FuncId) (F : Fn) : Bool :=
 match P.funcs[f]? with
 | some fn => match fn.body with
  | some code => fn.ntmps == F.n && (chkRV P fn.results.toList F.rv && (decide (F.rv.map locOf).Nodup && (chkC P F.c code && fn.name != "runtime.NumGoroutine")))
  | none => false
 | none => false
def Fn.post (F : Fn) (r : DV) (s : St) : Prop := rets s F.rv fun xs => resOf xs = r
def Fn.vc (P : Program) (F : Fn) (args : List PV) (r : DV) : Prop :=
 Vc.vc P F.c (St0 F.n F.nb args) (F.post r) (fun _ _ => False) (F.post r)
theorem Fn.pure {f : FuncId} {F : Fn} (h : chkF P f F = true) {args : List PV} {r : DV} (hr : r.plain = true) (hv : F.vc P args r) : PureCall P f args r := by
 unfold chkF at h
 split at h
 ·rename_i fn hf
  split at h
  ·rename_i code hb
   simp only [Bool.and_eq_true, beq_iff_eq, decide_eq_true_eq, bne_iff_ne] at h
   obtain ⟨h1, h2, h3, h4, h5⟩ := h
   exact pure_of_vc hf hb h5 (chkC_ok h4) (chkRV_ok h2) h3 hr (by rw [h1]; exact hv)
  ·cases h
 ·cases h
def Fn.postM (F : Fn) (size : Nat) (rows' : List (List DV)) (r : DV) (s : St) : Prop := getB s.b F.nb = some ⟨true, size, rows', true⟩ ∧ rets s F.rv fun xs => resOf xs = r
theorem Fn.mcall {f : FuncId} {F : Fn} (h : chkF P f F = true) {size : Nat} {args : List DV} {rows rows' : List (List DV)} {r : DV} (hr : r.plain = true) (hrows : allPR rows = true) (hrows' : allPR rows' = true) (hargs : args.all DV.arg = true) (hsz0 : size ≠ 0)
  (hv : Vc.vc P F.c (St1 F.n F.nb args size rows) (F.postM size rows' r) (fun _ _ => False) (F.postM size rows' r)) : MCall P f size args rows rows' r := by
 unfold chkF at h
 split at h
 ·rename_i fn hf
  split at h
  ·rename_i code hb
   simp only [Bool.and_eq_true, beq_iff_eq, decide_eq_true_eq, bne_iff_ne] at h
   obtain ⟨h1, h2, h3, h4, h5⟩ := h
   exact mcall_of_vc hf hb h5 (chkC_ok h4) (chkRV_ok h2) h3 hr hrows hrows' hargs hsz0 (by rw [h1]; exact hv)
  ·cases h
 ·cases h
def Fn.postO (F : Fn) (m : Nat) (bs' : List (Option Box)) (r : DV) (s : St) : Prop := retsO s F.rv fun r0 => finO s.b F.nb m r0 = (bs', r)
theorem Fn.ocall {f : FuncId} {F : Fn} (h : chkF P f F = true) {args : List DV} {bs : List Box} {bs' : List (Option Box)} {r : DV} (hr : (r.plain || r.isRef) = true) (hbs : liveO bs = true) (hlen : Nat.ble bs.length bs'.length = true)
  (hv : Vc.vc P F.c (StO F.n F.nb args bs) (F.postO bs.length bs' r) (fun _ _ => False) (F.postO bs.length bs' r)) : OCall P f args bs bs' r := by
 unfold chkF at h
 split at h
 ·rename_i fn hf
  split at h
  ·rename_i code hb
   simp only [Bool.and_eq_true, beq_iff_eq, decide_eq_true_eq, bne_iff_ne] at h
   obtain ⟨h1, h2, h3, h4, h5⟩ := h
   exact ocall_of_vc hf hb h5 (chkC_ok h4) (chkRV_ok h2) h3 hr hbs hlen (by rw [h1]; exact hv)
  ·cases h
 ·cases h
end Go.Proofs.YtoepoghmeajocaaGreatDoor.Vc
namespace Go.Proofs.YtoepoghmeajocaaGreatDoor.Vc
open Go.RowKit
variable {P : Program}
abbrev mv (d x : Nat) : Ins := ⟨some d, none, .mov false, [.t x]⟩
abbrev mt (d x : Nat) : Ins := ⟨some d, none, .mov true, [.t x]⟩
abbrev mc (d : Nat) (x : PV) : Ins := ⟨some d, none, .mov true, [.c (.p x)]⟩
abbrev fa (d o x : Nat) : Ins := ⟨some d, none, .fad o, [.t x]⟩
abbrev ld (d x : Nat) : Ins := ⟨some d, none, .load 1 false false, [.t x]⟩
abbrev b2 (d : Nat) (op : BinOp) (x y : Nat) : Ins := ⟨some d, none, .bin op, [.t x, .t y]⟩
abbrev b1 (d : Nat) (op : BinOp) (x : Nat) (y : PV) : Ins := ⟨some d, none, .bin op, [.t x, .c (.p y)]⟩
abbrev ii (d : Nat) (κ : Kd) (xs : List O) : Ins := ⟨some d, none, κ, xs⟩
abbrev gt (d j : Nat) (κ : Kd) (xs : List O) : Ins := ⟨some d, some (j, true), κ, xs⟩
abbrev gf (d j : Nat) (κ : Kd) (xs : List O) : Ins := ⟨some d, some (j, false), κ, xs⟩
def dvK (v : DV) (K : DV → Prop) : Prop :=
 match v with
 | .top => K .top
 | .p x => K (.p x)
 | .ow a b c => K (.ow a b c)
 | .tup ds => K (.tup ds)
 | .addr a b c d => K (.addr a b c d)
 | .bs a b c d e => K (.bs a b c d e)
 | .fn f cs => K (.fn f cs)
 | .mh k => K (.mh k)
 | .ob T => K (.ob T)
 | .agd cs => K (.agd cs)
theorem dvK_eq (v : DV) (K : DV → Prop) : dvK v K = K v := by cases v <;> rfl
def setK {α : Type} (l : List α) : Nat → α → (List α → Prop) → Prop :=
 List.rec (motive := fun _ => Nat → α → (List α → Prop) → Prop) (fun _ _ K => K []) (fun x xs ih n v K => Nat.rec (motive := fun _ => Prop) (K (v :: xs)) (fun n _ => ih n v fun ys => K (x :: ys)) n) l
theorem setK_eq {α : Type} (l : List α) (n : Nat) (v : α) (K : List α → Prop) : setK l n v K = K (setL l n v) := by
 induction l generalizing n K with
 | nil => rfl
 | cons x xs ih => cases n with
  | zero => rfl
  | succ n => exact ih n fun ys => K (x :: ys)
def spK {α : Type} (l : List α) : (List α → Prop) → Prop :=
 List.rec (motive := fun _ => (List α → Prop) → Prop) (fun K => K []) (fun x _ ih K => ih fun ys => K (x :: ys)) l
theorem spK_eq {α : Type} (l : List α) (K : List α → Prop) : spK l K = K l := by
 induction l generalizing K with
 | nil => rfl
 | cons x xs ih => exact ih fun ys => K (x :: ys)
def putK (t : List DV) (d : Option Nat) (v : DV) (K : List DV → Prop) : Prop :=
 match d with
 | some i => dvK v fun v => setK t i v K
 | none => K t
theorem putK_eq (t : List DV) (d : Option Nat) (v : DV) (K : List DV → Prop) : putK t d v K = K (putD t d v) := by
 cases d with
 | none => rfl
 | some i => simp only [putK, putD, dvK_eq, setK_eq]
def cpK (t : List DV) (n : Nat) (K : List DV → Prop) : Prop := dvK (getT t n).copy fun v => setK t n v K
def degK : Kd → List O → List DV → (List DV → Prop) → Prop
 | .mov true, [.t n], t, K => cpK t n K
 | .app _ _, .t n :: _, t, K => cpK t n K
 | .store _, [_, .t n], t, K => cpK t n K
 | .ext j, [.t n], t, K => spK (degr (.ext j) [.t n] t) K
 | _, _, t, K => K t
theorem degK_eq (κ : Kd) (xs : List O) (t : List DV) (K : List DV → Prop) : degK κ xs t K = K (degr κ xs t) := by
 unfold degK
 split
 ·simp only [cpK, dvK_eq, setK_eq, degr]
 ·simp only [cpK, dvK_eq, setK_eq, degr]
 ·simp only [cpK, dvK_eq, setK_eq, degr]
 ·rw [spK_eq]
 ·rename_i h1 h2 h3 h4
  unfold degr
  split
  ·exact (h1 _ rfl rfl).elim
  ·exact (h2 _ _ _ _ rfl rfl).elim
  ·exact (h3 _ _ _ rfl rfl).elim
  ·exact (h4 _ _ rfl rfl).elim
  ·rfl
def freshB (i : Ins) (s : St) : Bool :=
 match newBox i.k with
 | some k => decide (k < s.b.length) && (noRefT k (putD s.t i.d .top) && noRefB k 0 s.b)
 | none => bif growB i.k then ltT s.b.length (putD s.t i.d .top) && ltB s.b.length s.b else true
theorem freshB_eq (i : Ins) (s : St) : (freshB i s = true) = fresh i s := by
 unfold freshB fresh
 split
 ·rename_i k hk; rw [hk]; simp [and_assoc]
 ·rename_i hk; rw [hk]; cases growB i.k <;> simp
def testB (b : Bool) (A : Prop) : Prop :=
 match b with
 | true => A
 | false => False
theorem testB_eq (b : Bool) (A : Prop) : testB b A = (b = true ∧ A) := by cases b <;> simp [testB]
def exV (P : Program) (i : Ins) (s : St) (K : St → Prop) : Prop :=
 testB (freshB i s) (semJ P i.k (i.xs.map (O.val s.t)) s.b fun v b' => degK i.k.core i.xs s.t fun t => putK t i.d v fun t => spK b' fun b' => K ⟨t, b'⟩)
def exG (P : Program) (i : Ins) (s : St) (K : St → Prop) : Prop :=
 match i.g with
 | none => exV P i s K
 | some (j, want) => match getT s.t j with
  | .p (.bool c) => (c = want → setK s.t j (.p (.bool want)) fun t => exV P i ⟨t, s.b⟩ K) ∧ (c = (!want) → setK s.t j (.p (.bool (!want))) fun t => putK t i.d (.tup []) fun t => K ⟨t, s.b⟩)
  | .tup [] => putK s.t i.d (.tup []) fun t => K ⟨t, s.b⟩
  | _ => False
def exS (P : Program) (l : List Ins) : St → (St → Prop) → Prop :=
 List.rec (motive := fun _ => St → (St → Prop) → Prop) (fun s K => K s) (fun i _ ih s K => exG P i s fun s' => ih s' K) l
theorem exS_cons (P : Program) (i : Ins) (is : List Ins) (s : St) (K : St → Prop) : exS P (i :: is) s K = exG P i s fun s' => exS P is s' K := rfl
theorem exV_eq (i : Ins) (s : St) (K : St → Prop) : exV P i s K = exec P i s K := by
 unfold exV exec
 rw [testB_eq, freshB_eq]
 simp only [degK_eq, putK_eq, spK_eq]
theorem exG_eq (i : Ins) (s : St) (K : St → Prop) : exG P i s K = execG P i s K := by
 unfold exG execG
 simp only [setK_eq, putK_eq, exV_eq]
 cases i.g with
 | none => rfl
 | some g =>
  obtain ⟨j, want⟩ := g
  simp only
  cases getT s.t j with
  | p x => cases x <;> rfl
  | tup ds => cases ds <;> rfl
  | _ => rfl
theorem exS_eq (is : List Ins) (s : St) (K : St → Prop) : exS P is s K = execs P is s K := by
 induction is generalizing s K with
 | nil => rfl
 | cons i is ih => rw [exS_cons]; simp only [execs, exG_eq, ih]
def forgetK (t : List DV) (ns : List Nat) (K : List DV → Prop) : Prop :=
 List.rec (motive := fun _ => List DV → (List DV → Prop) → Prop) (fun t K => K t) (fun n _ ih t K => setK t n .top fun t => ih t K) ns t K
theorem forgetK_cons (t : List DV) (n : Nat) (ns : List Nat) (K : List DV → Prop) : forgetK t (n :: ns) K = setK t n .top fun t => forgetK t ns K := rfl
theorem forgetK_eq (t : List DV) (ns : List Nat) (K : List DV → Prop) : forgetK t ns K = K (forget t ns) := by
 induction ns generalizing t with
 | nil => rfl
 | cons n ns ih => rw [forgetK_cons]; simp only [forget, setK_eq, ih]
def dropK (t : List (Option Box)) (ns : List Nat) (K : List (Option Box) → Prop) : Prop :=
 List.rec (motive := fun _ => List (Option Box) → (List (Option Box) → Prop) → Prop) (fun t K => K t) (fun n _ ih t K => setK t n none fun t => ih t K) ns t K
theorem dropK_cons (t : List (Option Box)) (n : Nat) (ns : List Nat) (K : List (Option Box) → Prop) : dropK t (n :: ns) K = setK t n none fun t => dropK t ns K := rfl
theorem dropK_eq (t : List (Option Box)) (ns : List Nat) (K : List (Option Box) → Prop) : dropK t ns K = K (dropB t ns) := by
 induction ns generalizing t with
 | nil => rfl
 | cons n ns ih => rw [dropK_cons]; simp only [dropB, setK_eq, ih]
abbrev EvT := St → (St → Prop) → (Nat → St → Prop) → (St → Prop) → Prop
noncomputable def ev (P : Program) (c : C) : EvT :=
 C.rec (motive := fun _ => EvT)
  (fun _ _ _ _ => False)
  (fun s n _ _ => n s)
  (fun ops s n _ _ => exS P ops s n)
  (fun ops s n _ _ => exS P ops s n)
  (fun ops s n _ _ => testB (invB ops s) (exS P ops s n))
  (fun _ _ iha ihb s n x r => iha s (fun s' => ihb s' n x r) x r)
  (fun c _ _ iha ihb s n x r => match c, c.val s.t with
   | .t j, .p (.bool t) => (t = true → setK s.t j (.p (.bool true)) fun t => iha ⟨t, s.b⟩ n x r) ∧ (t = false → setK s.t j (.p (.bool false)) fun t => ihb ⟨t, s.b⟩ n x r)
   | .c _, .p (.bool t) => (t = true → iha s n x r) ∧ (t = false → ihb s n x r)
   | _, _ => False)
  (fun id _ ih s n x r => ih s n (fun j s' => if j = id then n s' else x j s') r)
  (fun fs ds _ ih s _ x r => ∃ k, forgetK s.t fs fun t => dropK s.b ds fun b => iter (fun s' N => ih s' (fun s2 => forgetK s2.t fs fun t => dropK s2.b ds fun b => N ⟨t, b⟩) x r) k ⟨t, b⟩)
  (fun id s _ x _ => x id s)
  (fun s _ _ r => r s)
  (fun fs zs ds _ ih s n x r => fixB s.b zs fun b => forgetK s.t fs fun t => dropK b ds fun b => ih ⟨t, b⟩ n x r)
  (fun i k ag _ ih s n x r => match getT s.t i with
   | .ow size _ rows => testB (decide (size ≠ 0) && (decide (k < s.b.length) && (noRefT k s.t && (noRefB k 0 s.b && (scalT i 0 s.t && scalB k 0 s.b))))) (rows ≠ [] ∧ scalR (ownRows rows) = true ∧
     setK s.t i (.bs k size ag 0 rows.length) fun t => setK s.b k (some ⟨true, size, ownRows rows, false⟩) fun b => ih ⟨t, b⟩ n x r)
   | _ => False)
  (fun ops s n _ _ => anyT P (ops.length + 1) (idxX 0 ops) s n) c
theorem ev_eq : ∀ (c : C) (s : St) (n : St → Prop) (x : Nat → St → Prop) (r : St → Prop), ev P c s n x r = vc P c s n x r := by
 intro c
 induction c with
 | stuck => intros; rfl
 | skip => intros; rfl
 | reg ops => intros; show exS P _ _ _ = _; simp only [vc, exS_eq]
 | regd ops => intros; show exS P _ _ _ = _; simp only [vc, exS_eq]
 | rega ops => intros; show testB _ (exS P _ _ _) = _; simp only [vc, exS_eq, testB_eq]
 | seq a b iha ihb => intro s n x r; show ev P a s (fun s' => ev P b s' n x r) x r = _; simp only [vc, iha, ihb]
 | cond c a b iha ihb =>
  intro s n x r
  show (match c, c.val s.t with
   | .t j, .p (.bool t) => (t = true → setK s.t j (.p (.bool true)) fun t => ev P a ⟨t, s.b⟩ n x r) ∧ (t = false → setK s.t j (.p (.bool false)) fun t => ev P b ⟨t, s.b⟩ n x r)
   | .c _, .p (.bool t) => (t = true → ev P a s n x r) ∧ (t = false → ev P b s n x r)
   | _, _ => False) = _
  simp only [vc, iha, ihb, setK_eq]
  cases c with
  | t j =>
   simp only [O.val]
   cases getT s.t j with
   | p z => cases z <;> rfl
   | _ => rfl
  | c d =>
   simp only [O.val]
   cases d with
   | p z => cases z <;> rfl
   | _ => rfl
 | block id c ih => intro s n x r; show ev P c s n (fun j s' => if j = id then n s' else x j s') r = _; simp only [vc, ih]
 | loop fs ds c ih =>
  intro s n x r
  show (∃ k, forgetK s.t fs fun t => dropK s.b ds fun b => iter (fun s' N => ev P c s' (fun s2 => forgetK s2.t fs fun t => dropK s2.b ds fun b => N ⟨t, b⟩) x r) k ⟨t, b⟩) = _
  simp only [vc, ih, forgetK_eq, dropK_eq]
 | exit id => intros; rfl
 | regx ops => intros; simp only [vc]; rfl
 | ret => intros; rfl
 | pre fs zs ds c ih =>
  intro s n x r
  show (fixB s.b zs fun b => forgetK s.t fs fun t => dropK b ds fun b => ev P c ⟨t, b⟩ n x r) = _
  simp only [vc, ih, forgetK_eq, dropK_eq]
 | own i k ag c ih =>
  intro s n x r
  show (match getT s.t i with
   | .ow size _ rows => testB (decide (size ≠ 0) && (decide (k < s.b.length) && (noRefT k s.t && (noRefB k 0 s.b && (scalT i 0 s.t && scalB k 0 s.b))))) (rows ≠ [] ∧ scalR (ownRows rows) = true ∧
     setK s.t i (.bs k size ag 0 rows.length) fun t => setK s.b k (some ⟨true, size, ownRows rows, false⟩) fun b => ev P c ⟨t, b⟩ n x r)
   | _ => False) = _
  simp only [vc]
  cases getT s.t i with
  | ow size nl rows => simp only [testB_eq, setK_eq, ih]
  | _ => rfl
theorem iter_inv {F : St → (St → Prop) → Prop} (I : Nat → St → Prop) (hs : ∀ n s (N : St → Prop), I n s → (∀ m s', m < n → I m s' → N s') → F s N) :
  ∀ (k n : Nat) (s : St), n < k → I n s → iter F k s := by
 intro k
 induction k with
 | zero => exact fun n s h => by omega
 | succ k ih => exact fun n s hn hI => hs n s _ hI fun m s' hm hI' => ih m s' (by omega) hI'
theorem loop_inv {T : List DV} {fs : List Nat} {B : List (Option Box)} {ds : List Nat} {F : St → (St → Prop) → Prop} (I : Nat → St → Prop) (n : Nat) (h0 : forgetK T fs fun t => dropK B ds fun b => I n ⟨t, b⟩)
  (hs : ∀ n t b (N : St → Prop), I n ⟨t, b⟩ → (∀ m s', m < n → I m s' → N s') → spK t fun t => spK b fun b => F ⟨t, b⟩ N) : ∃ k, forgetK T fs fun t => dropK B ds fun b => iter F k ⟨t, b⟩ := by
 rw [forgetK_eq, dropK_eq] at h0
 refine ⟨n + 1, ?_⟩
 rw [forgetK_eq, dropK_eq]
 exact iter_inv I (fun n s N hI hN => by have := hs n s.t s.b N hI hN; rwa [spK_eq, spK_eq] at this) _ _ _ (Nat.lt_succ_self n) h0
def mkT (n : Nat) : List (Nat × DV) → List DV
 | [] => List.replicate n .top
 | (i, d) :: l => setL (mkT n l) i d
theorem wrapE {n : Int} (h1 : -9223372036854775808 ≤ n) (h2 : n ≤ 9223372036854775807) : IntKind.wrap .i64 n = n := by
 have e : (2 : Int) ^ (64 : Nat) = 18446744073709551616 := by decide
 have e' : (2 : Int) ^ (63 : Nat) = 9223372036854775808 := by decide
 simp only [IntKind.wrap, IntKind.signed, IntKind.bits]
 simp only [Bool.true_and, decide_eq_true_eq, e, e', ge_iff_le, Nat.add_one_sub_one, Nat.reduceSub]
 split <;> omega
class No (A : Prop) : Prop where no : ¬ A
instance : No (true = false) := ⟨by decide⟩
instance : No (false = true) := ⟨by decide⟩
instance : No ((!true) = true) := ⟨by decide⟩
instance : No ((!false) = false) := ⟨by decide⟩
instance : No (true = !true) := ⟨by decide⟩
instance : No (false = !false) := ⟨by decide⟩
instance : No ((!true) = !false) := ⟨by decide⟩
instance : No ((!false) = !true) := ⟨by decide⟩
instance {a b c : Bool} [h : No (a = c)] : No ((if true = true then a else b) = c) := ⟨fun e => h.no (by simpa using e)⟩
instance {a b c : Bool} [h : No (b = c)] : No ((if false = true then a else b) = c) := ⟨fun e => h.no (by simpa using e)⟩
class Opp (x y : Bool) : Prop where no : x ≠ y
instance : Opp true false := ⟨by decide⟩
instance : Opp false true := ⟨by decide⟩
instance : Opp true (!true) := ⟨by decide⟩
instance : Opp false (!false) := ⟨by decide⟩
theorem opN {c x y : Bool} [o : Opp x y] (h : c = x) : ¬ (c = y) := fun e => o.no (h.symm.trans e)
theorem zP {A B C D : Prop} (k : B) (h : ¬ C := by first | exact No.no | exact opN (x := true) (by assumption) | exact opN (x := false) (by assumption)) : (A → B) ∧ (C → D) := ⟨fun _ => k, fun c => (h c).elim⟩
theorem zL {A B C D : Prop} (k : D) (h : ¬ A := by first | exact No.no | exact opN (x := true) (by assumption) | exact opN (x := false) (by assumption)) : (A → B) ∧ (C → D) := ⟨fun c => (h c).elim, fun _ => k⟩
theorem zX {α : Type} {p K : α → Prop} {x : α} (k : K x) (h : p x := by assumption) : ∃ x, p x ∧ K x := ⟨x, h, k⟩
theorem zn {n : Nat} {K : Prop} (k : K) : (0 : Int) ≤ (n : Int) ∧ K := ⟨Int.natCast_nonneg _, k⟩
theorem zb {a b : Nat} {K : Prop} (h : Nat.ble a b = true) (k : K) : a ≤ b ∧ K := ⟨Nat.le_of_ble_eq_true h, k⟩
theorem zo {α : Type} {a b : α} {B K : Prop} (h : a = b) (k : K) : (a = b ∨ B) ∧ K := ⟨.inl h, k⟩
theorem zs {A K : Prop} (k : K) (h : A := by first | assumption | decide | (simp only [List.length_nil, List.length_cons, List.length_map, List.length_append]; omega) | (refine List.forall_mem_cons.2 ⟨rfl, ?_⟩; (repeat' first | exact fun _ h => absurd h List.not_mem_nil | refine List.forall_mem_cons.2 ⟨rfl, ?_⟩); done)) : A ∧ K := ⟨h, k⟩
theorem Fn.run {f : FuncId} {F : Fn} (h : chkF P f F = true) {args : List PV} {r : DV} (hr : r.plain = true)
  (hv : ev P F.c (St0 F.n F.nb args) (F.post r) (fun _ _ => False) (F.post r)) : PureCall P f args r :=
 Fn.pure h hr (by unfold Fn.vc; rw [← ev_eq]; exact hv)
theorem Fn.runM {f : FuncId} {F : Fn} (h : chkF P f F = true) {size : Nat} {args : List DV} {rows rows' : List (List DV)} {r : DV} (hr : r.plain = true) (hrows : allPR rows = true) (hrows' : allPR rows' = true) (hargs : args.all DV.arg = true) (hsz0 : size ≠ 0)
  (hv : ev P F.c (St1 F.n F.nb args size rows) (F.postM size rows' r) (fun _ _ => False) (F.postM size rows' r)) : MCall P f size args rows rows' r :=
 Fn.mcall h hr hrows hrows' hargs hsz0 (by rw [← ev_eq]; exact hv)
end Go.Proofs.YtoepoghmeajocaaGreatDoor.Vc
namespace Go.Proofs.YtoepoghmeajocaaGreatDoor.Vc
open Go.RowKit
def F22 : Fn := ⟨89, 3, [.tmp 6],
 (.seq
 (.reg [ii 3 (.box 0 5) [.t 0],
 ii 4 (.box 1 4) [.t 1],
 ii 5 (.box 2 2) [.t 2],
 mc 6 (.bool false)])
 (.seq
 (.seq
 (.reg [ii 8 (.load 5 true false) [.t 3],
 ii 9 (.call 51) [.t 8],
 ii 10 (.un .not) [.t 9],
 mv 11 10,
 gf 12 11 (.load 5 true false) [.t 3],
 gf 13 11 (.load 4 true false) [.t 4],
 gf 14 11 (.call 52) [.t 12, .t 13],
 gf 15 11 (.un .not) [.t 14],
 ii 16 .pick [.t 11, .c (.p (.bool true)), .t 15],
 mv 17 16,
 gf 18 17 (.load 5 true false) [.t 3],
 gf 19 17 (.load 2 true false) [.t 5],
 gf 20 17 (.call 56) [.t 18, .t 19],
 gf 21 17 (.un .not) [.t 20],
 ii 22 .pick [.t 17, .c (.p (.bool true)), .t 21]])
 (.cond (.t 22)
 (.seq
 (.reg [mc 6 (.bool false)])
 .ret)
 .skip))
 (.seq
 (.reg [fa 23 1 5,
 ld 24 23,
 ii 25 .len [.t 24],
 mt 7 25])
 (.seq
 (.seq
 (.reg [fa 26 0 5,
 ld 27 26])
 (.block 0
 (.seq
 (.reg [b1 29 .eql 27 (.int .i64 1),
 mt 28 29])
 (.cond (.t 28)
 (.seq
 (.regd [mv 30 7,
 b1 31 .eql 30 (.int .i64 1),
 mv 32 31,
 gt 33 32 (.fad 1) [.t 5],
 gt 34 32 (.at 2 (.load 1 false false)) [.t 33],
 gt 35 32 (.iad 4) [.t 34, .c (.p (.int .i64 0))],
 gt 36 32 (.fad 1) [.t 35],
 gt 37 32 (.loadp 1 false) [.t 36],
 gt 38 32 (.bin .eql) [.t 37, .c (.p (.int .i64 0))],
 ii 39 .pick [.t 32, .t 38, .c (.p (.bool false))],
 mv 40 39,
 gt 41 40 (.fad 1) [.t 5],
 gt 42 40 (.at 2 (.load 1 false false)) [.t 41],
 gt 43 40 (.iad 4) [.t 42, .c (.p (.int .i64 0))],
 gt 44 40 (.fad 2) [.t 43],
 gt 45 40 (.loadp 1 false) [.t 44],
 gt 46 40 (.fad 1) [.t 4],
 gt 47 40 (.at 1 (.load 1 false false)) [.t 46],
 gt 48 40 (.bin .eql) [.t 45, .t 47],
 ii 49 .pick [.t 40, .t 48, .c (.p (.bool false))],
 mv 50 49,
 gt 51 50 (.fad 1) [.t 5],
 gt 52 50 (.at 2 (.load 1 false false)) [.t 51],
 gt 53 50 (.iad 4) [.t 52, .c (.p (.int .i64 0))],
 gt 54 50 (.fad 3) [.t 53],
 gt 55 50 (.loadp 1 false) [.t 54],
 gt 56 50 (.fad 0) [.t 4],
 gt 57 50 (.at 1 (.load 1 false false)) [.t 56],
 gt 58 50 (.bin .eql) [.t 55, .t 57],
 ii 59 .pick [.t 50, .t 58, .c (.p (.bool false))],
 mt 6 59])
 .ret)
 (.seq
 (.reg [b1 61 .eql 27 (.int .i64 2),
 mt 60 61])
 (.cond (.t 60)
 (.seq
 (.reg [ii 62 (.load 5 true false) [.t 3],
 ii 63 (.load 4 true false) [.t 4],
 ii 64 (.load 2 true false) [.t 5],
 ii 65 (.call 57) [.t 62, .t 63, .t 64],
 mt 6 65])
 .ret)
 (.seq
 (.reg [b1 67 .eql 27 (.int .i64 3),
 mt 66 67])
 (.cond (.t 66)
 (.seq
 (.regd [ii 68 (.at 0 (.load 5 true false)) [.t 3],
 ii 69 (.at 1 (.load 4 true false)) [.t 4],
 ii 70 (.at 2 (.load 2 true false)) [.t 5],
 ii 71 (.pl (.call 57)) [.t 68, .t 69, .t 70],
 mv 72 71,
 gt 73 72 (.mov false) [.t 7],
 gt 74 72 (.bin .eql) [.t 73, .c (.p (.int .i64 2))],
 ii 75 .pick [.t 72, .t 74, .c (.p (.bool false))],
 mv 76 75,
 gt 77 76 (.fad 1) [.t 5],
 gt 78 76 (.at 2 (.load 1 false false)) [.t 77],
 gt 79 76 (.iad 4) [.t 78, .c (.p (.int .i64 0))],
 gt 80 76 (.fad 2) [.t 79],
 gt 81 76 (.loadp 1 false) [.t 80],
 gt 82 76 (.fad 1) [.t 5],
 gt 83 76 (.at 2 (.load 1 false false)) [.t 82],
 gt 84 76 (.iad 4) [.t 83, .c (.p (.int .i64 0))],
 gt 85 76 (.fad 3) [.t 84],
 gt 86 76 (.loadp 1 false) [.t 85],
 gt 87 76 (.bin .eql) [.t 81, .t 86],
 ii 88 .pick [.t 76, .t 87, .c (.p (.bool false))],
 mt 6 88])
 .ret)
 .skip))))))))
 (.seq
 (.reg [mc 6 (.bool false)])
 .ret)))))⟩
theorem k22 : chkF Tryz.prog 22 F22 = true := by kernel_rfl
def F19 : Fn := ⟨64, 3, [.cell 6 2, .tmp 7],
 (.seq
 (.reg [ii 3 (.box 0 5) [.t 0],
 ii 5 (.box 1 4) [.t 2],
 ⟨some 6, none, .alloc 2 2 [.p (.int .i64 0), .ow 4 true []], []⟩,
 mc 7 (.bool false)])
 (.seq
 (.seq
 (.reg [ii 12 (.load 5 true false) [.t 3],
 ii 13 (.call 51) [.t 12],
 ii 14 (.un .not) [.t 13],
 mv 15 14,
 gf 16 15 (.load 5 true false) [.t 3],
 gf 17 15 (.load 4 true false) [.t 5],
 gf 18 15 (.call 52) [.t 16, .t 17],
 gf 19 15 (.un .not) [.t 18],
 ii 20 .pick [.t 15, .c (.p (.bool true)), .t 19],
 mv 21 20,
 gf 22 21 (.fad 3) [.t 5],
 gf 23 21 (.load 1 false false) [.t 22],
 gf 24 21 .len [.t 23],
 gf 25 21 (.bin .gtr) [.t 24, .c (.p (.int .i64 0))],
 ii 26 .pick [.t 21, .c (.p (.bool true)), .t 25],
 mv 27 26,
 gf 28 27 (.mov false) [.t 1],
 gf 29 27 .len [.t 28],
 gf 30 27 (.fad 0) [.t 3],
 gf 31 27 (.load 1 false false) [.t 30],
 gf 32 27 (.bin .neq) [.t 29, .t 31],
 ii 33 .pick [.t 27, .c (.p (.bool true)), .t 32]])
 (.cond (.t 33)
 (.seq
 (.reg [⟨some 34, none, .build [.int .i64 0, .sl 4 true []] [], []⟩,
 ⟨none, none, .store 2, [.t 6, .t 34]⟩,
 mc 7 (.bool false)])
 .ret)
 .skip))
 (.seq
 (.seq
 (.reg [mc 8 (.int .i64 2)])
 (.block 0
 (.loop [0, 2, 7, 9, 10, 11, 12, 13, 14, 15, 16, 17, 18, 19, 20, 21, 22, 23, 24, 25, 26, 27, 28, 29, 30, 31, 32, 33, 34, 35, 36, 37, 38, 39, 40, 41, 42, 43, 44, 45, 46, 47, 48, 49, 50, 51, 52, 53, 54, 55, 56, 57, 58, 59, 60, 61, 62, 63] []
 (.seq
 (.seq
 (.reg [mv 35 8,
 fa 36 0 3,
 ld 37 36,
 b2 38 .leq 35 37])
 (.cond (.t 38)
 .skip
 (.exit 0)))
 (.seq
 (.block 1
 (.seq
 (.reg [ii 41 (.load 5 true false) [.t 3],
 ii 42 (.load 4 true false) [.t 5],
 mv 43 8,
 ii 44 (.call 43) [.t 41, .t 42, .t 43],
 mt 9 44])
 (.seq
 (.seq
 (.reg [mv 45 9,
 b1 46 .eql 45 (.int .i64 0)])
 (.cond (.t 46)
 (.exit 0)
 .skip))
 (.seq
 (.regd [ii 48 (.at 0 (.load 5 true false)) [.t 3],
 ii 49 (.at 1 (.load 4 true false)) [.t 5],
 mv 50 9,
 ii 51 (.at 0 (.load 5 true false)) [.t 3],
 mv 52 1,
 ii 53 (.at 1 (.load 4 true false)) [.t 5],
 mv 54 8,
 mv 55 9,
 ii 56 (.pl (.call 54)) [.t 51, .t 52, .t 53, .t 54, .t 55],
 ii 57 (.pl (.call 53)) [.t 48, .t 49, .t 50, .t 56],
 mv 47 57,
 ii 58 (.extp 0) [.t 47],
 ii 59 (.extp 1) [.t 47],
 mt 10 58,
 mt 11 59])
 (.seq
 (.reg [mv 60 11])
 (.cond (.t 60)
 (.seq
 (.reg [mv 61 10,
 ⟨some 62, none, .build [.int .i64 0, .sl 4 true []] [(0, 1), (1, 1)], [.c (.p (.int .i64 2)), .t 61]⟩,
 ⟨none, none, .store 2, [.t 6, .t 62]⟩,
 mc 7 (.bool true)])
 .ret)
 .skip))))))
 (.reg [mv 39 8,
 b1 40 .add 39 (.int .i64 1),
 mt 8 40]))))))
 (.seq
 (.reg [⟨some 63, none, .build [.int .i64 0, .sl 4 true []] [], []⟩,
 ⟨none, none, .store 2, [.t 6, .t 63]⟩,
 mc 7 (.bool false)])
 .ret))))⟩
theorem k19 : chkF Tryz.prog 19 F19 = true := by kernel_rfl
def F43 : Fn := ⟨20, 2, [.tmp 6],
 (.seq
 (.reg [ii 3 (.box 0 5) [.t 0],
 ii 4 (.box 1 4) [.t 1],
 mc 6 (.int .i64 0)])
 (.seq
 (.seq
 (.reg [mv 7 2,
 b1 8 .lss 7 (.int .i64 1)])
 (.cond (.t 8)
 (.seq
 (.reg [mc 6 (.int .i64 0)])
 .ret)
 .skip))
 (.seq
 (.reg [fa 9 1 4,
 ld 10 9,
 mv 11 2,
 b1 12 .sub 11 (.int .i64 1),
 fa 13 2 3,
 ld 14 13,
 b2 15 .mul 12 14,
 b2 16 .sub 10 15,
 mv 17 2,
 ii 18 (.call 89) [.t 16, .t 17],
 ii 19 .mx [.t 18, .c (.p (.int .i64 0))],
 mt 6 19])
 .ret)))⟩
theorem k43 : chkF Tryz.prog 43 F43 = true := by kernel_rfl
def F20 : Fn := ⟨62, 4, [.cell 6 2, .tmp 7],
 (.seq
 (.reg [ii 3 (.box 0 5) [.t 0],
 ii 5 (.box 1 4) [.t 2],
 ⟨some 6, none, .alloc 2 2 [.p (.int .i64 0), .ow 4 true []], []⟩,
 mc 7 (.bool false)])
 (.seq
 (.seq
 (.reg [ii 12 (.load 5 true false) [.t 3],
 ii 13 (.call 51) [.t 12],
 ii 14 (.un .not) [.t 13],
 mv 15 14,
 gf 16 15 (.load 5 true false) [.t 3],
 gf 17 15 (.load 4 true false) [.t 5],
 gf 18 15 (.call 52) [.t 16, .t 17],
 gf 19 15 (.un .not) [.t 18],
 ii 20 .pick [.t 15, .c (.p (.bool true)), .t 19],
 mv 21 20,
 gf 22 21 (.fad 3) [.t 5],
 gf 23 21 (.load 1 false false) [.t 22],
 gf 24 21 .len [.t 23],
 gf 25 21 (.bin .gtr) [.t 24, .c (.p (.int .i64 0))],
 ii 26 .pick [.t 21, .c (.p (.bool true)), .t 25],
 mv 27 26,
 gf 28 27 (.mov false) [.t 1],
 gf 29 27 .len [.t 28],
 gf 30 27 (.fad 0) [.t 3],
 gf 31 27 (.load 1 false false) [.t 30],
 gf 32 27 (.bin .neq) [.t 29, .t 31],
 ii 33 .pick [.t 27, .c (.p (.bool true)), .t 32]])
 (.cond (.t 33)
 (.seq
 (.reg [⟨some 34, none, .build [.int .i64 0, .sl 4 true []] [], []⟩,
 ⟨none, none, .store 2, [.t 6, .t 34]⟩,
 mc 7 (.bool false)])
 .ret)
 .skip))
 (.seq
 (.seq
 (.reg [mv 35 1,
 ii 36 .len [.t 35],
 ii 37 (.mov false) [.c (.p (.int .i64 0))]])
 (.block 0
 (.loop [0, 2, 7, 8, 9, 10, 11, 12, 13, 14, 15, 16, 17, 18, 19, 20, 21, 22, 23, 24, 25, 26, 27, 28, 29, 30, 31, 32, 33, 34, 35, 38, 39, 40, 41, 42, 43, 44, 45, 46, 47, 48, 49, 50, 51, 52, 53, 54, 55, 56, 57, 58, 59, 60, 61] [3]
 (.seq
 (.reg [b2 38 .lss 37 36])
 (.seq
 (.cond (.t 38)
 .skip
 (.exit 0))
 (.seq
 (.block 1
 (.seq
 (.reg [mv 39 37,
 mt 8 39])
 (.seq
 (.reg [mv 40 1,
 ii 41 .len [.t 40],
 ii 42 (.mov false) [.c (.p (.int .i64 0))]])
 (.block 2
 (.loop [0, 2, 7, 9, 10, 11, 12, 13, 14, 15, 16, 17, 18, 19, 20, 21, 22, 23, 24, 25, 26, 27, 28, 29, 30, 31, 32, 33, 34, 35, 38, 39, 40, 43, 44, 45, 46, 47, 48, 49, 50, 51, 52, 53, 54, 55, 56, 57, 58, 59, 60, 61] [3]
 (.seq
 (.reg [b2 43 .lss 42 41])
 (.seq
 (.cond (.t 43)
 .skip
 (.exit 2))
 (.seq
 (.block 3
 (.seq
 (.reg [mv 44 42,
 mt 9 44])
 (.seq
 (.seq
 (.reg [mv 45 8,
 mv 46 9,
 b2 47 .eql 45 46])
 (.cond (.t 47)
 (.exit 3)
 .skip))
 (.seq
 (.reg [ii 49 (.load 5 true false) [.t 3],
 mv 50 1,
 ii 51 (.load 4 true false) [.t 5],
 mv 52 8,
 mv 53 9,
 ii 54 (.call 55) [.t 49, .t 50, .t 51, .t 52, .t 53],
 mv 48 54,
 ii 55 (.ext 0) [.t 48],
 ii 56 (.ext 1) [.t 48],
 ⟨some 10, none, .alloc 3 2 [.p (.int .i64 0), .ow 4 true []], []⟩,
 ⟨none, none, .store 2, [.t 10, .t 55]⟩,
 mt 11 56])
 (.seq
 (.reg [mv 57 11])
 (.cond (.t 57)
 (.seq
 (.reg [ii 58 (.load 2 true false) [.t 10],
 ⟨none, none, .store 2, [.t 6, .t 58]⟩,
 mc 7 (.bool true)])
 .ret)
 .skip))))))
 (.reg [b1 59 .add 42 (.int .i64 1),
 mv 42 59])))))))))
 (.reg [b1 60 .add 37 (.int .i64 1),
 mv 37 60])))))))
 (.seq
 (.reg [⟨some 61, none, .build [.int .i64 0, .sl 4 true []] [], []⟩,
 ⟨none, none, .store 2, [.t 6, .t 61]⟩,
 mc 7 (.bool false)])
 .ret))))⟩
theorem k20 : chkF Tryz.prog 20 F20 = true := by kernel_rfl
def F49 : Fn := ⟨15, 0, [.tmp 2],
 (.seq
 (.reg [mc 2 (.bool false)])
 (.seq
 (.reg [mv 6 0,
 ii 7 (.call 94) [.t 6],
 mv 5 7,
 ii 8 (.ext 0) [.t 5],
 ii 9 (.ext 1) [.t 5],
 mt 3 8,
 mt 4 9])
 (.seq
 (.reg [mv 10 4,
 mv 11 10,
 gt 12 11 (.mov false) [.t 3],
 gt 13 11 (.bin .eql) [.t 12, .c (.p (.int .i64 0))],
 ii 14 .pick [.t 11, .t 13, .c (.p (.bool false))],
 mt 2 14])
 .ret)))⟩
theorem k49 : chkF Tryz.prog 49 F49 = true := by kernel_rfl
def F34 : Fn := ⟨19, 2, [.tmp 2],
 (.seq
 (.reg [ii 1 (.box 0 2) [.t 0],
 mc 2 (.int .i64 0)])
 (.seq
 (.reg [mc 3 (.int .i64 0)])
 (.seq
 (.seq
 (.reg [fa 6 1 1,
 ld 7 6,
 ii 8 .len [.t 7],
 ii 9 (.mov false) [.c (.p (.int .i64 0))]])
 (.block 0
 (.loop [0, 1, 2, 5, 6, 10, 11, 12, 13, 14, 15, 16, 17, 18] [1]
 (.seq
 (.reg [b2 10 .lss 9 8])
 (.seq
 (.cond (.t 10)
 .skip
 (.exit 0))
 (.seq
 (.block 1
 (.seq
 (.reg [ii 11 (.iad 4) [.t 7, .t 9],
 ii 12 (.load 4 true false) [.t 11],
 ⟨some 5, none, .alloc 1 4 [.p (.int .i64 0), .p (.int .i64 0), .p (.int .i64 0), .p (.int .i64 0)], []⟩,
 ⟨none, none, .store 4, [.t 5, .t 12]⟩])
 (.reg [mv 13 3,
 fa 14 3 5,
 ld 15 14,
 b2 16 .add 13 15,
 mt 3 16])))
 (.reg [b1 17 .add 9 (.int .i64 1),
 mv 9 17])))))))
 (.seq
 (.reg [mv 18 3,
 mt 2 18])
 .ret))))⟩
theorem k34 : chkF Tryz.prog 34 F34 = true := by kernel_rfl
def F23 : Fn := ⟨171, 4, [.tmp 6],
 (.seq
 (.reg [ii 3 (.box 0 5) [.t 0],
 ii 4 (.box 1 4) [.t 1],
 ii 5 (.box 2 2) [.t 2],
 mc 6 (.bool false)])
 (.seq
 (.reg [fa 12 1 5,
 ld 13 12,
 ii 14 .len [.t 13],
 mt 7 14])
 (.seq
 (.reg [mc 8 (.int .i64 0)])
 (.seq
 (.seq
 (.reg [mc 9 (.int .i64 0)])
 (.block 0
 (.loop [0, 1, 2, 6, 10, 11, 12, 13, 14, 15, 16, 17, 18, 19, 20, 21, 22, 23, 24, 25, 26, 27, 28, 29, 30, 31, 32, 33, 34, 35, 36, 37, 38, 39, 40, 41, 42, 43, 44, 45, 46, 47, 48, 49, 50, 51, 52, 53, 54, 55, 56, 57, 58, 59, 60, 61, 62, 63, 64, 65, 66, 67, 68, 69, 70, 71, 72, 73, 74, 75, 76, 77, 78, 79, 80, 81, 82, 83, 84, 85, 86, 87, 88, 89, 90, 91, 92, 93, 94, 95, 96, 97, 98, 99, 100, 101, 102, 103, 104, 105, 106, 107, 108, 109, 110, 111, 112, 113, 114, 115, 116, 117, 118, 119, 120, 121, 122, 123, 124, 125, 126, 127, 128, 129, 130, 131, 132, 133, 134, 135, 136, 137, 138, 139, 140, 141, 142, 143, 144, 145, 146, 147, 148, 149, 150, 151, 152, 153, 154, 155, 156, 157, 158, 159, 160, 161, 162, 163, 164, 165, 166, 167, 168, 169, 170] [3]
 (.seq
 (.seq
 (.reg [mv 15 9,
 mv 16 7,
 b2 17 .lss 15 16])
 (.cond (.t 17)
 .skip
 (.exit 0)))
 (.seq
 (.block 1
 (.seq
 (.reg [fa 20 1 5,
 ld 21 20,
 mv 22 9,
 ii 23 (.iad 4) [.t 21, .t 22],
 ii 24 (.load 4 true false) [.t 23],
 ⟨some 10, none, .alloc 3 4 [.p (.int .i64 0), .p (.int .i64 0), .p (.int .i64 0), .p (.int .i64 0)], []⟩,
 ⟨none, none, .store 4, [.t 10, .t 24]⟩])
 (.seq
 (.seq
 (.reg [ii 25 (.load 5 true false) [.t 3],
 ii 26 (.load 4 true false) [.t 10],
 ii 27 (.call 58) [.t 25, .t 26],
 ii 28 (.un .not) [.t 27]])
 (.cond (.t 28)
 (.seq
 (.reg [mc 6 (.bool false)])
 .ret)
 .skip))
 (.seq
 (.reg [mv 29 8,
 fa 30 3 10,
 ld 31 30,
 b2 32 .add 29 31,
 mt 8 32])
 (.seq
 (.seq
 (.reg [mc 11 (.int .i64 0)])
 (.block 2
 (.loop [0, 1, 2, 6, 12, 13, 14, 15, 16, 17, 18, 19, 20, 21, 22, 23, 24, 25, 26, 27, 28, 29, 30, 31, 32, 33, 34, 35, 36, 37, 38, 39, 40, 41, 42, 43, 44, 45, 46, 47, 48, 49, 50, 51, 52, 53, 54, 55, 56, 57, 58, 59, 60, 61, 62, 63, 64, 65, 66, 67, 68, 69, 70, 71, 72, 73, 74, 75, 76, 77, 78, 79, 80, 81, 82, 83, 84, 85, 86, 87, 88, 89, 90, 91, 92, 93, 94, 95, 96, 97, 98, 99, 100, 101, 102, 103, 104, 105, 106, 107, 108, 109, 110, 111, 112, 113, 114, 115, 116, 117, 118, 119, 120, 121, 122, 123, 124, 125, 126, 127, 128, 129, 130, 131, 132, 133, 134, 135, 136, 137, 138, 139, 140, 141, 142, 143, 144, 145, 146, 147, 148, 149, 150, 151, 152, 153, 154, 155, 156, 157, 158, 159, 160, 161, 162, 163, 164, 165, 166, 167, 168, 169, 170] []
 (.seq
 (.seq
 (.reg [mv 33 11,
 mv 34 9,
 b2 35 .lss 33 34])
 (.cond (.t 35)
 .skip
 (.exit 2)))
 (.seq
 (.block 3
 (.seq
 (.regd [fa 38 1 5,
 ii 39 (.at 2 (.load 1 false false)) [.t 38],
 mv 40 11,
 ii 41 (.iad 4) [.t 39, .t 40],
 fa 42 0 41,
 ii 43 (.loadp 1 false) [.t 42],
 fa 44 0 10,
 ii 45 (.at 3 (.load 1 false false)) [.t 44],
 b2 46 .eql 43 45])
 (.cond (.t 46)
 (.seq
 (.reg [mc 6 (.bool false)])
 .ret)
 .skip)))
 (.reg [mv 36 11,
 b1 37 .add 36 (.int .i64 1),
 mt 11 37]))))))
 (.seq
 (.regd [mv 47 9,
 b1 48 .eql 47 (.int .i64 0),
 mv 49 48,
 gt 50 49 (.fad 1) [.t 10],
 gt 51 49 (.at 3 (.load 1 false false)) [.t 50],
 gt 52 49 (.bin .neq) [.t 51, .c (.p (.int .i64 0))],
 ii 53 .pick [.t 49, .t 52, .c (.p (.bool false))],
 mv 54 53,
 gf 55 54 (.mov false) [.t 9],
 gf 56 54 (.bin .gtr) [.t 55, .c (.p (.int .i64 0))],
 gf 57 54 (.mov false) [.t 56],
 gt 58 57 (.fad 1) [.t 10],
 gt 59 57 (.at 3 (.load 1 false false)) [.t 58],
 gt 60 57 (.fad 1) [.t 5],
 gt 61 57 (.at 2 (.load 1 false false)) [.t 60],
 gt 62 57 (.mov false) [.t 9],
 gt 63 57 (.bin .sub) [.t 62, .c (.p (.int .i64 1))],
 gt 64 57 (.iad 4) [.t 61, .t 63],
 gt 65 57 (.fad 1) [.t 64],
 gt 66 57 (.loadp 1 false) [.t 65],
 gt 67 57 (.fad 1) [.t 5],
 gt 68 57 (.at 2 (.load 1 false false)) [.t 67],
 gt 69 57 (.mov false) [.t 9],
 gt 70 57 (.bin .sub) [.t 69, .c (.p (.int .i64 1))],
 gt 71 57 (.iad 4) [.t 68, .t 70],
 gt 72 57 (.fad 2) [.t 71],
 gt 73 57 (.loadp 1 false) [.t 72],
 gt 74 57 (.bin .add) [.t 66, .t 73],
 gt 75 57 (.fad 2) [.t 3],
 gt 76 57 (.at 0 (.load 1 false false)) [.t 75],
 gt 77 57 (.bin .add) [.t 74, .t 76],
 gt 78 57 (.bin .lss) [.t 59, .t 77],
 gt 79 57 (.mov false) [.t 78],
 gf 80 79 (.fad 3) [.t 10],
 gf 81 79 (.at 3 (.load 1 false false)) [.t 80],
 gf 82 79 (.fad 3) [.t 3],
 gf 83 79 (.at 0 (.load 1 false false)) [.t 82],
 gf 84 79 (.bin .leq) [.t 81, .t 83],
 gt 85 57 .pick [.t 79, .c (.p (.bool true)), .t 84],
 gf 86 54 .pick [.t 57, .t 85, .c (.p (.bool false))],
 ii 87 .pick [.t 54, .c (.p (.bool true)), .t 86]])
 (.cond (.t 87)
 (.seq
 (.reg [mc 6 (.bool false)])
 .ret)
 .skip)))))))
 (.reg [mv 18 9,
 b1 19 .add 18 (.int .i64 1),
 mt 9 19]))))))
 (.seq
 (.seq
 (.regd [mv 88 7,
 b1 89 .eql 88 (.int .i64 0),
 mv 90 89,
 gf 91 90 (.mov false) [.t 8],
 gf 92 90 (.fad 0) [.t 4],
 gf 93 90 (.at 1 (.load 1 false false)) [.t 92],
 gf 94 90 (.mov false) [.t 7],
 gf 95 90 (.bin .sub) [.t 94, .c (.p (.int .i64 1))],
 gf 96 90 (.fad 3) [.t 3],
 gf 97 90 (.at 0 (.load 1 false false)) [.t 96],
 gf 98 90 (.bin .mul) [.t 95, .t 97],
 gf 99 90 (.bin .add) [.t 93, .t 98],
 gf 100 90 (.bin .neq) [.t 91, .t 99],
 ii 101 .pick [.t 90, .c (.p (.bool true)), .t 100],
 mv 102 101,
 gf 103 102 (.fad 1) [.t 5],
 gf 104 102 (.at 2 (.load 1 false false)) [.t 103],
 gf 105 102 (.mov false) [.t 7],
 gf 106 102 (.bin .sub) [.t 105, .c (.p (.int .i64 1))],
 gf 107 102 (.iad 4) [.t 104, .t 106],
 gf 108 102 (.fad 1) [.t 107],
 gf 109 102 (.loadp 1 false) [.t 108],
 gf 110 102 (.fad 1) [.t 5],
 gf 111 102 (.at 2 (.load 1 false false)) [.t 110],
 gf 112 102 (.mov false) [.t 7],
 gf 113 102 (.bin .sub) [.t 112, .c (.p (.int .i64 1))],
 gf 114 102 (.iad 4) [.t 111, .t 113],
 gf 115 102 (.fad 2) [.t 114],
 gf 116 102 (.loadp 1 false) [.t 115],
 gf 117 102 (.bin .add) [.t 109, .t 116],
 gf 118 102 (.fad 1) [.t 4],
 gf 119 102 (.at 1 (.load 1 false false)) [.t 118],
 gf 120 102 (.bin .gtr) [.t 117, .t 119],
 ii 121 .pick [.t 102, .c (.p (.bool true)), .t 120]])
 (.cond (.t 121)
 (.seq
 (.reg [mc 6 (.bool false)])
 .ret)
 .skip))
 (.seq
 (.seq
 (.reg [fa 122 0 5,
 ld 123 122])
 (.block 4
 (.seq
 (.reg [b1 125 .eql 123 (.int .i64 1),
 mt 124 125])
 (.cond (.t 124)
 (.seq
 (.regd [mv 126 7,
 b1 127 .eql 126 (.int .i64 1),
 mv 128 127,
 gt 129 128 (.fad 1) [.t 5],
 gt 130 128 (.at 2 (.load 1 false false)) [.t 129],
 gt 131 128 (.iad 4) [.t 130, .c (.p (.int .i64 0))],
 gt 132 128 (.fad 2) [.t 131],
 gt 133 128 (.loadp 1 false) [.t 132],
 gt 134 128 (.fad 1) [.t 4],
 gt 135 128 (.at 1 (.load 1 false false)) [.t 134],
 gt 136 128 (.bin .eql) [.t 133, .t 135],
 ii 137 .pick [.t 128, .t 136, .c (.p (.bool false))],
 mt 6 137])
 .ret)
 (.seq
 (.reg [b1 139 .eql 123 (.int .i64 2),
 mt 138 139])
 (.cond (.t 138)
 (.seq
 (.reg [mv 140 7,
 b1 141 .geq 140 (.int .i64 2),
 mv 142 141,
 gt 143 142 (.fad 3) [.t 4],
 gt 144 142 (.load 1 false false) [.t 143],
 gt 145 142 .len [.t 144],
 gt 146 142 (.bin .eql) [.t 145, .c (.p (.int .i64 0))],
 ii 147 .pick [.t 142, .t 146, .c (.p (.bool false))],
 mt 6 147])
 .ret)
 (.seq
 (.reg [b1 149 .eql 123 (.int .i64 3),
 mt 148 149])
 (.cond (.t 148)
 (.seq
 (.regd [mv 150 7,
 b1 151 .eql 150 (.int .i64 2),
 mv 152 151,
 gt 153 152 (.fad 3) [.t 4],
 gt 154 152 (.at 1 (.load 1 false false)) [.t 153],
 gt 155 152 .lenD [.t 154],
 gt 156 152 (.bin .eql) [.t 155, .c (.p (.int .i64 0))],
 ii 157 .pick [.t 152, .t 156, .c (.p (.bool false))],
 mv 158 157,
 gt 159 158 (.fad 1) [.t 5],
 gt 160 158 (.at 2 (.load 1 false false)) [.t 159],
 gt 161 158 (.iad 4) [.t 160, .c (.p (.int .i64 0))],
 gt 162 158 (.fad 2) [.t 161],
 gt 163 158 (.loadp 1 false) [.t 162],
 gt 164 158 (.fad 1) [.t 5],
 gt 165 158 (.at 2 (.load 1 false false)) [.t 164],
 gt 166 158 (.iad 4) [.t 165, .c (.p (.int .i64 0))],
 gt 167 158 (.fad 3) [.t 166],
 gt 168 158 (.loadp 1 false) [.t 167],
 gt 169 158 (.bin .eql) [.t 163, .t 168],
 ii 170 .pick [.t 158, .t 169, .c (.p (.bool false))],
 mt 6 170])
 .ret)
 .skip))))))))
 (.seq
 (.reg [mc 6 (.bool false)])
 .ret)))))))⟩
theorem k23 : chkF Tryz.prog 23 F23 = true := by kernel_rfl
def F24 : Fn := ⟨17, 2, [.tmp 4],
 (.seq
 (.reg [ii 2 (.box 0 2) [.t 0],
 ii 3 (.box 1 2) [.t 1],
 mc 4 (.bool false)])
 (.seq
 (.reg [fa 5 0 2,
 ld 6 5,
 fa 7 0 3,
 ld 8 7,
 b2 9 .eql 6 8,
 mv 10 9,
 gt 11 10 (.fad 1) [.t 2],
 gt 12 10 (.load 1 false false) [.t 11],
 gt 13 10 (.fad 1) [.t 3],
 gt 14 10 (.load 1 false false) [.t 13],
 gt 15 10 (.call 59) [.t 12, .t 14],
 ii 16 .pick [.t 10, .t 15, .c (.p (.bool false))],
 mt 4 16])
 .ret))⟩
theorem k24 : chkF Tryz.prog 24 F24 = true := by kernel_rfl
def F44 : Fn := ⟨31, 1, [.tmp 6],
 (.seq
 (.reg [ii 3 (.box 0 2) [.t 0],
 mc 6 (.int .i64 0)])
 (.seq
 (.seq
 (.reg [mv 7 1,
 b1 8 .lss 7 (.int .i64 0),
 mv 9 8,
 gf 10 9 (.mov false) [.t 1],
 gf 11 9 (.fad 1) [.t 3],
 gf 12 9 (.load 1 false false) [.t 11],
 gf 13 9 .len [.t 12],
 gf 14 9 (.bin .geq) [.t 10, .t 13],
 ii 15 .pick [.t 9, .c (.p (.bool true)), .t 14]])
 (.cond (.t 15)
 (.seq
 (.reg [mc 6 (.int .i64 0)])
 .ret)
 .skip))
 (.seq
 (.regd [mv 16 2,
 fa 17 1 3,
 ii 18 (.at 0 (.load 1 false false)) [.t 17],
 mv 19 1,
 ii 20 (.iad 4) [.t 18, .t 19],
 fa 21 1 20,
 ii 22 (.loadp 1 false) [.t 21],
 b2 23 .add 16 22,
 fa 24 1 3,
 ii 25 (.at 0 (.load 1 false false)) [.t 24],
 mv 26 1,
 ii 27 (.iad 4) [.t 25, .t 26],
 fa 28 2 27,
 ii 29 (.loadp 1 false) [.t 28],
 b2 30 .add 23 29,
 mt 6 30])
 .ret)))⟩
theorem k44 : chkF Tryz.prog 44 F44 = true := by kernel_rfl
def F48 : Fn := ⟨9, 0, [.tmp 2],
 (.seq
 (.reg [ii 2 (.mov true) [.c (.ow 3 true [])]])
 (.seq
 (.reg [mv 3 0,
 mv 4 0,
 ii 5 .len [.t 4],
 ii 6 .mn [.t 5, .c (.p (.int .i64 10))],
 ii 7 (.slc 3 false true) [.t 3, .t 6],
 ii 8 (.app 3 24) [.c (.ow 3 true []), .t 7],
 mt 2 8])
 .ret))⟩
theorem k48 : chkF Tryz.prog 48 F48 = true := by kernel_rfl
def F42 : Fn := ⟨2, 0, [.tmp 0],
 (.seq
 (.reg [mc 0 (.bool false)])
 (.seq
 (.reg [ii 1 (.call 88) [],
 mt 0 1])
 .ret))⟩
theorem k42 : chkF Tryz.prog 42 F42 = true := by kernel_rfl
def F46 : Fn := ⟨13, 2, [.cell 2 5],
 (.seq
 (.reg [ii 1 (.box 0 5) [.t 0],
 ⟨some 2, none, .alloc 1 5 [.p (.int .i64 0), .p (.int .i64 0), .p (.int .i64 0), .p (.int .i64 0), .ow 1 true []], []⟩])
 (.seq
 (.reg [fa 3 4 1,
 ld 4 3,
 fa 5 4 1,
 ld 6 5,
 ii 7 .len [.t 6],
 ii 8 .mn [.t 7, .c (.p (.int .i64 8))],
 ii 9 (.slc 1 false true) [.t 4, .t 8],
 ii 10 (.app 1 8) [.c (.ow 1 true []), .t 9],
 fa 11 4 1,
 ⟨none, none, .store 1, [.t 11, .t 10]⟩])
 (.seq
 (.reg [ii 12 (.load 5 true false) [.t 1],
 ⟨none, none, .store 5, [.t 2, .t 12]⟩])
 .ret)))⟩
theorem k46 : chkF Tryz.prog 46 F46 = true := by kernel_rfl
def F47 : Fn := ⟨51, 1, [.tmp 2],
 (.seq
 (.reg [ii 1 (.box 0 5) [.t 0],
 mc 2 (.bool false)])
 (.seq
 (.seq
 (.reg [mc 3 (.int .i64 0)])
 (.block 0
 (.loop [0, 2, 4, 5, 6, 7, 8, 9, 10, 11, 12, 13, 14, 15, 16, 17, 18, 19, 20, 21, 22, 23, 24, 25, 26, 27, 28, 29, 30, 31, 32, 33, 34, 35, 36, 37, 38, 39, 40, 41, 42, 43, 44, 45, 46, 47, 48, 49, 50] []
 (.seq
 (.seq
 (.reg [mv 4 3,
 fa 5 4 1,
 ld 6 5,
 ii 7 .len [.t 6],
 b2 8 .lss 4 7])
 (.cond (.t 8)
 .skip
 (.exit 0)))
 (.seq
 (.block 1
 (.seq
 (.regd [fa 11 4 1,
 ii 12 (.at 0 (.load 1 false false)) [.t 11],
 mv 13 3,
 ii 14 (.iad 1) [.t 12, .t 13],
 ii 15 (.loadp 1 false) [.t 14],
 b1 16 .lss 15 (.int .i64 0),
 mv 17 16,
 gf 18 17 (.fad 4) [.t 1],
 gf 19 17 (.at 0 (.load 1 false false)) [.t 18],
 gf 20 17 (.mov false) [.t 3],
 gf 21 17 (.iad 1) [.t 19, .t 20],
 gf 22 17 (.loadp 1 false) [.t 21],
 gf 23 17 (.fad 1) [.t 1],
 gf 24 17 (.at 0 (.load 1 false false)) [.t 23],
 gf 25 17 (.bin .geq) [.t 22, .t 24],
 ii 26 .pick [.t 17, .c (.p (.bool true)), .t 25]])
 (.cond (.t 26)
 (.seq
 (.reg [mc 2 (.bool false)])
 .ret)
 .skip)))
 (.reg [mv 9 3,
 b1 10 .add 9 (.int .i64 1),
 mt 3 10]))))))
 (.seq
 (.reg [fa 27 0 1,
 ld 28 27,
 ii 29 (.call 93) [.t 28, .c (.p (.int .i64 1)), .c (.p (.int .i64 6))],
 mv 30 29,
 gt 31 30 (.fad 1) [.t 1],
 gt 32 30 (.load 1 false false) [.t 31],
 gt 33 30 (.call 93) [.t 32, .c (.p (.int .i64 0)), .c (.p (.int .i64 3))],
 ii 34 .pick [.t 30, .t 33, .c (.p (.bool false))],
 mv 35 34,
 gt 36 35 (.fad 2) [.t 1],
 gt 37 35 (.load 1 false false) [.t 36],
 gt 38 35 (.call 93) [.t 37, .c (.p (.int .i64 0)), .c (.p (.int .i64 5))],
 ii 39 .pick [.t 35, .t 38, .c (.p (.bool false))],
 mv 40 39,
 gt 41 40 (.fad 3) [.t 1],
 gt 42 40 (.load 1 false false) [.t 41],
 gt 43 40 (.call 93) [.t 42, .c (.p (.int .i64 0)), .c (.p (.int .i64 5))],
 ii 44 .pick [.t 40, .t 43, .c (.p (.bool false))],
 mv 45 44,
 gt 46 45 (.fad 4) [.t 1],
 gt 47 45 (.load 1 false false) [.t 46],
 gt 48 45 .len [.t 47],
 gt 49 45 (.bin .leq) [.t 48, .c (.p (.int .i64 6))],
 ii 50 .pick [.t 45, .t 49, .c (.p (.bool false))],
 mt 2 50])
 .ret)))⟩
theorem k47 : chkF Tryz.prog 47 F47 = true := by kernel_rfl
def F30 : Fn := ⟨13, 2, [.cell 2 4],
 (.seq
 (.reg [ii 1 (.box 0 4) [.t 0],
 ⟨some 2, none, .alloc 1 4 [.p (.int .i64 0), .p (.int .i64 0), .p (.int .i64 0), .ow 3 true []], []⟩])
 (.seq
 (.reg [fa 3 3 1,
 ld 4 3,
 fa 5 3 1,
 ld 6 5,
 ii 7 .len [.t 6],
 ii 8 .mn [.t 7, .c (.p (.int .i64 4))],
 ii 9 (.slc 3 false true) [.t 4, .t 8],
 ii 10 (.app 3 24) [.c (.ow 3 true []), .t 9],
 fa 11 3 1,
 ⟨none, none, .store 1, [.t 11, .t 10]⟩])
 (.seq
 (.reg [ii 12 (.load 4 true false) [.t 1],
 ⟨none, none, .store 4, [.t 2, .t 12]⟩])
 .ret)))⟩
theorem k30 : chkF Tryz.prog 30 F30 = true := by kernel_rfl
def F50 : Fn := ⟨89, 3, [.tmp 4],
 (.seq
 (.reg [ii 2 (.box 0 5) [.t 0],
 ii 3 (.box 1 4) [.t 1],
 mc 4 (.bool false)])
 (.seq
 (.seq
 (.reg [fa 7 0 3,
 ld 8 7,
 b1 9 .lss 8 (.int .i64 1),
 mv 10 9,
 gf 11 10 (.fad 1) [.t 3],
 gf 12 10 (.load 1 false false) [.t 11],
 gf 13 10 (.fad 0) [.t 3],
 gf 14 10 (.load 1 false false) [.t 13],
 gf 15 10 (.bin .lss) [.t 12, .t 14],
 ii 16 .pick [.t 10, .c (.p (.bool true)), .t 15],
 mv 17 16,
 gf 18 17 (.fad 2) [.t 3],
 gf 19 17 (.load 1 false false) [.t 18],
 gf 20 17 (.fad 1) [.t 3],
 gf 21 17 (.load 1 false false) [.t 20],
 gf 22 17 (.bin .lss) [.t 19, .t 21],
 ii 23 .pick [.t 17, .c (.p (.bool true)), .t 22],
 mv 24 23,
 gf 25 24 (.fad 2) [.t 3],
 gf 26 24 (.load 1 false false) [.t 25],
 gf 27 24 (.bin .gtr) [.t 26, .c (.p (.int .i64 200))],
 ii 28 .pick [.t 24, .c (.p (.bool true)), .t 27],
 mv 29 28,
 gf 30 29 (.fad 3) [.t 3],
 gf 31 29 (.load 1 false false) [.t 30],
 gf 32 29 .len [.t 31],
 gf 33 29 (.bin .gtr) [.t 32, .c (.p (.int .i64 2))],
 ii 34 .pick [.t 29, .c (.p (.bool true)), .t 33]])
 (.cond (.t 34)
 (.seq
 (.reg [mc 4 (.bool false)])
 .ret)
 .skip))
 (.seq
 (.seq
 (.reg [mc 5 (.int .i64 0)])
 (.block 0
 (.loop [0, 1, 4, 6, 7, 8, 9, 10, 11, 12, 13, 14, 15, 16, 17, 18, 19, 20, 21, 22, 23, 24, 25, 26, 27, 28, 29, 30, 31, 32, 33, 34, 35, 36, 37, 38, 39, 40, 41, 42, 43, 44, 45, 46, 47, 48, 49, 50, 51, 52, 53, 54, 55, 56, 57, 58, 59, 60, 61, 62, 63, 64, 65, 66, 67, 68, 69, 70, 71, 72, 73, 74, 75, 76, 77, 78, 79, 80, 81, 82, 83, 84, 85, 86, 87, 88] [2]
 (.seq
 (.seq
 (.reg [mv 35 5,
 fa 36 3 3,
 ld 37 36,
 ii 38 .len [.t 37],
 b2 39 .lss 35 38])
 (.cond (.t 39)
 .skip
 (.exit 0)))
 (.seq
 (.block 1
 (.seq
 (.reg [fa 42 3 3,
 ld 43 42,
 mv 44 5,
 ii 45 (.iad 3) [.t 43, .t 44],
 ii 46 (.load 3 true false) [.t 45],
 ⟨some 6, none, .alloc 2 3 [.p (.int .i64 0), .p (.int .i64 0), .p (.int .i64 0)], []⟩,
 ⟨none, none, .store 3, [.t 6, .t 46]⟩])
 (.seq
 (.regd [fa 47 0 6,
 ii 48 (.at 2 (.load 1 false false)) [.t 47],
 b1 49 .lss 48 (.int .i64 0),
 mv 50 49,
 gf 51 50 (.fad 0) [.t 6],
 gf 52 50 (.at 2 (.load 1 false false)) [.t 51],
 gf 53 50 (.fad 4) [.t 2],
 gf 54 50 (.at 0 (.load 1 false false)) [.t 53],
 gf 55 50 .lenD [.t 54],
 gf 56 50 (.bin .geq) [.t 52, .t 55],
 ii 57 .pick [.t 50, .c (.p (.bool true)), .t 56],
 mv 58 57,
 gf 59 58 (.fad 2) [.t 6],
 gf 60 58 (.at 2 (.load 1 false false)) [.t 59],
 gf 61 58 (.pl (.call 93)) [.t 60, .c (.p (.int .i64 1)), .c (.p (.int .i64 200))],
 gf 62 58 (.un .not) [.t 61],
 ii 63 .pick [.t 58, .c (.p (.bool true)), .t 62],
 mv 64 63,
 gf 65 64 (.fad 1) [.t 6],
 gf 66 64 (.at 2 (.load 1 false false)) [.t 65],
 gf 67 64 (.fad 0) [.t 3],
 gf 68 64 (.at 1 (.load 1 false false)) [.t 67],
 gf 69 64 (.bin .sub) [.t 68, .c (.p (.int .i64 1))],
 gf 70 64 (.pl (.call 93)) [.t 66, .c (.p (.int .i64 1)), .t 69],
 gf 71 64 (.un .not) [.t 70],
 ii 72 .pick [.t 64, .c (.p (.bool true)), .t 71],
 mv 73 72,
 gf 74 73 (.mov false) [.t 5],
 gf 75 73 (.bin .gtr) [.t 74, .c (.p (.int .i64 0))],
 gf 76 73 (.mov false) [.t 75],
 gt 77 76 (.fad 1) [.t 6],
 gt 78 76 (.at 2 (.load 1 false false)) [.t 77],
 gt 79 76 (.fad 3) [.t 3],
 gt 80 76 (.at 1 (.load 1 false false)) [.t 79],
 gt 81 76 (.mov false) [.t 5],
 gt 82 76 (.bin .sub) [.t 81, .c (.p (.int .i64 1))],
 gt 83 76 (.iad 3) [.t 80, .t 82],
 gt 84 76 (.fad 1) [.t 83],
 gt 85 76 (.loadp 1 false) [.t 84],
 gt 86 76 (.bin .leq) [.t 78, .t 85],
 gf 87 73 .pick [.t 76, .t 86, .c (.p (.bool false))],
 ii 88 .pick [.t 73, .c (.p (.bool true)), .t 87]])
 (.cond (.t 88)
 (.seq
 (.reg [mc 4 (.bool false)])
 .ret)
 .skip))))
 (.reg [mv 40 5,
 b1 41 .add 40 (.int .i64 1),
 mt 5 41]))))))
 (.seq
 (.reg [mc 4 (.bool true)])
 .ret))))⟩
theorem k50 : chkF Tryz.prog 50 F50 = true := by kernel_rfl
def F90 : Fn := ⟨19, 0, [.tmp 4],
 (.seq
 (.reg [mc 4 (.int .i64 0)])
 (.seq
 (.seq
 (.reg [mv 6 0,
 ii 7 .len [.t 6],
 ii 8 (.mov false) [.c (.p (.int .i64 0))]])
 (.block 0
 (.loop [4, 5, 6, 9, 10, 11, 12, 13, 14, 15, 16, 17, 18] []
 (.seq
 (.reg [b2 9 .lss 8 7])
 (.seq
 (.cond (.t 9)
 .skip
 (.exit 0))
 (.seq
 (.block 1
 (.seq
 (.reg [mv 10 8,
 mt 5 10])
 (.seq
 (.reg [mv 11 1,
 mv 12 0,
 mv 13 5,
 ii 14 (.iad 1) [.t 12, .t 13],
 ld 15 14,
 ii 16 .callv [.t 11, .t 15]])
 (.cond (.t 16)
 (.seq
 (.reg [mv 17 5,
 mt 4 17])
 .ret)
 .skip))))
 (.reg [b1 18 .add 8 (.int .i64 1),
 mv 8 18])))))))
 (.seq
 (.reg [mc 4 (.int .i64 (-1))])
 .ret)))⟩
theorem k90 : chkF Tryz.prog 90 F90 = true := by kernel_rfl
def F91 : Fn := ⟨10, 0, [.tmp 3],
 (.seq
 (.reg [mc 3 (.bool false)])
 (.seq
 (.regd [mv 4 0,
 ii 5 (.pl (.call 92)) [.t 4],
 ii 6 (.loadp 3 true) [.t 1],
 ii 7 (.bsl 3 1) [.t 6],
 ii 8 (.pl (.app 3 24)) [.t 5, .t 7],
 ii 9 (.pl (.call 32)) [.t 8],
 mt 3 9])
 .ret))⟩
theorem k91 : chkF Tryz.prog 91 F91 = true := by kernel_rfl
def F32 : Fn := ⟨22, 0, [.tmp 2],
 (.seq
 (.reg [mc 2 (.bool false)])
 (.seq
 (.reg [mv 8 0,
 ii 9 (.call 73) [.t 8],
 mv 7 9,
 ii 10 (.ext 0) [.t 7],
 ii 11 (.ext 1) [.t 7],
 mt 3 10,
 mt 4 11])
 (.seq
 (.reg [mv 13 0,
 ii 14 (.call 74) [.t 13],
 mv 12 14,
 ii 15 (.ext 0) [.t 12],
 ii 16 (.ext 1) [.t 12],
 mt 5 15,
 mt 6 16])
 (.seq
 (.reg [mv 17 4,
 mv 18 17,
 gt 19 18 (.mov false) [.t 6],
 gt 20 18 (.un .not) [.t 19],
 ii 21 .pick [.t 18, .t 20, .c (.p (.bool false))],
 mt 2 21])
 .ret))))⟩
theorem k32 : chkF Tryz.prog 32 F32 = true := by kernel_rfl
def F92 : Fn := ⟨8, 0, [.tmp 2],
 (.seq
 (.reg [ii 2 (.mov true) [.c (.ow 3 true [])]])
 (.seq
 (.seq
 (.reg [mv 3 0,
 ii 4 (.eqnil false) [.t 3, .c (.ow 3 true [])]])
 (.cond (.t 4)
 (.seq
 (.reg [ii 2 (.mov true) [.c (.ow 3 true [])]])
 .ret)
 .skip))
 (.seq
 (.reg [ii 5 (.bsl 3 0) [],
 mv 6 0,
 ii 7 (.app 3 24) [.t 5, .t 6],
 mt 2 7])
 .ret)))⟩
theorem k92 : chkF Tryz.prog 92 F92 = true := by kernel_rfl
def F51 : Fn := ⟨38, 1, [.tmp 2],
 (.seq
 (.reg [ii 1 (.box 0 5) [.t 0],
 mc 2 (.bool false)])
 (.seq
 (.seq
 (.reg [fa 4 0 1,
 ld 5 4,
 ii 6 (.call 95) [.t 5, .c (.p (.int .i64 1)), .c (.p (.int .i64 6))],
 ii 7 (.un .not) [.t 6],
 mv 8 7,
 gf 9 8 (.fad 1) [.t 1],
 gf 10 8 (.load 1 false false) [.t 9],
 gf 11 8 (.call 95) [.t 10, .c (.p (.int .i64 0)), .c (.p (.int .i64 3))],
 gf 12 8 (.un .not) [.t 11],
 ii 13 .pick [.t 8, .c (.p (.bool true)), .t 12],
 mv 14 13,
 gf 15 14 (.fad 2) [.t 1],
 gf 16 14 (.load 1 false false) [.t 15],
 gf 17 14 (.call 95) [.t 16, .c (.p (.int .i64 0)), .c (.p (.int .i64 5))],
 gf 18 14 (.un .not) [.t 17],
 ii 19 .pick [.t 14, .c (.p (.bool true)), .t 18],
 mv 20 19,
 gf 21 20 (.fad 3) [.t 1],
 gf 22 20 (.load 1 false false) [.t 21],
 gf 23 20 (.call 95) [.t 22, .c (.p (.int .i64 0)), .c (.p (.int .i64 5))],
 gf 24 20 (.un .not) [.t 23],
 ii 25 .pick [.t 20, .c (.p (.bool true)), .t 24]])
 (.cond (.t 25)
 (.seq
 (.reg [mc 2 (.bool false)])
 .ret)
 .skip))
 (.seq
 (.pre [] [0] [] (.reg [ii 26 (.mkfn 96) [.t 1],
 mt 3 26]))
 (.seq
 (.reg [fa 27 4 1,
 ld 28 27,
 ii 29 .len [.t 28],
 b1 30 .leq 29 (.int .i64 6),
 mv 31 30,
 gt 32 31 (.fad 4) [.t 1],
 gt 33 31 (.load 1 false false) [.t 32],
 gt 34 31 (.mov false) [.t 3],
 gt 35 31 (.call 97) [.t 33, .t 34],
 gt 36 31 (.un .not) [.t 35],
 ii 37 .pick [.t 31, .t 36, .c (.p (.bool false))],
 mt 2 37])
 .ret))))⟩
theorem k51 : chkF Tryz.prog 51 F51 = true := by kernel_rfl
def F52 : Fn := ⟨76, 3, [.tmp 4],
 (.seq
 (.reg [ii 2 (.box 0 5) [.t 0],
 ii 3 (.box 1 4) [.t 1],
 mc 4 (.bool false)])
 (.seq
 (.seq
 (.reg [fa 8 0 3,
 ld 9 8,
 b1 10 .lss 9 (.int .i64 1),
 mv 11 10,
 gf 12 11 (.fad 0) [.t 3],
 gf 13 11 (.load 1 false false) [.t 12],
 gf 14 11 (.fad 1) [.t 3],
 gf 15 11 (.load 1 false false) [.t 14],
 gf 16 11 (.bin .gtr) [.t 13, .t 15],
 ii 17 .pick [.t 11, .c (.p (.bool true)), .t 16],
 mv 18 17,
 gf 19 18 (.fad 1) [.t 3],
 gf 20 18 (.load 1 false false) [.t 19],
 gf 21 18 (.fad 2) [.t 3],
 gf 22 18 (.load 1 false false) [.t 21],
 gf 23 18 (.bin .gtr) [.t 20, .t 22],
 ii 24 .pick [.t 18, .c (.p (.bool true)), .t 23],
 mv 25 24,
 gf 26 25 (.fad 2) [.t 3],
 gf 27 25 (.load 1 false false) [.t 26],
 gf 28 25 (.bin .gtr) [.t 27, .c (.p (.int .i64 200))],
 ii 29 .pick [.t 25, .c (.p (.bool true)), .t 28],
 mv 30 29,
 gf 31 30 (.fad 3) [.t 3],
 gf 32 30 (.load 1 false false) [.t 31],
 gf 33 30 .len [.t 32],
 gf 34 30 (.bin .gtr) [.t 33, .c (.p (.int .i64 2))],
 ii 35 .pick [.t 30, .c (.p (.bool true)), .t 34]])
 (.cond (.t 35)
 (.seq
 (.reg [mc 4 (.bool false)])
 .ret)
 .skip))
 (.seq
 (.reg [mc 5 (.int .i64 0)])
 (.seq
 (.seq
 (.reg [fa 36 3 3,
 ld 37 36,
 ii 38 .len [.t 37],
 ii 39 (.mov false) [.c (.p (.int .i64 0))]])
 (.block 0
 (.loop [0, 1, 4, 7, 8, 9, 10, 11, 12, 13, 14, 15, 16, 17, 18, 19, 20, 21, 22, 23, 24, 25, 26, 27, 28, 29, 30, 31, 32, 33, 34, 35, 36, 40, 41, 42, 43, 44, 45, 46, 47, 48, 49, 50, 51, 52, 53, 54, 55, 56, 57, 58, 59, 60, 61, 62, 63, 64, 65, 66, 67, 68, 69, 70, 71, 72, 73, 74, 75] [2]
 (.seq
 (.reg [b2 40 .lss 39 38])
 (.seq
 (.cond (.t 40)
 .skip
 (.exit 0))
 (.seq
 (.block 1
 (.seq
 (.reg [ii 41 (.iad 3) [.t 37, .t 39],
 ii 42 (.load 3 true false) [.t 41],
 ⟨some 7, none, .alloc 2 3 [.p (.int .i64 0), .p (.int .i64 0), .p (.int .i64 0)], []⟩,
 ⟨none, none, .store 3, [.t 7, .t 42]⟩])
 (.seq
 (.seq
 (.reg [fa 43 0 7,
 ld 44 43,
 b1 45 .lss 44 (.int .i64 0),
 mv 46 45,
 gf 47 46 (.fad 0) [.t 7],
 gf 48 46 (.load 1 false false) [.t 47],
 gf 49 46 (.fad 4) [.t 2],
 gf 50 46 (.load 1 false false) [.t 49],
 gf 51 46 .len [.t 50],
 gf 52 46 (.bin .geq) [.t 48, .t 51],
 ii 53 .pick [.t 46, .c (.p (.bool true)), .t 52],
 mv 54 53,
 gf 55 54 (.fad 2) [.t 7],
 gf 56 54 (.load 1 false false) [.t 55],
 gf 57 54 (.call 95) [.t 56, .c (.p (.int .i64 1)), .c (.p (.int .i64 200))],
 gf 58 54 (.un .not) [.t 57],
 ii 59 .pick [.t 54, .c (.p (.bool true)), .t 58],
 mv 60 59,
 gf 61 60 (.fad 1) [.t 7],
 gf 62 60 (.load 1 false false) [.t 61],
 gf 63 60 (.mov false) [.t 5],
 gf 64 60 (.bin .leq) [.t 62, .t 63],
 ii 65 .pick [.t 60, .c (.p (.bool true)), .t 64],
 mv 66 65,
 gf 67 66 (.fad 1) [.t 7],
 gf 68 66 (.load 1 false false) [.t 67],
 gf 69 66 (.fad 0) [.t 3],
 gf 70 66 (.load 1 false false) [.t 69],
 gf 71 66 (.bin .geq) [.t 68, .t 70],
 ii 72 .pick [.t 66, .c (.p (.bool true)), .t 71]])
 (.cond (.t 72)
 (.seq
 (.reg [mc 4 (.bool false)])
 .ret)
 .skip))
 (.reg [fa 73 1 7,
 ld 74 73,
 mt 5 74]))))
 (.reg [b1 75 .add 39 (.int .i64 1),
 mv 39 75])))))))
 (.seq
 (.reg [mc 4 (.bool true)])
 .ret)))))⟩
theorem k52 : chkF Tryz.prog 52 F52 = true := by kernel_rfl
def F56 : Fn := ⟨30, 4, [.tmp 4],
 (.seq
 (.reg [ii 2 (.box 0 5) [.t 0],
 ii 3 (.box 1 2) [.t 1],
 mc 4 (.bool false)])
 (.seq
 (.reg [ii 8 (.mkmap 2) [],
 mt 5 8])
 (.seq
 (.seq
 (.reg [fa 9 1 3,
 ld 10 9,
 ii 11 .len [.t 10],
 ii 12 (.mov false) [.c (.p (.int .i64 0))]])
 (.block 0
 (.loop [0, 1, 3, 4, 7, 8, 9, 13, 14, 15, 16, 17, 18, 19, 20, 21, 22, 23, 24, 25, 26, 27, 28, 29] [3]
 (.seq
 (.reg [b2 13 .lss 12 11])
 (.seq
 (.cond (.t 13)
 .skip
 (.exit 0))
 (.seq
 (.block 1
 (.seq
 (.reg [ii 14 (.iad 4) [.t 10, .t 12],
 ii 15 (.load 4 true false) [.t 14],
 ⟨some 7, none, .alloc 3 4 [.p (.int .i64 0), .p (.int .i64 0), .p (.int .i64 0), .p (.int .i64 0)], []⟩,
 ⟨none, none, .store 4, [.t 7, .t 15]⟩])
 (.seq
 (.seq
 (.reg [ii 16 (.load 5 true false) [.t 2],
 ii 17 (.load 4 true false) [.t 7],
 ii 18 (.call 106) [.t 16, .t 17],
 ii 19 (.un .not) [.t 18],
 mv 20 19,
 gf 21 20 (.mov false) [.t 5],
 gf 22 20 (.fad 0) [.t 7],
 gf 23 20 (.load 1 false false) [.t 22],
 gf 24 20 (.look .i64 (.bool false)) [.t 21, .t 23],
 ii 25 .pick [.t 20, .c (.p (.bool true)), .t 24]])
 (.cond (.t 25)
 (.seq
 (.reg [mc 4 (.bool false)])
 .ret)
 .skip))
 (.reg [mv 26 5,
 fa 27 0 7,
 ld 28 27,
 ⟨none, none, .mupd .i64, [.t 26, .t 28, .c (.p (.bool true))]⟩]))))
 (.reg [b1 29 .add 12 (.int .i64 1),
 mv 12 29])))))))
 (.seq
 (.reg [mc 4 (.bool true)])
 .ret))))⟩
theorem k56 : chkF Tryz.prog 56 F56 = true := by kernel_rfl
def F57 : Fn := ⟨92, 6, [.tmp 6],
 (.seq
 (.reg [ii 3 (.box 0 5) [.t 0],
 ii 4 (.box 1 4) [.t 1],
 ii 5 (.box 2 2) [.t 2],
 mc 6 (.bool false)])
 (.seq
 (.reg [fa 12 1 5,
 ld 13 12,
 ii 14 .len [.t 13],
 mt 7 14])
 (.seq
 (.seq
 (.reg [fa 15 3 4,
 ld 16 15,
 ii 17 .len [.t 16],
 b1 18 .gtr 17 (.int .i64 0),
 mv 19 18,
 gf 20 19 (.mov false) [.t 7],
 gf 21 19 (.bin .lss) [.t 20, .c (.p (.int .i64 2))],
 ii 22 .pick [.t 19, .c (.p (.bool true)), .t 21],
 mv 23 22,
 gf 24 23 (.fad 1) [.t 5],
 gf 25 23 (.load 1 false false) [.t 24],
 gf 26 23 (.iad 4) [.t 25, .c (.p (.int .i64 0))],
 gf 27 23 (.fad 1) [.t 26],
 gf 28 23 (.load 1 false false) [.t 27],
 gf 29 23 (.bin .neq) [.t 28, .c (.p (.int .i64 0))],
 ii 30 .pick [.t 23, .c (.p (.bool true)), .t 29]])
 (.cond (.t 30)
 (.seq
 (.reg [mc 6 (.bool false)])
 .ret)
 .skip))
 (.seq
 (.seq
 (.reg [mc 8 (.int .i64 1)])
 (.block 0
 (.loop [0, 1, 2, 6, 9, 10, 11, 12, 13, 14, 15, 16, 17, 18, 19, 20, 21, 22, 23, 24, 25, 26, 27, 28, 29, 30, 31, 32, 33, 34, 35, 36, 37, 38, 39, 40, 41, 42, 43, 44, 45, 46, 47, 48, 49, 50, 51, 52, 53, 54, 55, 56, 57, 58, 59, 60, 61, 62, 63, 64, 65, 66, 67, 68, 69, 70, 71, 72, 73, 74, 75, 76, 77, 78, 79, 80, 81, 82, 83, 84, 85, 86, 87, 88, 89, 90, 91] [3, 4]
 (.seq
 (.seq
 (.reg [mv 31 8,
 mv 32 7,
 b2 33 .lss 31 32])
 (.cond (.t 33)
 .skip
 (.exit 0)))
 (.seq
 (.block 1
 (.seq
 (.pre [9, 10, 47, 49, 51, 59] [] [3, 4] (.rega [fa 36 1 5,
 ii 37 (.at 2 (.load 1 false false)) [.t 36],
 mv 38 8,
 b1 39 .sub 38 (.int .i64 1),
 ii 40 (.iad 4) [.t 37, .t 39],
 ii 41 (.loadp 4 true) [.t 40],
 fa 42 1 5,
 ii 43 (.at 2 (.load 1 false false)) [.t 42],
 mv 44 8,
 ii 45 (.iad 4) [.t 43, .t 44],
 ii 46 (.loadp 4 true) [.t 45],
 ⟨some 9, none, .alloc 3 4 [.p (.int .i64 0), .p (.int .i64 0), .p (.int .i64 0), .p (.int .i64 0)], []⟩,
 ⟨some 10, none, .alloc 4 4 [.p (.int .i64 0), .p (.int .i64 0), .p (.int .i64 0), .p (.int .i64 0)], []⟩,
 ⟨none, none, .at 3 (.store 4), [.t 9, .t 41]⟩,
 ⟨none, none, .at 4 (.store 4), [.t 10, .t 46]⟩]))
 (.seq
 (.reg [fa 47 1 10,
 ld 48 47,
 fa 49 1 9,
 ld 50 49,
 fa 51 2 9,
 ld 52 51,
 b2 53 .add 50 52,
 fa 54 2 3,
 ld 55 54,
 b2 56 .add 53 55,
 b2 57 .lss 48 56,
 mv 58 57,
 gf 59 58 (.fad 3) [.t 10],
 gf 60 58 (.load 1 false false) [.t 59],
 gf 61 58 (.fad 3) [.t 3],
 gf 62 58 (.load 1 false false) [.t 61],
 gf 63 58 (.bin .leq) [.t 60, .t 62],
 ii 64 .pick [.t 58, .c (.p (.bool true)), .t 63]])
 (.cond (.t 64)
 (.seq
 (.reg [mc 6 (.bool false)])
 .ret)
 .skip))))
 (.reg [mv 34 8,
 b1 35 .add 34 (.int .i64 1),
 mt 8 35]))))))
 (.seq
 (.reg [fa 65 1 5,
 ld 66 65,
 mv 67 7,
 b1 68 .sub 67 (.int .i64 1),
 ii 69 (.iad 4) [.t 66, .t 68],
 ii 70 (.load 4 true false) [.t 69],
 ⟨some 11, none, .alloc 5 4 [.p (.int .i64 0), .p (.int .i64 0), .p (.int .i64 0), .p (.int .i64 0)], []⟩,
 ⟨none, none, .store 4, [.t 11, .t 70]⟩])
 (.seq
 (.regd [fa 71 1 11,
 ii 72 (.at 5 (.load 1 false false)) [.t 71],
 fa 73 2 11,
 ii 74 (.at 5 (.load 1 false false)) [.t 73],
 b2 75 .add 72 74,
 fa 76 1 4,
 ii 77 (.at 1 (.load 1 false false)) [.t 76],
 b2 78 .leq 75 77,
 mv 79 78,
 gt 80 79 (.at 2 (.load 2 true false)) [.t 5],
 gt 81 79 (.pl (.call 34)) [.t 80],
 gt 82 79 (.fad 0) [.t 4],
 gt 83 79 (.at 1 (.load 1 false false)) [.t 82],
 gt 84 79 (.mov false) [.t 7],
 gt 85 79 (.bin .sub) [.t 84, .c (.p (.int .i64 1))],
 gt 86 79 (.fad 3) [.t 3],
 gt 87 79 (.at 0 (.load 1 false false)) [.t 86],
 gt 88 79 (.bin .mul) [.t 85, .t 87],
 gt 89 79 (.bin .add) [.t 83, .t 88],
 gt 90 79 (.bin .eql) [.t 81, .t 89],
 ii 91 .pick [.t 79, .t 90, .c (.p (.bool false))],
 mt 6 91])
 .ret))))))⟩
theorem k57 : chkF Tryz.prog 57 F57 = true := by kernel_rfl
def F53 : Fn := ⟨65, 3, [.tmp 8, .tmp 9],
 (.seq
 (.reg [ii 4 (.box 0 5) [.t 0],
 ii 5 (.box 1 4) [.t 1],
 ii 8 (.mov true) [.c (.ow 4 true [])],
 mc 9 (.bool false)])
 (.seq
 (.reg [ii 10 (.mov true) [.c (.ow 4 true [])]])
 (.seq
 (.reg [fa 16 0 5,
 ld 17 16,
 mt 11 17])
 (.seq
 (.seq
 (.reg [mv 18 3,
 ii 19 .len [.t 18],
 ii 20 (.mov false) [.c (.p (.int .i64 0))]])
 (.block 0
 (.loop [0, 1, 3, 5, 8, 9, 12, 13, 14, 15, 16, 17, 21, 22, 23, 24, 25, 26, 27, 28, 29, 30, 31, 32, 33, 34, 35, 36, 37, 38, 39, 40, 41, 42, 43, 44, 45, 46, 47, 48, 49, 50, 51, 52, 53, 54, 55, 56, 57, 58, 59, 60, 61, 62, 63, 64] [2]
 (.seq
 (.reg [b2 21 .lss 20 19])
 (.seq
 (.cond (.t 21)
 .skip
 (.exit 0))
 (.seq
 (.block 1
 (.seq
 (.reg [mv 22 20,
 ii 23 (.iad 2) [.t 18, .t 20],
 ii 24 (.load 2 true false) [.t 23],
 ⟨some 13, none, .alloc 2 2 [.p (.int .i64 0), .p (.int .i64 0)], []⟩,
 mt 12 22,
 ⟨none, none, .store 2, [.t 13, .t 24]⟩])
 (.seq
 (.seq
 (.reg [mv 25 11,
 b1 26 .eql 25 (.int .i64 0)])
 (.cond (.t 26)
 (.exit 0)
 .skip))
 (.seq
 (.reg [fa 27 3 4,
 ld 28 27,
 mt 14 28])
 (.seq
 (.seq
 (.reg [mv 29 12,
 b1 30 .eql 29 (.int .i64 0)])
 (.cond (.t 30)
 (.reg [mc 14 (.int .i64 0)])
 .skip))
 (.seq
 (.reg [fa 31 1 13,
 ld 32 31,
 mv 33 14,
 b2 34 .sub 32 33,
 mv 35 11,
 ii 36 .mn [.t 34, .t 35],
 mt 15 36])
 (.seq
 (.reg [mt 37 10,
 fa 38 0 13,
 ld 39 38,
 mv 40 12,
 mv 41 2,
 fa 42 2 4,
 ld 43 42,
 b2 44 .add 41 43,
 b2 45 .mul 40 44,
 mv 46 2,
 mv 47 14,
 mv 48 15,
 b2 49 .add 47 48,
 ⟨some 50, none, .build [.int .i64 0, .int .i64 0, .int .i64 0, .int .i64 0] [(0, 1), (1, 1), (2, 1), (3, 1)], [.t 39, .t 45, .t 46, .t 49]⟩,
 ii 51 (.bsl 4 1) [.t 50],
 ii 52 (.app 4 32) [.t 37, .t 51],
 mt 10 52])
 (.reg [mv 53 11,
 mv 54 15,
 b2 55 .sub 53 54,
 mt 11 55]))))))))
 (.reg [b1 56 .add 20 (.int .i64 1),
 mv 20 56])))))))
 (.seq
 (.reg [mv 57 10,
 mv 58 11,
 b1 59 .eql 58 (.int .i64 0),
 mv 60 59,
 gt 61 60 (.mov false) [.t 10],
 gt 62 60 .len [.t 61],
 gt 63 60 (.bin .gtr) [.t 62, .c (.p (.int .i64 1))],
 ii 64 .pick [.t 60, .t 63, .c (.p (.bool false))],
 mt 8 57,
 mt 9 64])
 .ret)))))⟩
theorem k53 : chkF Tryz.prog 53 F53 = true := by kernel_rfl
def F54 : Fn := ⟨51, 3, [.tmp 10],
 (.seq
 (.reg [ii 5 (.box 0 5) [.t 0],
 ii 7 (.box 1 4) [.t 2],
 ii 10 (.mov true) [.c (.ow 2 true [])]])
 (.seq
 (.reg [ii 11 (.mov true) [.c (.ow 2 true [])]])
 (.seq
 (.seq
 (.reg [mv 15 1,
 ii 16 .len [.t 15],
 ii 17 (.mov false) [.c (.p (.int .i64 0))]])
 (.block 0
 (.loop [0, 1, 2, 10, 12, 13, 14, 18, 19, 20, 21, 22, 23, 24, 25, 26, 27, 28, 29, 30, 31, 32, 33, 34, 35, 36, 37, 38, 39, 40, 41, 42, 43, 44, 45, 46, 47, 48, 49, 50] []
 (.seq
 (.reg [b2 18 .lss 17 16])
 (.seq
 (.cond (.t 18)
 .skip
 (.exit 0))
 (.seq
 (.block 1
 (.seq
 (.reg [mv 19 17,
 ii 20 (.iad 1) [.t 15, .t 17],
 ld 21 20,
 mt 12 19,
 mt 13 21])
 (.seq
 (.reg [mv 22 13,
 mv 23 4,
 fa 24 2 7,
 ld 25 24,
 mv 26 4,
 ii 27 (.call 98) [.t 22, .t 23, .t 25, .t 26],
 mt 14 27])
 (.seq
 (.reg [mv 28 14,
 fa 29 3 5,
 ld 30 29,
 b2 31 .gtr 28 30])
 (.cond (.t 31)
 (.reg [mt 32 11,
 mv 33 12,
 mv 34 14,
 ⟨some 35, none, .build [.int .i64 0, .int .i64 0] [(0, 1), (1, 1)], [.t 33, .t 34]⟩,
 ii 36 (.bsl 2 1) [.t 35],
 ii 37 (.app 2 16) [.t 32, .t 36],
 mt 11 37])
 .skip)))))
 (.reg [b1 38 .add 17 (.int .i64 1),
 mv 17 38])))))))
 (.seq
 (.seq
 (.reg [mv 39 11,
 ii 40 .len [.t 39],
 mv 41 3,
 b2 42 .lss 40 41])
 (.cond (.t 42)
 (.seq
 (.reg [ii 10 (.mov true) [.c (.ow 2 true [])]])
 .ret)
 .skip))
 (.seq
 (.pre [0, 1, 2, 4, 5, 7, 10, 12, 13, 14, 15, 16, 17, 18, 19, 20, 21, 22, 23, 24, 25, 26, 27, 28, 29, 30, 31, 32, 33, 34, 35, 36, 37, 38, 39, 40, 41, 42, 43, 44, 45, 46, 47, 48, 49, 50] [] [0, 1] (.own 11 2 true (.reg [mv 43 11,
 ii 44 (.callm 99 2) [.t 43, .c (.p (.fn 100 []))]])))
 (.seq
 (.reg [mv 45 11,
 mv 46 3,
 ii 47 (.slb 2 2) [.t 45, .t 46],
 mt 11 47])
 (.seq
 (.reg [mv 48 11,
 ii 49 (.callm 102 2) [.t 48, .c (.p (.fn 103 []))]])
 (.seq
 (.reg [mv 50 11,
 mt 10 50])
 (.pre [] [2] [] .ret)))))))))⟩
theorem k54 : chkF Tryz.prog 54 F54 = true := by kernel_rfl
def F89 : Fn := ⟨18, 0, [.tmp 4],
 (.seq
 (.reg [mc 4 (.int .i64 0)])
 (.seq
 (.seq
 (.reg [mv 6 1,
 b1 7 .leq 6 (.int .i64 0)])
 (.cond (.t 7)
 (.seq
 (.reg [mc 4 (.int .i64 0)])
 .ret)
 .skip))
 (.seq
 (.reg [mv 8 0,
 mv 9 1,
 b2 10 .quo 8 9,
 mt 5 10])
 (.seq
 (.seq
 (.reg [mv 11 0,
 mv 12 1,
 b2 13 .rem 11 12,
 b1 14 .lss 13 (.int .i64 0)])
 (.cond (.t 14)
 (.reg [mv 15 5,
 b1 16 .sub 15 (.int .i64 1),
 mt 5 16])
 .skip))
 (.seq
 (.reg [mv 17 5,
 mt 4 17])
 .ret)))))⟩
theorem k89 : chkF Tryz.prog 89 F89 = true := by kernel_rfl
def F55 : Fn := ⟨77, 3, [.cell 10 2, .tmp 11],
 (.seq
 (.reg [ii 5 (.box 0 5) [.t 0],
 ii 7 (.box 1 4) [.t 2],
 ⟨some 10, none, .alloc 2 2 [.p (.int .i64 0), .ow 4 true []], []⟩,
 mc 11 (.bool false)])
 (.seq
 (.regd [mv 15 1,
 mv 16 3,
 ii 17 (.iad 1) [.t 15, .t 16],
 ii 18 (.loadp 1 false) [.t 17],
 fa 19 2 7,
 ii 20 (.at 1 (.load 1 false false)) [.t 19],
 fa 21 0 7,
 ii 22 (.at 1 (.load 1 false false)) [.t 21],
 b1 23 .sub 22 (.int .i64 1),
 ii 24 (.pl (.call 105)) [.t 18, .t 20, .t 23],
 mt 12 24])
 (.seq
 (.regd [fa 25 0 7,
 ii 26 (.at 1 (.load 1 false false)) [.t 25],
 mv 27 12,
 b2 28 .sub 26 27,
 fa 29 3 5,
 ii 30 (.at 0 (.load 1 false false)) [.t 29],
 b2 31 .add 28 30,
 fa 32 1 7,
 ii 33 (.at 1 (.load 1 false false)) [.t 32],
 mv 34 12,
 b2 35 .sub 33 34,
 fa 36 2 5,
 ii 37 (.at 0 (.load 1 false false)) [.t 36],
 b2 38 .sub 35 37,
 mt 13 31,
 mt 14 38])
 (.seq
 (.seq
 (.regd [mv 39 12,
 b1 40 .lss 39 (.int .i64 1),
 mv 41 40,
 gf 42 41 (.mov false) [.t 13],
 gf 43 41 (.mov false) [.t 14],
 gf 44 41 (.bin .gtr) [.t 42, .t 43],
 ii 45 .pick [.t 41, .c (.p (.bool true)), .t 44],
 mv 46 45,
 gf 47 46 (.mov false) [.t 1],
 gf 48 46 (.mov false) [.t 4],
 gf 49 46 (.iad 1) [.t 47, .t 48],
 gf 50 46 (.loadp 1 false) [.t 49],
 gf 51 46 (.pl (.call 92)) [.t 50],
 gf 52 46 (.mov false) [.t 13],
 gf 53 46 (.mov false) [.t 14],
 gf 54 46 (.fad 2) [.t 7],
 gf 55 46 (.at 1 (.load 1 false false)) [.t 54],
 ⟨some 56, (some (46, false)), .build [.int .i64 0, .int .i64 0, .int .i64 0] [(0, 1), (1, 1), (2, 1)], [.t 52, .t 53, .t 55]⟩,
 gf 57 46 (.bsl 3 1) [.t 56],
 gf 58 46 (.pl (.app 3 24)) [.t 51, .t 57],
 gf 59 46 (.pl (.call 32)) [.t 58],
 gf 60 46 (.un .not) [.t 59],
 ii 61 .pick [.t 46, .c (.p (.bool true)), .t 60]])
 (.cond (.t 61)
 (.seq
 (.reg [⟨some 62, none, .build [.int .i64 0, .sl 4 true []] [], []⟩,
 ⟨none, none, .store 2, [.t 10, .t 62]⟩,
 mc 11 (.bool false)])
 .ret)
 .skip))
 (.seq
 (.reg [mv 63 3,
 mv 64 12,
 mv 65 12,
 ⟨some 66, none, .build [.int .i64 0, .int .i64 0, .int .i64 0, .int .i64 0] [(0, 1), (2, 1), (3, 1)], [.t 63, .t 64, .t 65]⟩,
 mv 67 4,
 mv 68 12,
 fa 69 2 5,
 ld 70 69,
 b2 71 .add 68 70,
 mv 72 14,
 mv 73 13,
 ⟨some 74, none, .build [.int .i64 0, .int .i64 0, .int .i64 0, .int .i64 0] [(0, 1), (1, 1), (2, 1), (3, 1)], [.t 67, .t 71, .t 72, .t 73]⟩,
 ii 75 (.bsl 4 2) [.t 66, .t 74],
 ⟨some 76, none, .build [.int .i64 0, .sl 4 true []] [(0, 1), (1, 1)], [.c (.p (.int .i64 3)), .t 75]⟩,
 ⟨none, none, .store 2, [.t 10, .t 76]⟩,
 mc 11 (.bool true)])
 .ret)))))⟩
theorem k55 : chkF Tryz.prog 55 F55 = true := by kernel_rfl
def F94 : Fn := ⟨61, 0, [.tmp 2, .tmp 3],
 (.seq
 (.reg [mc 2 (.int .i64 0),
 mc 3 (.bool false)])
 (.seq
 (.reg [mv 10 0,
 ii 11 (.call 128) [.t 10],
 mv 9 11,
 ii 12 (.ext 0) [.t 9],
 ii 13 (.ext 1) [.t 9],
 mt 4 12,
 mt 5 13])
 (.seq
 (.reg [mc 6 (.int .i64 0)])
 (.seq
 (.seq
 (.reg [mc 7 (.int .i64 1)])
 (.block 0
 (.loop [2, 3, 8, 9, 10, 11, 12, 13, 14, 15, 16, 17, 18, 19, 20, 21, 22, 23, 24, 25, 26, 27, 28, 29, 30, 31, 32, 33, 34, 35, 36, 37, 38, 39, 40, 41, 42, 43, 44, 45, 46, 47, 48, 49, 50, 51, 52, 53, 54, 55, 56, 57, 58, 59, 60] []
 (.seq
 (.seq
 (.reg [mv 14 7,
 mv 15 4,
 b2 16 .leq 14 15])
 (.cond (.t 16)
 .skip
 (.exit 0)))
 (.seq
 (.block 1
 (.seq
 (.seq
 (.reg [mc 8 (.int .i64 0)])
 (.block 2
 (.loop [2, 3, 9, 10, 11, 12, 13, 14, 15, 16, 17, 18, 19, 20, 21, 22, 23, 24, 25, 26, 27, 28, 29, 30, 31, 32, 33, 34, 35, 36, 37, 38, 39, 40, 41, 42, 43, 44, 45, 46, 47, 48, 49, 50, 51, 52, 53, 54, 55, 56, 57, 58, 59, 60] []
 (.seq
 (.seq
 (.reg [mv 19 8,
 mv 20 0,
 ii 21 .len [.t 20],
 b2 22 .lss 19 21])
 (.cond (.t 22)
 .skip
 (.exit 2)))
 (.seq
 (.block 3
 (.seq
 (.regd [mv 25 7,
 mv 26 0,
 mv 27 8,
 ii 28 (.iad 3) [.t 26, .t 27],
 fa 29 1 28,
 ii 30 (.loadp 1 false) [.t 29],
 b2 31 .geq 25 30,
 mv 32 31,
 gt 33 32 (.mov false) [.t 7],
 gt 34 32 (.mov false) [.t 0],
 gt 35 32 (.mov false) [.t 8],
 gt 36 32 (.iad 3) [.t 34, .t 35],
 gt 37 32 (.fad 1) [.t 36],
 gt 38 32 (.loadp 1 false) [.t 37],
 gt 39 32 (.bin .sub) [.t 33, .t 38],
 gt 40 32 (.mov false) [.t 0],
 gt 41 32 (.mov false) [.t 8],
 gt 42 32 (.iad 3) [.t 40, .t 41],
 gt 43 32 (.fad 2) [.t 42],
 gt 44 32 (.loadp 1 false) [.t 43],
 gt 45 32 (.bin .rem) [.t 39, .t 44],
 gt 46 32 (.bin .eql) [.t 45, .c (.p (.int .i64 0))],
 ii 47 .pick [.t 32, .t 46, .c (.p (.bool false))]])
 (.cond (.t 47)
 (.reg [mv 48 6,
 mv 49 0,
 mv 50 8,
 ii 51 (.iad 3) [.t 49, .t 50],
 fa 52 0 51,
 ld 53 52,
 b2 54 .add 48 53,
 mt 6 54])
 .skip)))
 (.reg [mv 23 8,
 b1 24 .add 23 (.int .i64 1),
 mt 8 24]))))))
 (.seq
 (.reg [mv 55 6,
 mv 56 7,
 b2 57 .gtr 55 56])
 (.cond (.t 57)
 (.seq
 (.reg [mv 58 7,
 mv 59 5,
 mt 2 58,
 mt 3 59])
 .ret)
 .skip))))
 (.reg [mv 17 7,
 b1 18 .add 17 (.int .i64 1),
 mt 7 18]))))))
 (.seq
 (.reg [mv 60 5,
 mc 2 (.int .i64 0),
 mt 3 60])
 .ret)))))⟩
theorem k94 : chkF Tryz.prog 94 F94 = true := by kernel_rfl
def F58 : Fn := ⟨35, 2, [.tmp 4],
 (.seq
 (.reg [ii 2 (.box 0 5) [.t 0],
 ii 3 (.box 1 4) [.t 1],
 mc 4 (.bool false)])
 (.seq
 (.reg [fa 5 0 3,
 ld 6 5,
 b1 7 .geq 6 (.int .i64 0),
 mv 8 7,
 gt 9 8 (.fad 0) [.t 3],
 gt 10 8 (.load 1 false false) [.t 9],
 gt 11 8 (.fad 0) [.t 2],
 gt 12 8 (.load 1 false false) [.t 11],
 gt 13 8 (.bin .lss) [.t 10, .t 12],
 ii 14 .pick [.t 8, .t 13, .c (.p (.bool false))],
 mv 15 14,
 gt 16 15 (.fad 1) [.t 3],
 gt 17 15 (.load 1 false false) [.t 16],
 gt 18 15 (.call 93) [.t 17, .c (.p (.int .i64 0)), .c (.p (.int .i64 200))],
 ii 19 .pick [.t 15, .t 18, .c (.p (.bool false))],
 mv 20 19,
 gt 21 20 (.fad 3) [.t 3],
 gt 22 20 (.load 1 false false) [.t 21],
 gt 23 20 (.bin .geq) [.t 22, .c (.p (.int .i64 1))],
 ii 24 .pick [.t 20, .t 23, .c (.p (.bool false))],
 mv 25 24,
 gt 26 25 (.fad 2) [.t 3],
 gt 27 25 (.load 1 false false) [.t 26],
 gt 28 25 (.fad 3) [.t 3],
 gt 29 25 (.load 1 false false) [.t 28],
 gt 30 25 (.fad 1) [.t 3],
 gt 31 25 (.load 1 false false) [.t 30],
 gt 32 25 (.bin .sub) [.c (.p (.int .i64 200)), .t 31],
 gt 33 25 (.call 93) [.t 27, .t 29, .t 32],
 ii 34 .pick [.t 25, .t 33, .c (.p (.bool false))],
 mt 4 34])
 .ret))⟩
theorem k58 : chkF Tryz.prog 58 F58 = true := by kernel_rfl
def F59 : Fn := ⟨26, 0, [.tmp 4],
 (.seq
 (.reg [mc 4 (.bool false)])
 (.seq
 (.seq
 (.reg [mv 6 0,
 ii 7 .len [.t 6],
 mv 8 1,
 ii 9 .len [.t 8],
 b2 10 .neq 7 9])
 (.cond (.t 10)
 (.seq
 (.reg [mc 4 (.bool false)])
 .ret)
 .skip))
 (.seq
 (.seq
 (.reg [mv 11 0,
 ii 12 .len [.t 11],
 ii 13 (.mov false) [.c (.p (.int .i64 0))]])
 (.block 0
 (.loop [4, 5, 6, 7, 8, 9, 10, 11, 14, 15, 16, 17, 18, 19, 20, 21, 22, 23, 24, 25] []
 (.seq
 (.reg [b2 14 .lss 13 12])
 (.seq
 (.cond (.t 14)
 .skip
 (.exit 0))
 (.seq
 (.block 1
 (.seq
 (.reg [mv 15 13,
 mt 5 15])
 (.seq
 (.regd [mv 16 0,
 mv 17 5,
 ii 18 (.iad 4) [.t 16, .t 17],
 ii 19 (.loadp 4 true) [.t 18],
 mv 20 1,
 mv 21 5,
 ii 22 (.iad 4) [.t 20, .t 21],
 ii 23 (.loadp 4 true) [.t 22],
 ii 24 (.eqs 4 true) [.t 19, .t 23]])
 (.cond (.t 24)
 (.seq
 (.reg [mc 4 (.bool false)])
 .ret)
 .skip))))
 (.reg [b1 25 .add 13 (.int .i64 1),
 mv 13 25])))))))
 (.seq
 (.reg [mc 4 (.bool true)])
 .ret))))⟩
theorem k59 : chkF Tryz.prog 59 F59 = true := by kernel_rfl
end Go.Proofs.YtoepoghmeajocaaGreatDoor.Vc
