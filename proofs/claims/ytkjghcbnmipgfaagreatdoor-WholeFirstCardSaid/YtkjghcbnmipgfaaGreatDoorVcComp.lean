/- The check, by evaluation, that code is what its short form says. No condition. -/
import Derived.Test.YtkjghcbnmipgfaaGreatDoorVcFn
namespace Go.Proofs.YtkjghcbnmipgfaaGreatDoor.Vc
open Go.RowKit
variable {P : Program}

def bO : Operand → O → Bool
  | .tmp n, .t m => n == m
  | .const (.int k n), .c (.p (.int k' n')) => decide (k = k') && n == n'
  | .const (.bool b), .c (.p (.bool b')) => b == b'
  | .const (.string s), .c (.p (.str s')) => decide (s.data.toList = s'.data.toList)
  | .const (.slice none 0 0), .c (.ow _ true []) => true
  | .func f, .c (.p (.fn f' [])) => f == f'
  | .const .nilIface, .c (.p (.atom .nilIface)) => true
  | _, .c .top => true
  | _, _ => false
theorem ba_ext {s t : ByteArray} (h : s.data.toList = t.data.toList) : s = t := by
  obtain ⟨⟨a⟩⟩ := s
  obtain ⟨⟨b⟩⟩ := t
  simp at h; subst h; rfl
theorem bO_ok {x : Operand} {o : O} (h : bO x o = true) : OT x o := by
  unfold bO at h
  split at h
  · simp at h; subst h; exact .tmp _
  · simp at h; obtain ⟨rfl, rfl⟩ := h; exact .int _ _
  · simp at h; subst h; exact .bool _
  · simp only [decide_eq_true_eq] at h; rw [ba_ext h]; exact .str _
  · exact .nil _
  · simp at h; subst h; exact .func _
  · exact .atom _ rfl
  · exact .any _
  · cases h

def bOs : List Operand → List O → Bool
  | [], [] => true
  | x :: xs, o :: os => bO x o && bOs xs os
  | _, _ => false
theorem bOs_ok : ∀ {xs : List Operand} {os : List O}, bOs xs os = true → os.length = xs.length ∧ ∀ (k : Nat) x oo, xs[k]? = some x → os[k]? = some oo → OT x oo
  | [], [], _ => ⟨rfl, fun k x oo h => by simp at h⟩
  | x :: xs, o :: os, h => by
    simp only [bOs, Bool.and_eq_true] at h
    obtain ⟨e1, e2⟩ := bOs_ok h.2
    refine ⟨by simp [e1], fun k y oo hy ho => ?_⟩
    cases k with
    | zero => simp at hy ho; subst hy; subst ho; exact bO_ok h.1
    | succ k => exact e2 k y oo (by simpa using hy) (by simpa using ho)
  | [], _ :: _, h => by simp [bOs] at h
  | _ :: _, [], h => by simp [bOs] at h

def isAD : TypeDesc → Bool
  | .struct _ | .array _ _ => true
  | _ => false
def bTy (P : Program) (t : TypeId) (n : Nat) (isA : Bool) : Bool :=
  match P.info? t, P.underlying t with
  | some i, some d => i.size == n && isAD d == isA
  | _, _ => false
theorem bTy_ok {t : TypeId} {n : Nat} {isA : Bool} (h : bTy P t n isA = true) : TyIs P t n isA := by
  unfold bTy at h
  split at h
  · rename_i i d hi hd
    simp at h
    exact ⟨⟨i, hi, h.1⟩, ⟨d, hd, h.2⟩⟩
  · cases h

def bZ : DV → Value → Bool
  | .p (.int k n), .int k' n' => decide (k = k') && n == n'
  | .p (.bool b), .bool b' => b == b'
  | .p (.str s), .string s' => decide (s.data.toList = s'.data.toList)
  | .ow _ true [], .slice none 0 0 => true
  | .top, v => v.oneCell'
  | _, _ => false
theorem bZ_ok {d : DV} {v : Value} (h : bZ d v = true) : ZR d v := by
  unfold bZ at h
  split at h
  · simp at h; obtain ⟨rfl, rfl⟩ := h; exact .int _ _
  · simp at h; subst h; exact .bool _
  · simp only [decide_eq_true_eq] at h; rw [ba_ext h]; exact .str _
  · exact .nil _
  · exact .top _ h
  · cases h
def bZs : List DV → List Value → Bool
  | [], [] => true
  | d :: ds, v :: vs => bZ d v && bZs ds vs
  | _, _ => false
theorem bZs_ok' : ∀ {ds : List DV} {vs : List Value}, bZs ds vs = true → vs.length = ds.length ∧ ∀ (i : Nat) d v, ds[i]? = some d → vs[i]? = some v → ZR d v
  | [], [], _ => ⟨rfl, fun i d v h => by simp at h⟩
  | d :: ds, v :: vs, h => by
    simp only [bZs, Bool.and_eq_true] at h
    obtain ⟨e1, e2⟩ := bZs_ok' h.2
    refine ⟨by simp [e1], fun i y u hy ho => ?_⟩
    cases i with
    | zero => simp at hy ho; subst hy; subst ho; exact bZ_ok h.1
    | succ i => exact e2 i y u (by simpa using hy) (by simpa using ho)
  | [], _ :: _, h => by simp [bZs] at h
  | _ :: _, [], h => by simp [bZs] at h
theorem bZs_ok {ds : List DV} {vs : Array Value} (h : bZs ds vs.toList = true) : ZRs ds vs :=
  ⟨by have := (bZs_ok' h).1; simpa using this, fun i d v hd hv => (bZs_ok' h).2 i d v hd (by simpa using hv)⟩

def bZP : PV → Value → Bool
  | .int k n, .int k' n' => decide (k = k') && n == n'
  | .bool b, .bool b' => b == b'
  | .str s, .string s' => decide (s.data.toList = s'.data.toList)
  | .sl _ true [], .slice none 0 0 => true
  | _, _ => false
theorem bZP_ok {d : PV} {v : Value} (h : bZP d v = true) : ZP d v := by
  unfold bZP at h
  split at h
  · simp at h; obtain ⟨rfl, rfl⟩ := h; exact .int _ _
  · simp at h; subst h; exact .bool _
  · simp only [decide_eq_true_eq] at h; rw [ba_ext h]; exact .str _
  · exact .nil _
  · cases h
def bZPs : List PV → List Value → Bool
  | [], [] => true
  | d :: ds, v :: vs => bZP d v && bZPs ds vs
  | _, _ => false
theorem bZPs_ok : ∀ {ds : List PV} {vs : List Value}, bZPs ds vs = true → vs.length = ds.length ∧ ∀ (i : Nat) d v, ds[i]? = some d → vs[i]? = some v → ZP d v
  | [], [], _ => ⟨rfl, fun i d v h => by simp at h⟩
  | d :: ds, v :: vs, h => by
    simp only [bZPs, Bool.and_eq_true] at h
    obtain ⟨e1, e2⟩ := bZPs_ok h.2
    refine ⟨by simp [e1], fun i y u hy ho => ?_⟩
    cases i with
    | zero => simp at hy ho; subst hy; subst ho; exact bZP_ok h.1
    | succ i => exact e2 i y u (by simpa using hy) (by simpa using ho)
  | [], _ :: _, h => by simp [bZPs] at h
  | _ :: _, [], h => by simp [bZPs] at h

def bFlds (P : Program) : List Field → Nat → Bool
  | [], _ => true
  | f :: fs, j => f.name != "_" && (decide (f.offset = j) && ((match P.underlying f.type with | some (.int _) => true | _ => false) && (bTy P f.type 1 false && bFlds P fs (j + 1))))
theorem bFlds_ok {fs : List Field} : ∀ {j : Nat}, bFlds P fs j = true → ∀ (i : Nat) f, fs[i]? = some f → f.name ≠ "_" ∧ f.offset = j + i ∧ (∃ k, P.underlying f.type = some (.int k)) ∧ TyIs P f.type 1 false := by
  induction fs with
  | nil => intro j _ i f hf; simp at hf
  | cons g fs ih =>
    intro j h i f hf
    simp only [bFlds, Bool.and_eq_true, decide_eq_true_eq, bne_iff_ne] at h
    obtain ⟨h1, h2, h3, h4, h5⟩ := h
    cases i with
    | zero =>
      cases hf
      refine ⟨h1, h2, ?_, bTy_ok h4⟩
      split at h3
      · exact ⟨_, ‹_›⟩
      · cases h3
    | succ i =>
      have := ih h5 i f hf
      rw [Nat.add_assoc, Nat.add_comm 1 i] at this
      exact this
theorem fieldsOf_eq {t : TypeId} {fs : Array Field} (h : P.underlying t = some (.struct fs)) : P.fieldsOf t = fs := by simp [Program.fieldsOf, h]

def bOffs (places : List (Nat × Nat)) (n : Nat) : List (Nat × Operand) → List (Nat × Nat) → Bool
  | [], [] => true
  | p :: ps, o :: os => decide (places[p.1]? = some o) && decide (o.1 + o.2 ≤ n) && bOffs places n ps os
  | _, _ => false
theorem bOffs_ok {places : List (Nat × Nat)} {n : Nat} : ∀ {ps : List (Nat × Operand)} {os : List (Nat × Nat)}, bOffs places n ps os = true → ps.length = os.length ∧
    ∀ (k : Nat) (p : Nat × Operand) (o : Nat × Nat), ps[k]? = some p → os[k]? = some o → places[p.1]? = some o ∧ o.1 + o.2 ≤ n
  | [], [], _ => ⟨rfl, fun i d v h => by simp at h⟩
  | d :: ds, v :: vs, h => by
    simp only [bOffs, Bool.and_eq_true, decide_eq_true_eq] at h
    obtain ⟨e1, e2⟩ := bOffs_ok h.2
    refine ⟨by simp [e1], fun i y u hy ho => ?_⟩
    cases i with
    | zero => simp at hy ho; subst hy; subst ho; exact h.1
    | succ i => exact e2 i y u (by simpa using hy) (by simpa using ho)
  | [], _ :: _, h => by simp [bOffs] at h
  | _ :: _, [], h => by simp [bOffs] at h

def bSeq : Nat → List (Nat × Operand) → Bool
  | _, [] => true
  | k, p :: ps => p.1 == k && bSeq (k + 1) ps
theorem bSeq_ok : ∀ {k : Nat} {ps : List (Nat × Operand)}, bSeq k ps = true → ps = ((ps.map (·.2)).zipIdx k).map fun x => (x.2, x.1)
  | _, [], _ => rfl
  | k, p :: ps, h => by
    simp only [bSeq, Bool.and_eq_true, beq_iff_eq] at h
    obtain ⟨rfl, h2⟩ := h
    have := bSeq_ok h2
    simp only [List.map_cons, List.zipIdx_cons, ← this]

def chk (P : Program) (o : Oper) : Kd → List O → Bool
  | .mov _, [ox] => match o.op with
    | .move x => bO x ox
    | .assign x => bO x ox
    | _ => false
  | .pick, [oc, ox, oy] => match o.op with
    | .pick c x y => bO c oc && (bO x ox && bO y oy)
    | _ => false
  | .box _ size, [ox] => match o.op with
    | .box _ x => decide (size ≠ 0) && bO x ox
    | _ => false
  | .alloc _ size zero, [] => match o.op with
    | .alloc t => match P.info? t with
      | some i => match i.zero with
        | some z => decide (size ≠ 0) && bZs zero z.cells.toList
        | none => false
      | none => false
    | _ => false
  | .build zero offs, os => match o.op with
    | .build t parts => match P.underlying t with
      | some (.struct fields) => match P.info? t with
        | some it => match it.zero with
          | some z => match fields.toList.mapM (fun f => (P.info? f.type).map fun i => (f.offset, i.size)) with
            | some places => bZPs zero z.cells.toList && (bOffs places zero.length parts.toList offs && bOs (parts.toList.map (·.2)) os)
            | none => false
          | none => false
        | none => false
      | _ => false
    | _ => false
  | .bsl size n, os => match o.op with
    | .buildSlice t m parts => match P.underlying t with
      | some (.slice e) => match P.info? e with
        | some i => i.zero.isSome && (o.dst.isSome && (decide (m = n ∧ i.size = size ∧ 0 < size ∧ n * size ≤ 16777216) && (decide (n ≤ maxLen) && (bSeq 0 parts.toList && bOs (parts.toList.map (·.2)) os))))
        | none => false
      | _ => false
    | _ => false
  | .load n isA _, [ox] => match o.op with
    | .load t x => bTy P t n isA && bO x ox
    | _ => false
  | .loadp n isA, [ox] => match o.op with
    | .load t x => bTy P t n isA && bO x ox
    | _ => false
  | .store n, [ox, oy] => match o.op with
    | .store t x y => (bTy P t n true || bTy P t n false) && (bO x ox && (bO y oy && (o.dst.isNone && (match oy, ox with | .t m, .t m' => m != m' | _, _ => true))))
    | _ => false
  | .bin op, [ox, oy] => match o.op with
    | .binOp op' _ x y _ => decide (op' = op) && (bO x ox && bO y oy)
    | _ => false
  | .eqnil neq, [ox, oy] => match o.op with
    | .binOp op t x y _ => match P.underlying t with
      | some (.slice _) => decide (op = if neq then .neq else .eql) && (bO x ox && (bO y oy && (match oy with | .t _ => false | _ => true)))
      | _ => false
    | _ => false
  | .un op, [ox] => match o.op with
    | .unOp op' _ x => decide (op' = op) && bO x ox
    | _ => false
  | .conv k, [ox] => match o.op with
    | .convert src dst x => match P.underlying dst with
      | some (.int k') => decide (k' = k) && ((P.underlying src).isSome && bO x ox)
      | _ => false
    | _ => false
  | .fad off, [ox] => match o.op with
    | .fieldAddr t x f => match P.underlying t with
      | some (.struct fs) => match fs[f]? with
        | some fd => match P.info? fd.type with
          | some i => decide (i.size ≠ 0 ∧ fd.offset = off) && bO x ox
          | none => false
        | none => false
      | _ => false
    | _ => false
  | .fld off n isA, [ox] => match o.op with
    | .field t x f => match P.underlying t with
      | some (.struct fs) => match fs[f]? with
        | some fd => bTy P fd.type n isA && (decide (fd.offset = off) && bO x ox)
        | none => false
      | _ => false
    | _ => false
  | .iad size, [ox, oi] => match o.op with
    | .indexAddr t x ix => match P.underlying t with
      | some (.slice e) => (bTy P e size true || bTy P e size false) && (bO x ox && bO ix oi)
      | _ => false
    | _ => false
  | .sidx, [ox, oi] => match o.op with
    | .index t x ix => match P.underlying t with
      | some .string => bO x ox && bO ix oi
      | _ => false
    | _ => false
  | .len, [ox] => match o.op with
    | .call { callee := .builtin .len, args := ⟨[x]⟩, argTypes := ⟨[t]⟩ } => match P.underlying t with
      | some (.slice _) => bO x ox
      | _ => false
    | _ => false
  | .lenD, [ox] => match o.op with
    | .call { callee := .builtin .len, args := ⟨[x]⟩, argTypes := ⟨[t]⟩ } => match P.underlying t with
      | some (.slice _) => bO x ox
      | _ => false
    | _ => false
  | .slen, [ox] => match o.op with
    | .call { callee := .builtin .len, args := ⟨[x]⟩, argTypes := ⟨[t]⟩ } => match P.underlying t with
      | some .string => bO x ox
      | _ => false
    | _ => false
  | .mn, [ox, oy] => match o.op with
    | .call { callee := .builtin .min, args := ⟨[x, y]⟩, argTypes := ⟨[t, t']⟩ } => decide (t = t') && (bO x ox && bO y oy)
    | _ => false
  | .mx, [ox, oy] => match o.op with
    | .call { callee := .builtin .max, args := ⟨[x, y]⟩, argTypes := ⟨[t, t']⟩ } => decide (t = t') && (bO x ox && bO y oy)
    | _ => false
  | .app size bytes, [ox, oy] => match o.op with
    | .call { callee := .builtin .append, args := ⟨[x, y]⟩, argTypes := ⟨[t, t']⟩ } => match P.underlying t with
      | some (.slice e) => match P.info? e with
        | some i => match i.zero with
          | some z => decide (t = t') && (o.dst.isSome && (decide (i.size = size ∧ i.bytes = bytes ∧ z.cells.size = size) && (bO x ox && bO y oy)))
          | none => false
        | none => false
      | _ => false
    | _ => false
  | .ext j, [ox] => match o.op with
    | .extract x j' => j' == j && bO x ox
    | _ => false
  | .extp j, [ox] => match o.op with
    | .extract x j' => j' == j && bO x ox
    | _ => false
  | .call f, os => match o.op with
    | .call { callee := .value (.func f'), args := xs, .. } => f' == f && bOs xs.toList os
    | _ => false
  | .callv, ox :: os => match o.op with
    | .call { callee := .value x, args := xs, .. } => bO x ox && bOs xs.toList os
    | _ => false
  | .mkfn f, os => match o.op with
    | .makeFunc (.func f') ⟨[]⟩ caps => f' == f && bOs caps.toList os
    | _ => false
  | .mksl _ size bytes _ zero, [ox, oy] => match o.op with
    | .makeSlice t x y => match P.underlying t with
      | some (.slice e) => match P.info? e with
        | some i => match i.zero with
          | some z => decide ((i.size = size ∧ i.bytes = bytes) ∧ size ≠ 0) && (bZs zero z.cells.toList && (bO x ox && bO y oy))
          | none => false
        | none => false
      | _ => false
    | _ => false
  | .slc size lo hi, ox :: ys => match o.op with
    | .slice t x l h none => match P.underlying t with
      | some (.slice e) => (bTy P e size true || bTy P e size false) && (bO x ox && (decide (lo = l.isSome) && (decide (hi = h.isSome) && (match l, h, ys with
        | some l, some m, [ol, om] => bO l ol && bO m om
        | some l, none, [ol] => bO l ol
        | none, some m, [om] => bO m om
        | _, _, _ => false))))
      | _ => false
    | _ => false
  | .nilchk, [ox] => match o.op with
    | .nilCheck x => bO x ox
    | _ => false
  | .ssl lo hi, ox :: ys => match o.op with
    | .slice t x l h none => match P.underlying t with
      | some .string => bO x ox && (decide (lo = l.isSome) && (decide (hi = h.isSome) && (match l, h, ys with
        | some l, some m, [ol, om] => bO l ol && bO m om
        | some l, none, [ol] => bO l ol
        | none, some m, [om] => bO m om
        | _, _, _ => false)))
      | _ => false
    | _ => false
  | .slb _ size, [ox, om] => match o.op with
    | .slice t x none (some m) none => match P.underlying t with
      | some (.slice e) => (bTy P e size true || bTy P e size false) && (bO x ox && bO m om)
      | _ => false
    | _ => false
  | .stk, _ => true
  | .mkmap _, [] => match o.op with
    | .makeMap _ none => true
    | _ => false
  | .look q zero, [ox, oy] => match o.op with
    | .lookup t x y false => match P.underlying t with
      | some (.map kt et) => match P.underlying kt, P.info? et with
        | some (.int q'), some i => match i.zero with
          | some zv => decide (q' = q) && (bZP zero zv && (bO x ox && bO y oy))
          | none => false
        | _, _ => false
      | _ => false
    | _ => false
  | .mupd q, [ox, oy, oz] => match o.op with
    | .mapUpdate t x y z => match P.underlying t with
      | some (.map kt _) => match P.underlying kt with
        | some (.int q') => decide (q' = q) && (o.dst.isNone && (bO x ox && (bO y oy && bO z oz)))
        | _ => false
      | _ => false
    | _ => false
  | .eqat true, [ox, _] => match o.op with
    | .binOp .neq t x (.const .nilIface) _ => match P.underlying t with
      | some (.interface _) => bO x ox
      | _ => false
    | _ => false
  | .eqs n neq, [ox, oy] => match o.op with
    | .binOp op t x y _ => match P.underlying t with
      | some (.struct fs) => decide (op = if neq then .neq else .eql) && (decide (fs.toList.length = n) && (bFlds P fs.toList 0 && (!P.stoodInHeld t && (!P.eqGuardType P.depth t && (bO x ox && bO y oy)))))
      | _ => false
    | _ => false
  | .eqb neq, [ox, oy] => match o.op with
    | .binOp op t x y _ => match P.underlying t with
      | some .bool => decide (op = if neq then .neq else .eql) && (bO x ox && bO y oy)
      | _ => false
    | _ => false
  | .mkz size bytes row, [ox, oy] => match o.op, o.dst with
    | .makeSlice t x y, some _ => match P.underlying t with
      | some (.slice e) => match P.info? e with
        | some i => match i.zero with
          | some z => decide ((i.size = size ∧ i.bytes = bytes) ∧ 0 < size) && (bZPs (rowCells row) z.cells.toList && (bO x ox && bO y oy))
          | none => false
        | none => false
      | _ => false
    | _, _ => false
  | .s2b, [ox] => match o.op with
    | .convert src dst x => match P.underlying src, P.underlying dst with
      | some .string, some (.slice e) => match P.underlying e with
        | some (.int .u8) => bO x ox
        | _ => false
      | _, _ => false
    | _ => false
  | .callm f _, os => match o.op with
    | .call { callee := .value (.func f'), args := xs, .. } => f' == f && bOs xs.toList os
    | _ => false
  | _, _ => false

theorem bTy2_ok {t : TypeId} {n : Nat} (h : (bTy P t n true || bTy P t n false) = true) : ∃ isA, TyIs P t n isA := by
  simp only [Bool.or_eq_true] at h
  rcases h with h | h
  · exact ⟨_, bTy_ok h⟩
  · exact ⟨_, bTy_ok h⟩

theorem isSomeE {α : Type} {x : Option α} (h : x.isSome = true) : ∃ y, x = some y := Option.isSome_iff_exists.1 h

theorem chk_ok {o : Oper} {κ : Kd} {xs : List O} (h : chk P o κ xs = true) : Tr P o κ xs := by
  unfold chk at h
  split at h
  · split at h
    · exact .mov _ _ _ (bO_ok h) (.inl ‹_›)
    · exact .mov _ _ _ (bO_ok h) (.inr ‹_›)
    · cases h
  · split at h
    · simp only [Bool.and_eq_true] at h
      exact .pick _ _ _ _ _ _ (bO_ok h.1) (bO_ok h.2.1) (bO_ok h.2.2) ‹_›
    · cases h
  · split at h
    · simp only [Bool.and_eq_true, decide_eq_true_eq] at h
      exact .box _ _ _ _ _ (bO_ok h.2) ‹_› h.1
    · cases h
  · (repeat' split at h) <;> try cases h
    simp only [Bool.and_eq_true, decide_eq_true_eq] at h
    exact .alloc _ _ _ _ _ _ ‹_› ‹_› ‹_› (bZs_ok h.2) h.1
  · (repeat' split at h) <;> try cases h
    simp only [Bool.and_eq_true] at h
    obtain ⟨h1, h2, h3⟩ := h
    obtain ⟨z1, z2⟩ := bZPs_ok h1
    obtain ⟨o1, o2⟩ := bOffs_ok h2
    obtain ⟨p1, p2⟩ := bOs_ok h3
    refine .build _ _ _ _ _ ‹_› _ ‹_› _ _ ‹_› ‹_› _ ‹_› (by simpa using z1) (fun i c v hc hv => z2 i c v hc (by simpa using hv)) (by simpa using o1) (by simpa using p1) (fun k p o hp ho => o2 k p o (by simpa using hp) ho) fun k p oo hp ho => p2 k p.2 oo (by rw [List.getElem?_map]; simp [hp]) ho
  · (repeat' split at h) <;> try cases h
    simp only [Bool.and_eq_true, decide_eq_true_eq] at h
    obtain ⟨h1, h2, ⟨rfl, h3, h4, h5⟩, h6, h7, h8⟩ := h
    obtain ⟨z, hz⟩ := isSomeE h1
    obtain ⟨d, hd⟩ := isSomeE h2
    obtain ⟨p1, p2⟩ := bOs_ok h8
    exact .bsl _ _ _ _ _ _ _ ‹_› d hd ‹_› _ z ‹_› hz h3 h4 h5 h6 (bSeq_ok h7) p1 p2
  · split at h
    · simp only [Bool.and_eq_true] at h
      exact .load _ _ _ _ (bTy_ok h.1) _ _ (bO_ok h.2) ‹_›
    · cases h
  · split at h
    · simp only [Bool.and_eq_true] at h
      exact .loadp _ _ _ (bTy_ok h.1) _ _ (bO_ok h.2) ‹_›
    · cases h
  · split at h
    · simp only [Bool.and_eq_true] at h
      obtain ⟨h1, h2, h3, h4, h5⟩ := h
      obtain ⟨isA, hty⟩ := bTy2_ok h1
      refine .store _ isA _ hty _ _ _ _ (bO_ok h2) (bO_ok h3) ‹_› (by simpa using h4) fun m e1 e2 => ?_
      subst e1
      subst e2
      simp at h5
    · cases h
  · split at h
    · simp only [Bool.and_eq_true, decide_eq_true_eq] at h
      obtain ⟨rfl, h2, h3⟩ := h
      exact .bin _ _ _ _ _ _ _ (bO_ok h2) (bO_ok h3) ‹_›
    · cases h
  · split at h
    · split at h
      · simp only [Bool.and_eq_true, decide_eq_true_eq] at h
        obtain ⟨rfl, h2, h3, h4⟩ := h
        refine .eqnil _ _ _ _ _ _ _ _ (bO_ok h2) (bO_ok h3) ‹_› ‹_› fun n e => ?_
        subst e
        simp at h4
      · cases h
    · cases h
  · split at h
    · simp only [Bool.and_eq_true, decide_eq_true_eq] at h
      obtain ⟨rfl, h2⟩ := h
      exact .un _ _ _ _ (bO_ok h2) ‹_›
    · cases h
  · (repeat' split at h) <;> try cases h
    simp only [Bool.and_eq_true, decide_eq_true_eq] at h
    obtain ⟨rfl, h2, h3⟩ := h
    exact .conv _ _ _ _ _ (bO_ok h3) ‹_› (isSomeE h2) ‹_›
  · (repeat' split at h) <;> try cases h
    simp only [Bool.and_eq_true, decide_eq_true_eq] at h
    obtain ⟨⟨h1, h2⟩, h3⟩ := h
    exact .fad _ _ _ _ _ (bO_ok h3) ‹_› _ _ _ ‹_› ‹_› ‹_› h1 h2
  · (repeat' split at h) <;> try cases h
    simp only [Bool.and_eq_true, decide_eq_true_eq] at h
    obtain ⟨h1, h2, h3⟩ := h
    exact .fld _ _ _ _ _ _ _ (bO_ok h3) ‹_› _ _ ‹_› ‹_› (bTy_ok h1) h2
  · (repeat' split at h) <;> try cases h
    simp only [Bool.and_eq_true] at h
    obtain ⟨h1, h2, h3⟩ := h
    obtain ⟨isA, hty⟩ := bTy2_ok h1
    exact .iad _ isA _ _ _ _ _ _ (bO_ok h2) (bO_ok h3) ‹_› ‹_› hty
  · (repeat' split at h) <;> try cases h
    simp only [Bool.and_eq_true] at h
    exact .sidx _ _ _ _ _ (bO_ok h.1) (bO_ok h.2) ‹_› ‹_›
  · (repeat' split at h) <;> try cases h
    exact .len _ _ _ _ (bO_ok h) ‹_› ‹_›
  · (repeat' split at h) <;> try cases h
    exact .lenD _ _ _ _ (bO_ok h) ‹_› ‹_›
  · (repeat' split at h) <;> try cases h
    exact .slen _ _ _ (bO_ok h) ‹_› ‹_›
  · (repeat' split at h) <;> try cases h
    simp only [Bool.and_eq_true, decide_eq_true_eq] at h
    obtain ⟨rfl, h2, h3⟩ := h
    exact .minmax false _ _ _ _ _ (bO_ok h2) (bO_ok h3) ‹_›
  · (repeat' split at h) <;> try cases h
    simp only [Bool.and_eq_true, decide_eq_true_eq] at h
    obtain ⟨rfl, h2, h3⟩ := h
    exact .minmax true _ _ _ _ _ (bO_ok h2) (bO_ok h3) ‹_›
  · (repeat' split at h) <;> try cases h
    simp only [Bool.and_eq_true, decide_eq_true_eq] at h
    obtain ⟨rfl, h2, ⟨h3, h4, h5⟩, h6, h7⟩ := h
    obtain ⟨d, hd⟩ := isSomeE h2
    exact .app _ _ _ _ _ _ _ _ (bO_ok h6) (bO_ok h7) ‹_› d hd ‹_› _ _ ‹_› ‹_› h3 h4 h5
  · (repeat' split at h) <;> try cases h
    simp only [Bool.and_eq_true, beq_iff_eq] at h
    obtain ⟨rfl, h2⟩ := h
    exact .ext _ _ _ (bO_ok h2) ‹_›
  · (repeat' split at h) <;> try cases h
    simp only [Bool.and_eq_true, beq_iff_eq] at h
    obtain ⟨rfl, h2⟩ := h
    exact .extp _ _ _ (bO_ok h2) ‹_›
  · (repeat' split at h) <;> try cases h
    simp only [Bool.and_eq_true, beq_iff_eq] at h
    obtain ⟨rfl, h2⟩ := h
    obtain ⟨p1, p2⟩ := bOs_ok h2
    exact .call _ _ _ _ ‹_› (by simpa using p1) p2
  · (repeat' split at h) <;> try cases h
    simp only [Bool.and_eq_true] at h
    obtain ⟨h1, h2⟩ := h
    obtain ⟨p1, p2⟩ := bOs_ok h2
    exact .callv _ _ (bO_ok h1) _ _ _ ‹_› (by simpa using p1) p2
  · (repeat' split at h) <;> try cases h
    simp only [Bool.and_eq_true, beq_iff_eq] at h
    obtain ⟨rfl, h2⟩ := h
    obtain ⟨p1, p2⟩ := bOs_ok h2
    exact .mkfn _ _ _ ‹_› (by simpa using p1) p2
  · (repeat' split at h) <;> try cases h
    simp only [Bool.and_eq_true, decide_eq_true_eq] at h
    obtain ⟨⟨⟨h1, h2⟩, h0⟩, h3, h4, h5⟩ := h
    exact .mksl _ _ _ _ _ _ _ _ _ _ _ (bO_ok h4) (bO_ok h5) ‹_› ‹_› _ _ ‹_› ‹_› h1 h2 (bZs_ok h3) h0
  · split at h
    · split at h
      · simp only [Bool.and_eq_true, decide_eq_true_eq] at h
        obtain ⟨h1, h2, rfl, rfl, h3⟩ := h
        obtain ⟨isA, hty⟩ := bTy2_ok h1
        refine .slc _ isA _ _ _ _ _ _ _ (bO_ok h2) ‹_› ‹_› hty ?_
        split at h3
        · simp only [Bool.and_eq_true] at h3; exact ⟨bO_ok h3.1, bO_ok h3.2⟩
        · exact bO_ok h3
        · exact bO_ok h3
        · cases h3
      · cases h
    · cases h
  · split at h
    · exact .nilchk _ _ (bO_ok h) ‹_›
    · cases h
  · split at h
    · split at h
      · simp only [Bool.and_eq_true, decide_eq_true_eq] at h
        obtain ⟨h2, rfl, rfl, h3⟩ := h
        refine .ssl _ _ _ _ _ _ (bO_ok h2) ‹_› ‹_› ?_
        split at h3
        · simp only [Bool.and_eq_true] at h3; exact ⟨bO_ok h3.1, bO_ok h3.2⟩
        · exact bO_ok h3
        · exact bO_ok h3
        · cases h3
      · cases h
    · cases h
  · split at h
    · split at h
      · simp only [Bool.and_eq_true] at h
        obtain ⟨h1, h2, h3⟩ := h
        obtain ⟨isA, hty⟩ := bTy2_ok h1
        exact .slb _ _ isA _ _ _ _ _ _ (bO_ok h2) (bO_ok h3) ‹_› ‹_› hty
      · cases h
    · cases h
  · exact .stk _
  · split at h
    · exact .mkmap _ _ ‹_›
    · cases h
  · split at h
    · split at h
      · split at h
        · split at h
          · simp only [Bool.and_eq_true, decide_eq_true_eq] at h
            obtain ⟨rfl, h⟩ := h
            exact .look _ _ _ _ _ _ _ _ _ _ _ (bO_ok h.2.1) (bO_ok h.2.2) ‹_› ‹_› ‹_› ‹_› ‹_› (bZP_ok h.1)
          · cases h
        · cases h
      · cases h
    · cases h
  · split at h
    · split at h
      · split at h
        · simp only [Bool.and_eq_true, Option.isNone_iff_eq_none, decide_eq_true_eq] at h
          obtain ⟨rfl, h⟩ := h
          exact .mupd _ _ _ _ _ _ _ _ _ _ (bO_ok h.2.1) (bO_ok h.2.2.1) (bO_ok h.2.2.2) ‹_› h.1 ‹_› ‹_›
        · cases h
      · cases h
    · cases h
  · split at h
    · split at h
      · exact .eqat _ _ _ _ _ _ (bO_ok h) ‹_› ‹_›
      · cases h
    · cases h
  · split at h
    · split at h
      · rename_i hu
        simp only [Bool.and_eq_true, decide_eq_true_eq, Bool.not_eq_true'] at h
        obtain ⟨rfl, h1, h2, h3, h4, h5, h6⟩ := h
        have hfs := fieldsOf_eq hu
        refine .eqs _ _ _ _ _ _ _ _ (bO_ok h5) (bO_ok h6) ‹_› (by rw [hfs]; exact hu) h3 h4 (by rw [hfs]; exact h1) fun i f hf => ?_
        rw [hfs] at hf
        have := bFlds_ok h2 i f hf
        rw [Nat.zero_add] at this
        exact this
      · cases h
    · cases h
  · split at h
    · split at h
      · simp only [Bool.and_eq_true, decide_eq_true_eq] at h
        obtain ⟨rfl, h5, h6⟩ := h
        exact .eqb _ _ _ _ _ _ _ (bO_ok h5) (bO_ok h6) ‹_› ‹_›
      · cases h
    · cases h
  · (repeat' split at h) <;> try cases h
    simp only [Bool.and_eq_true, decide_eq_true_eq] at h
    obtain ⟨⟨⟨h1, h2⟩, h0⟩, h3, h4, h5⟩ := h
    have hz := bZPs_ok h3
    exact .mkz _ _ _ _ _ _ _ _ _ (bO_ok h4) (bO_ok h5) ‹_› _ ‹_› ‹_› _ _ ‹_› ‹_› h1 h2 (by simpa using hz.1) (fun i c v hc hv => hz.2 i c v hc (by simpa using hv)) h0
  · split at h
    · split at h
      · split at h
        · exact .s2b _ _ _ _ _ (bO_ok h) ‹_› ‹_› ‹_› ‹_›
        · cases h
      · cases h
    · cases h
  · (repeat' split at h) <;> try cases h
    simp only [Bool.and_eq_true, beq_iff_eq] at h
    obtain ⟨rfl, h2⟩ := h
    obtain ⟨p1, p2⟩ := bOs_ok h2
    exact .callm _ _ _ _ _ ‹_› (by simpa using p1) p2
  · cases h

def chkJ (P : Program) (o : Oper) (κ : Kd) (xs : List O) : Bool :=
  match κ with
  | .at _ κ' => (newBox κ').isNone && chk P o κ' xs
  | .pl κ' => (newBox κ').isNone && chk P o κ' xs
  | κ' => chk P o κ' xs
theorem chkJ_ok {o : Oper} {κ : Kd} {xs : List O} (h : chkJ P o κ xs = true) : TrJ P o κ xs := by
  unfold chkJ at h
  split at h
  · simp only [Bool.and_eq_true, Option.isNone_iff_eq_none] at h
    exact .at _ _ _ (chk_ok h.2) h.1
  · simp only [Bool.and_eq_true, Option.isNone_iff_eq_none] at h
    exact .pl _ _ (chk_ok h.2) h.1
  · exact .base _ _ (chk_ok h)

def chkI (P : Program) (ops : Array Oper) (o : Oper) (i : Ins) : Bool :=
  decide (i.d = o.dst) && (chkJ P o i.k i.xs && match o.guard, i.g with
    | none, none => true
    | some (j, want), some (t, want') => want == want' && decide ((ops[j]?).bind (·.dst) = some t)
    | _, _ => false)
theorem chkI_ok {ops : Array Oper} {o : Oper} {i : Ins} (h : chkI P ops o i = true) : TrI P ops o i := by
  simp only [chkI, Bool.and_eq_true, decide_eq_true_eq] at h
  refine ⟨h.1, chkJ_ok h.2.1, ?_⟩
  have h3 := h.2.2
  split at h3
  · rename_i e1 e2; rw [e1, e2]; trivial
  · rename_i e1 e2; rw [e1, e2]; simpa using h3
  · cases h3

def chkL (P : Program) (ops : Array Oper) : List Oper → List Ins → Bool
  | [], [] => true
  | o :: os, i :: is => chkI P ops o i && chkL P ops os is
  | _, _ => false
theorem chkL_ok {ops : Array Oper} : ∀ {os : List Oper} {is : List Ins}, chkL P ops os is = true → os.length = is.length ∧ ∀ (k : Nat) i, is[k]? = some i → ∃ o, os[k]? = some o ∧ TrI P ops o i
  | [], [], _ => ⟨rfl, fun k i h => by simp at h⟩
  | o :: os, i :: is, h => by
    simp only [chkL, Bool.and_eq_true] at h
    obtain ⟨e1, e2⟩ := chkL_ok h.2
    refine ⟨by simp [e1], fun k j hj => ?_⟩
    cases k with
    | zero => simp at hj; subst hj; exact ⟨o, rfl, chkI_ok h.1⟩
    | succ k => obtain ⟨o', h1, h2⟩ := e2 k j (by simpa using hj); exact ⟨o', by simpa using h1, h2⟩
  | [], _ :: _, h => by simp [chkL] at h
  | _ :: _, [], h => by simp [chkL] at h

def chkC (P : Program) : C → Code → Bool
  | .stuck, _ => true
  | .skip, .skip => true
  | .reg is, .region _ ops false => chkL P ops ops.toList is
  | .regd is, .region _ ops true => P.follows .mixedOrders && (chkL P ops ops.toList is && pairsB ops is)
  | .rega is, .region _ ops true => P.follows .mixedOrders && (chkL P ops ops.toList is && (stB is && pairsW indepA ops is))
  | .seq a b, .seq x y => chkC P a x && chkC P b y
  | .cond o a b, .cond c x y => bO c o && (chkC P a x && chkC P b y)
  | .block id a, .block id' x => id' == id && chkC P a x
  | .loop _ _ a, .loop x => chkC P a x
  | .exit id, .exit id' => id' == id
  | .ret, .ret => true
  | .pre _ _ _ a, x => chkC P a x
  | .own _ _ _ a, x => chkC P a x
  | _, _ => false
theorem chkC_ok : ∀ {c : C} {x : Code}, chkC P c x = true → TrC P c x := by
  intro c
  induction c with
  | stuck => intro x _; exact .stuck x
  | skip => intro x h; cases x <;> simp [chkC] at h; exact .skip
  | reg is =>
    intro x h
    cases x <;> try (simp [chkC] at h; done)
    rename_i id ops dr
    cases dr with
    | true => simp [chkC] at h
    | false =>
      obtain ⟨e1, e2⟩ := chkL_ok (show chkL P ops ops.toList is = true from h)
      exact .reg id ops is (by simpa using e1) fun k i hi => by obtain ⟨o, h1, h2⟩ := e2 k i hi; exact ⟨o, by simpa using h1, h2⟩
  | regd is =>
    intro x h
    cases x <;> try (simp [chkC] at h; done)
    rename_i id ops dr
    cases dr with
    | false => simp [chkC] at h
    | true =>
      simp only [chkC, Bool.and_eq_true] at h
      obtain ⟨h0, h1, h2⟩ := h
      obtain ⟨e1, e2⟩ := chkL_ok h1
      exact .regd id ops is h0 (by simpa using e1) (fun k i hi => by obtain ⟨o, h1, h2⟩ := e2 k i hi; exact ⟨o, by simpa using h1, h2⟩) h2
  | rega is =>
    intro x h
    cases x <;> try (simp [chkC] at h; done)
    rename_i id ops dr
    cases dr with
    | false => simp [chkC] at h
    | true =>
      simp only [chkC, Bool.and_eq_true] at h
      obtain ⟨h0, h1, h2, h3⟩ := h
      obtain ⟨e1, e2⟩ := chkL_ok h1
      exact .rega id ops is h0 (by simpa using e1) (fun k i hi => by obtain ⟨o, h1, h2⟩ := e2 k i hi; exact ⟨o, by simpa using h1, h2⟩) h2 h3
  | seq a b iha ihb => intro x h; cases x <;> simp [chkC] at h; exact .seq _ _ _ _ (iha h.1) (ihb h.2)
  | cond o a b iha ihb => intro x h; cases x <;> simp [chkC] at h; exact .cond _ _ _ _ _ _ (bO_ok h.1) (iha h.2.1) (ihb h.2.2)
  | block id a iha => intro x h; cases x <;> simp [chkC] at h; obtain ⟨rfl, h⟩ := h; exact .block _ _ _ (iha h)
  | loop fs ds a iha => intro x h; cases x <;> simp [chkC] at h; exact .loop _ _ _ _ (iha h)
  | exit id => intro x h; cases x <;> simp [chkC] at h; subst h; exact .exit _
  | ret => intro x h; cases x <;> simp [chkC] at h; exact .ret
  | pre fs zs ds a iha => intro x h; exact .pre _ _ _ _ _ (iha h)
  | own i k ag a iha => intro x h; exact .own _ _ _ _ _ (iha h)

def chkRV (P : Program) : List ResultVar → List RV → Bool
  | [], [] => true
  | .tmp t :: rs, .tmp t' :: l => t' == t && chkRV P rs l
  | .cell t ty :: rs, .cell t' n :: l => t' == t && (bTy P ty n true && chkRV P rs l)
  | _, _ => false
theorem chkRV_ok : ∀ {rs : List ResultVar} {l : List RV}, chkRV P rs l = true → RVs P rs l
  | [], [], _ => .nil
  | .tmp t :: rs, .tmp t' :: l, h => by simp [chkRV] at h; obtain ⟨rfl, h⟩ := h; exact .tmp _ _ _ (chkRV_ok h)
  | .cell t ty :: rs, .cell t' n :: l, h => by simp [chkRV] at h; obtain ⟨rfl, h1, h2⟩ := h; exact .cell _ _ _ _ _ (bTy_ok h1) (chkRV_ok h2)
  | [], _ :: _, h => by simp [chkRV] at h
  | _ :: _, [], h => by simp [chkRV] at h
  | .tmp _ :: _, .cell _ _ :: _, h => by simp [chkRV] at h
  | .cell _ _ :: _, .tmp _ :: _, h => by simp [chkRV] at h

/-- A function's short form: its slots, its own variables, its results, its body. -/
structure Fn where
  n : Nat
  nb : Nat
  rv : List RV
  c : C

def chkF (P : Program) (f : FuncId) (F : Fn) : Bool :=
  match P.funcs[f]? with
  | some fn => match fn.body with
    | some code => fn.ntmps == F.n && (chkRV P fn.results.toList F.rv && (decide (F.rv.map locOf).Nodup && (chkC P F.c code && fn.name != "runtime.NumGoroutine")))
    | none => false
  | none => false

def Fn.post (F : Fn) (r : DV) (s : St) : Prop := rets s F.rv fun xs => resOf xs = r
def Fn.vc (P : Program) (F : Fn) (args : List PV) (r : DV) : Prop :=
  Vc.vc P F.c (St0 F.n F.nb args) (F.post r) (fun _ _ => False) (F.post r)

theorem Fn.pure {f : FuncId} {F : Fn} (h : chkF P f F = true) {args : List PV} {r : DV} (hr : r.plain = true) (hv : F.vc P args r) : PureCall P f args r := by
  unfold chkF at h
  split at h
  · rename_i fn hf
    split at h
    · rename_i code hb
      simp only [Bool.and_eq_true, beq_iff_eq, decide_eq_true_eq, bne_iff_ne] at h
      obtain ⟨h1, h2, h3, h4, h5⟩ := h
      exact pure_of_vc hf hb h5 (chkC_ok h4) (chkRV_ok h2) h3 hr (by rw [h1]; exact hv)
    · cases h
  · cases h

/-- Behind a call that was handed a block. -/
def Fn.postM (F : Fn) (size : Nat) (rows' : List (List DV)) (r : DV) (s : St) : Prop := getB s.b F.nb = some ⟨true, size, rows', true⟩ ∧ rets s F.rv fun xs => resOf xs = r
theorem Fn.mcall {f : FuncId} {F : Fn} (h : chkF P f F = true) {size : Nat} {args : List DV} {rows rows' : List (List DV)} {r : DV} (hr : r.plain = true) (hrows : allPR rows = true) (hrows' : allPR rows' = true) (hargs : args.all DV.arg = true) (hsz0 : size ≠ 0)
    (hv : Vc.vc P F.c (St1 F.n F.nb args size rows) (F.postM size rows' r) (fun _ _ => False) (F.postM size rows' r)) : MCall P f size args rows rows' r := by
  unfold chkF at h
  split at h
  · rename_i fn hf
    split at h
    · rename_i code hb
      simp only [Bool.and_eq_true, beq_iff_eq, decide_eq_true_eq, bne_iff_ne] at h
      obtain ⟨h1, h2, h3, h4, h5⟩ := h
      exact mcall_of_vc hf hb h5 (chkC_ok h4) (chkRV_ok h2) h3 hr hrows hrows' hargs hsz0 (by rw [h1]; exact hv)
    · cases h
  · cases h

end Go.Proofs.YtkjghcbnmipgfaaGreatDoor.Vc
