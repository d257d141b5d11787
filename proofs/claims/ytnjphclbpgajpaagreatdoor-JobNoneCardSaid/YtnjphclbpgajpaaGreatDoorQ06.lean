/- Part of a proof over a Go program: VcOin, VcReg. No condition. -/
import Derived.Test.YtnjphclbpgajpaaGreatDoorQ05
import Derived.WalkSpells
set_option linter.unnecessarySimpa false
set_option linter.unusedSectionVars false
set_option linter.unusedSimpArgs false
set_option linter.unusedVariables false
namespace Go.Proofs.YtnjphclbpgajpaaGreatDoor.Vc
open Go.RowKit
variable {P : Program}
inductive TrO (P : Program) (o : Oper) : KO → List O → Prop
 | ldo (j : Nat) (ag : Bool) (t : TypeId) (ht : TyIs P t 1 false) (x : Operand) (ox : O) (hx : OT x ox) (ho : o.op = .load t x) : TrO P o (.ldo j ag) [ox]
 | callo (f : FuncId) (gr : Bool) (xs : Array Operand) (ts : Array TypeId) (os : List O) (ho : o.op = .call { callee := .value (.func f), args := xs, argTypes := ts })
   (hl : os.length = xs.size) (hos : ∀ (k : Nat) x oo, xs.toList[k]? = some x → os[k]? = some oo → OT x oo) : TrO P o (.callo f gr) os
 | callr (f : FuncId) (xs : Array Operand) (ts : Array TypeId) (os : List O) (ho : o.op = .call { callee := .value (.func f), args := xs, argTypes := ts })
   (hl : os.length = xs.size) (hos : ∀ (k : Nat) x oo, xs.toList[k]? = some x → os[k]? = some oo → OT x oo) : TrO P o (.callr f) os
 | callvo (gr : Bool) (x : Operand) (ox : O) (hx : OT x ox) (xs : Array Operand) (ts : Array TypeId) (os : List O) (ho : o.op = .call { callee := .value x, args := xs, argTypes := ts })
   (hl : os.length = xs.size) (hos : ∀ (k : Nat) x oo, xs.toList[k]? = some x → os[k]? = some oo → OT x oo) : TrO P o (.callvo gr) (ox :: os)
 | bldo (t : TypeId) (parts : Array (Nat × Operand)) (os : List O) (zero : List PV) (offs : List (Nat × Nat)) (ho : o.op = .build t parts)
   (fields : Array Field) (hu : P.underlying t = some (.struct fields)) (it : TypeInfo) (z : Value) (hi : P.info? t = some it) (hz : it.zero = some z)
   (places : List (Nat × Nat)) (hpl : fields.toList.mapM (fun f => (P.info? f.type).map fun i => (f.offset, i.size)) = some places)
   (hzs : z.cells.size = zero.length) (hzr : ∀ (i : Nat) c v, zero[i]? = some c → z.cells[i]? = some v → ZP c v)
   (hl : parts.size = offs.length) (hl2 : os.length = parts.size)
   (hoff : ∀ (k : Nat) (p : Nat × Operand) (o : Nat × Nat), parts[k]? = some p → offs[k]? = some o → places[p.1]? = some o ∧ o.1 + o.2 ≤ zero.length)
   (hos : ∀ (k : Nat) (p : Nat × Operand) oo, parts[k]? = some p → os[k]? = some oo → OT p.2 oo) : TrO P o (.bldo zero offs) os
 | eqp (neq : Bool) (t t' : TypeId) (x y : Operand) (ox oy : O) (hx : OT x ox) (hy : OT y oy) (ho : o.op = .binOp (if neq then .neq else .eql) t x y t') (hu : P.underlying t = some (.pointer (P.pointee t))) : TrO P o (.eqp neq) [ox, oy]
 | appd (size bytes : Nat) (ag : Bool) (x y : Operand) (ox oy : O) (t e : TypeId) (hx : OT x ox) (hy : OT y oy) (ho : o.op = .call { callee := .builtin .append, args := #[x, y], argTypes := #[t, t] })
   (hu : P.underlying t = some (.slice e)) (i : TypeInfo) (z : Value) (hi : P.info? e = some i) (hz : i.zero = some z) (hsz : i.size = size) (hby : i.bytes = bytes) (hzs : z.cells.size = size) (hne : size ≠ 0) : TrO P o (.appd size bytes ag) [ox, oy]
 | bsld (size n : Nat) (ag : Bool) (t e : TypeId) (parts : Array (Nat × Operand)) (os : List O) (xs : List Operand) (ho : o.op = .buildSlice t n parts)
   (hu : P.underlying t = some (.slice e)) (i : TypeInfo) (z : Value) (hi : P.info? e = some i) (hz : i.zero = some z) (hsz : i.size = 1) (hn : n ≤ 16777216) (hnm : n ≤ maxLen)
   (hp : parts.toList = (xs.zipIdx 0).map fun x => (x.2, x.1)) (hl : os.length = xs.length) (hos : ∀ (j : Nat) x oo, xs[j]? = some x → os[j]? = some oo → OT x oo) : TrO P o (.bsld size n ag) os
 | slx (size : Nat) (isA : Bool) (t e : TypeId) (x m : Operand) (ox om : O) (hx : OT x ox) (hm : OT m om) (ho : o.op = .slice t x none (some m) none) (hu : P.underlying t = some (.slice e)) (hi' : TyIs P e size isA) : TrO P o (.slx size) [ox, om]
 | lookx (zero : PV) (ok : Bool) (t kt et : TypeId) (q : Option IntKind) (zv : Value) (i : TypeInfo) (x y : Operand) (ox oy : O) (hx : OT x ox) (hy : OT y oy) (ho : o.op = .lookup t x y ok) (hu : P.underlying t = some (.map kt et)) (hk : P.underlying kt = some (kdesc q))
   (hi : P.info? et = some i) (hz : i.zero = some zv) (hzr : ZV zero zv) : TrO P o (.lookx q zero ok) [ox, oy]
 | mupx (t kt et : TypeId) (q : Option IntKind) (x y z : Operand) (ox oy oz : O) (hx : OT x ox) (hy : OT y oy) (hzz : OT z oz) (ho : o.op = .mapUpdate t x y z) (hd : o.dst = none) (hu : P.underlying t = some (.map kt et)) (hk : P.underlying kt = some (kdesc q)) : TrO P o (.mupx q) [ox, oy, oz]
 | mdel (t kt et : TypeId) (q : Option IntKind) (x y : Operand) (ts : Array TypeId) (ox oy : O) (hx : OT x ox) (hy : OT y oy) (ho : o.op = .call { callee := .builtin .delete, args := #[x, y], argTypes := ts }) (hts : ts[0]? = some t) (hu : P.underlying t = some (.map kt et)) (hk : P.underlying kt = some (kdesc q)) :
   TrO P o (.mdel q) [ox, oy]
 | mpe (t kt et : TypeId) (q : Option IntKind) (x y : Operand) (ox oy : O) (hx : OT x ox) (hy : OT y oy) (ho : o.op = .mapEntry t x y) (hu : P.underlying t = some (.map kt et)) (hk : P.underlying kt = some (kdesc q)) : TrO P o (.mpe q) [ox, oy]
 | lda (n : Nat) (t : TypeId) (ht : TyIs P t n true) (x : Operand) (ox : O) (hx : OT x ox) (ho : o.op = .load t x) : TrO P o (.lda n) [ox]
 | ents (t : TypeId) (x y z : Operand) (ox oy oz : O) (hx : OT x ox) (hy : OT y oy) (hzz : OT z oz) (ho : o.op = .entryStore t x y z) (hd : o.dst = none) : TrO P o .ents [ox, oy, oz]
 | mlen (t kt et : TypeId) (x : Operand) (ox : O) (hx : OT x ox) (ho : o.op = .call { callee := .builtin .len, args := #[x], argTypes := #[t] }) (hu : P.underlying t = some (.map kt et)) : TrO P o .mlen [ox]
theorem callO_mono {f : FuncId} {gr : Bool} {xs : List DV} {b : List (Option Box)} {K K' : DV → List (Option Box) → Prop} (hk : ∀ v b, K v b → K' v b) (h : callO P f gr xs b K) : callO P f gr xs b K' := by
 unfold callO at h ⊢
 split at h
 ·obtain ⟨bs', r, h1, h2, h3⟩ := h; exact ⟨bs', r, h1, h2, hk _ _ h3⟩
 ·exact h.elim
theorem execO_ok {G : Gl} {X : Cx} {s : St} {a : Act} {Q : Exit → Act → World → Prop} {o : Oper} {K : St → Prop} (h : Rel G X s a) {κ : KO} {xs : List O} (ht : TrO P o κ xs) {g : Option (Nat × Bool)} (hf : fresh ⟨o.dst, g, .ob κ, xs⟩ s)
  (hK : semO P κ (xs.map (O.val s.t)) s.b fun v b => K ⟨putD s.t o.dst v, b⟩) : o.wp P a X.w (Post G K) Q := by
 cases ht with
 | ldo j ag t ht x ox hx ho => exact s_ldo h ht hx ho hf hK
 | callo f gr xs ts os ho hl hos =>
  refine s_callo h ho hl hos (fun e => ?_) hK
  subst e
  exact hf
 | callr f xs ts os ho hl hos =>
  refine s_callo (f := f) (gr := false) h ho hl hos (fun e => by cases e) ?_
  have hK' : callO P f false _ s.b fun v b' => b' = s.b ∧ K ⟨putD s.t o.dst v, s.b⟩ := hK
  exact callO_mono (K' := fun v b => K ⟨putD s.t o.dst v, b⟩) (fun v b' h => by obtain ⟨e, h⟩ := h; subst e; exact h) hK'
 | callvo gr x ox hx xs ts os ho hl hos =>
  refine s_callvo h hx ho hl hos (fun e => ?_) hK
  subst e
  exact hf
 | bldo t parts os zero offs ho fields hu it z hi hz places hpl hzs hzr hl hl2 hoff hos => exact s_bldo h ho hu hi hz hpl hzs hzr hl hl2 hoff hos hK
 | eqp neq t t' x y ox oy hx hy ho hu => exact s_eqp h hx hy ho hu hK
 | appd size bytes ag x y ox oy t e hx hy ho hu i z hi hz hsz hby hzs hne => exact s_appd h hx hy ho hu hi hz hsz hby hzs hne hf hK
 | bsld size n ag t e parts os xs ho hu i z hi hz hsz hn hnm hp hl hos => exact s_bsld h ho hu hi hz hsz hn hnm hp hl hos hf hK
 | slx size isA t e x m ox om hx hm ho hu hi' => exact s_slx h hx hm ho hu hi' hK
 | lookx zero ok t kt et q zv i x y ox oy hx hy ho hu hk hi hz hzr => exact s_lookx h hx hy ho hu hk hi hz hzr hK
 | mupx t kt et q x y z ox oy oz hx hy hzz ho hd hu hk => exact s_mupx h hx hy hzz ho hd hu hk hK
 | mdel t kt et q x y ts ox oy hx hy ho hts hu hk => exact s_mdel h hx hy ho hts hu hk hK
 | mpe t kt et q x y ox oy hx hy ho hu hk => exact s_mpe h hx hy ho hu hk hK
 | lda n t ht x ox hx ho => exact s_lda h ht hx ho hK
 | ents t x y z ox oy oz hx hy hzz ho hd => exact s_ents h hx hy hzz ho hd hK
 | mlen t kt et x ox hx ho hu => exact s_mlen h hx ho hu hK
end Go.Proofs.YtnjphclbpgajpaaGreatDoor.Vc
namespace Go.Proofs.YtnjphclbpgajpaaGreatDoor.Vc
open Go.RowKit
variable {P : Program}
inductive Tr (P : Program) (o : Oper) : Kd → List O → Prop
 | mov (take : Bool) (x : Operand) (ox : O) (hx : OT x ox) (ho : o.op = .move x ∨ o.op = .assign x) : Tr P o (.mov take) [ox]
 | pick (c x y : Operand) (oc ox oy : O) (hc : OT c oc) (hx : OT x ox) (hy : OT y oy) (ho : o.op = .pick c x y) : Tr P o .pick [oc, ox, oy]
 | box (k size : Nat) (t : TypeId) (x : Operand) (ox : O) (hx : OT x ox) (ho : o.op = .box t x) (hsne : size ≠ 0) : Tr P o (.box k size) [ox]
 | alloc (k size : Nat) (zero : List DV) (t : TypeId) (i : TypeInfo) (z : Value) (ho : o.op = .alloc t) (hi : P.info? t = some i) (hz : i.zero = some z) (hzr : ZRs zero z.cells) (hsne : size ≠ 0) : Tr P o (.alloc k size zero) []
 | build (t : TypeId) (parts : Array (Nat × Operand)) (os : List O) (zero : List PV) (offs : List (Nat × Nat)) (ho : o.op = .build t parts)
   (fields : Array Field) (hu : P.underlying t = some (.struct fields)) (it : TypeInfo) (z : Value) (hi : P.info? t = some it) (hz : it.zero = some z)
   (places : List (Nat × Nat)) (hpl : fields.toList.mapM (fun f => (P.info? f.type).map fun i => (f.offset, i.size)) = some places)
   (hzs : z.cells.size = zero.length) (hzr : ∀ (i : Nat) c v, zero[i]? = some c → z.cells[i]? = some v → ZP c v)
   (hl : parts.size = offs.length) (hl2 : os.length = parts.size)
   (hoff : ∀ (k : Nat) (p : Nat × Operand) (o : Nat × Nat), parts[k]? = some p → offs[k]? = some o → places[p.1]? = some o ∧ o.1 + o.2 ≤ zero.length)
   (hos : ∀ (k : Nat) (p : Nat × Operand) oo, parts[k]? = some p → os[k]? = some oo → OT p.2 oo) : Tr P o (.build zero offs) os
 | bsl (size n : Nat) (t e : TypeId) (parts : Array (Nat × Operand)) (os : List O) (xs : List Operand) (ho : o.op = .buildSlice t n parts) (d : Nat) (hd : o.dst = some d)
   (hu : P.underlying t = some (.slice e)) (i : TypeInfo) (z : Value) (hi : P.info? e = some i) (hz : i.zero = some z) (hsz : i.size = size) (hpos : 0 < size) (hn : n * size ≤ 16777216) (hnm : n ≤ maxLen)
   (hp : parts.toList = (xs.zipIdx 0).map fun x => (x.2, x.1)) (hl : os.length = xs.length) (hos : ∀ (j : Nat) x oo, xs[j]? = some x → os[j]? = some oo → OT x oo) : Tr P o (.bsl size n) os
 | load (n : Nat) (isA take : Bool) (t : TypeId) (ht : TyIs P t n isA) (x : Operand) (ox : O) (hx : OT x ox) (ho : o.op = .load t x) : Tr P o (.load n isA take) [ox]
 | loadp (n : Nat) (isA : Bool) (t : TypeId) (ht : TyIs P t n isA) (x : Operand) (ox : O) (hx : OT x ox) (ho : o.op = .load t x) : Tr P o (.loadp n isA) [ox]
 | store (n : Nat) (isA : Bool) (t : TypeId) (ht : TyIs P t n isA) (x y : Operand) (ox oy : O) (hx : OT x ox) (hy : OT y oy) (ho : o.op = .store t x y) (hdst : o.dst = none) (hne : ∀ m, oy = .t m → ox ≠ .t m) : Tr P o (.store n) [ox, oy]
 | bin (op : BinOp) (t t' : TypeId) (x y : Operand) (ox oy : O) (hx : OT x ox) (hy : OT y oy) (ho : o.op = .binOp op t x y t') : Tr P o (.bin op) [ox, oy]
 | eqnil (neq : Bool) (t t' e : TypeId) (x y : Operand) (ox oy : O) (hx : OT x ox) (hy : OT y oy) (ho : o.op = .binOp (if neq then .neq else .eql) t x y t') (hu : P.underlying t = some (.slice e)) (hc : ∀ n, oy ≠ .t n) : Tr P o (.eqnil neq) [ox, oy]
 | un (op : UnOp) (t : TypeId) (x : Operand) (ox : O) (hx : OT x ox) (ho : o.op = .unOp op t x) : Tr P o (.un op) [ox]
 | conv (k : IntKind) (src dst : TypeId) (x : Operand) (ox : O) (hx : OT x ox) (ho : o.op = .convert src dst x) (hs : ∃ d, P.underlying src = some d) (hd : P.underlying dst = some (.int k)) : Tr P o (.conv k) [ox]
 | fad (off : Nat) (t : TypeId) (f : Nat) (x : Operand) (ox : O) (hx : OT x ox) (ho : o.op = .fieldAddr t x f) (fs : Array Field) (fd : Field) (i : TypeInfo) (hu : P.underlying t = some (.struct fs)) (hf : fs[f]? = some fd)
   (hi : P.info? fd.type = some i) (hz : i.size ≠ 0) (hoff : fd.offset = off) : Tr P o (.fad off) [ox]
 | fld (off n : Nat) (isA : Bool) (t : TypeId) (f : Nat) (x : Operand) (ox : O) (hx : OT x ox) (ho : o.op = .field t x f) (fs : Array Field) (fd : Field) (hu : P.underlying t = some (.struct fs)) (hf : fs[f]? = some fd)
   (hi : TyIs P fd.type n isA) (hoff : fd.offset = off) : Tr P o (.fld off n isA) [ox]
 | iad (size : Nat) (isA : Bool) (t e : TypeId) (x ix : Operand) (ox oi : O) (hx : OT x ox) (hix : OT ix oi) (ho : o.op = .indexAddr t x ix) (hu : P.underlying t = some (.slice e)) (hi : TyIs P e size isA) : Tr P o (.iad size) [ox, oi]
 | sidx (t : TypeId) (x ix : Operand) (ox oi : O) (hx : OT x ox) (hix : OT ix oi) (ho : o.op = .index t x ix) (hu : P.underlying t = some .string) : Tr P o .sidx [ox, oi]
 | len (t e : TypeId) (x : Operand) (ox : O) (hx : OT x ox) (ho : o.op = .call { callee := .builtin .len, args := #[x], argTypes := #[t] }) (hu : P.underlying t = some (.slice e)) : Tr P o .len [ox]
 | lenD (t e : TypeId) (x : Operand) (ox : O) (hx : OT x ox) (ho : o.op = .call { callee := .builtin .len, args := #[x], argTypes := #[t] }) (hu : P.underlying t = some (.slice e)) : Tr P o .lenD [ox]
 | slen (t : TypeId) (x : Operand) (ox : O) (hx : OT x ox) (ho : o.op = .call { callee := .builtin .len, args := #[x], argTypes := #[t] }) (hu : P.underlying t = some .string) : Tr P o .slen [ox]
 | minmax (mx : Bool) (t : TypeId) (x y : Operand) (ox oy : O) (hx : OT x ox) (hy : OT y oy) (ho : o.op = .call { callee := .builtin (if mx then .max else .min), args := #[x, y], argTypes := #[t, t] }) : Tr P o (if mx then .mx else .mn) [ox, oy]
 | app (size bytes : Nat) (x y : Operand) (ox oy : O) (t e : TypeId) (hx : OT x ox) (hy : OT y oy) (ho : o.op = .call { callee := .builtin .append, args := #[x, y], argTypes := #[t, t] })
   (d : Nat) (hd : o.dst = some d) (hu : P.underlying t = some (.slice e)) (i : TypeInfo) (z : Value) (hi : P.info? e = some i) (hz : i.zero = some z) (hsz : i.size = size) (hby : i.bytes = bytes) (hzs : z.cells.size = size) : Tr P o (.app size bytes) [ox, oy]
 | ext (j : Nat) (x : Operand) (ox : O) (hx : OT x ox) (ho : o.op = .extract x j) : Tr P o (.ext j) [ox]
 | extp (j : Nat) (x : Operand) (ox : O) (hx : OT x ox) (ho : o.op = .extract x j) : Tr P o (.extp j) [ox]
 | call (f : FuncId) (xs : Array Operand) (ts : Array TypeId) (os : List O) (ho : o.op = .call { callee := .value (.func f), args := xs, argTypes := ts })
   (hl : os.length = xs.size) (hos : ∀ (k : Nat) x oo, xs.toList[k]? = some x → os[k]? = some oo → OT x oo) : Tr P o (.call f) os
 | callv (x : Operand) (ox : O) (hx : OT x ox) (xs : Array Operand) (ts : Array TypeId) (os : List O) (ho : o.op = .call { callee := .value x, args := xs, argTypes := ts })
   (hl : os.length = xs.size) (hos : ∀ (k : Nat) x oo, xs.toList[k]? = some x → os[k]? = some oo → OT x oo) : Tr P o .callv (ox :: os)
 | mkfn (f : FuncId) (caps : Array Operand) (os : List O) (ho : o.op = .makeFunc (.func f) #[] caps) (hl : os.length = caps.size)
   (hos : ∀ (k : Nat) x oo, caps.toList[k]? = some x → os[k]? = some oo → OT x oo) : Tr P o (.mkfn f) os
 | mksl (k size bytes : Nat) (ag : Bool) (zero : List DV) (t e : TypeId) (x y : Operand) (ox oy : O) (hx : OT x ox) (hy : OT y oy) (ho : o.op = .makeSlice t x y)
   (hu : P.underlying t = some (.slice e)) (i : TypeInfo) (z : Value) (hi : P.info? e = some i) (hz : i.zero = some z) (hsz : i.size = size) (hby : i.bytes = bytes) (hzr : ZRs zero z.cells) (hsne : size ≠ 0) : Tr P o (.mksl k size bytes ag zero) [ox, oy]
 | slc (size : Nat) (isA : Bool) (t e : TypeId) (x : Operand) (ox : O) (lo hi : Option Operand) (ys : List O) (hx : OT x ox) (ho : o.op = .slice t x lo hi none) (hu : P.underlying t = some (.slice e)) (hi' : TyIs P e size isA)
   (hys : match lo, hi, ys with | some l, some m, [ol, om] => OT l ol ∧ OT m om | some l, none, [ol] => OT l ol | none, some m, [om] => OT m om | _, _, _ => False) : Tr P o (.slc size lo.isSome hi.isSome) (ox :: ys)
 | nilchk (x : Operand) (ox : O) (hx : OT x ox) (ho : o.op = .nilCheck x) : Tr P o .nilchk [ox]
 | ssl (t : TypeId) (x : Operand) (ox : O) (lo hi : Option Operand) (ys : List O) (hx : OT x ox) (ho : o.op = .slice t x lo hi none) (hu : P.underlying t = some .string)
   (hys : match lo, hi, ys with | some l, some m, [ol, om] => OT l ol ∧ OT m om | some l, none, [ol] => OT l ol | none, some m, [om] => OT m om | _, _, _ => False) : Tr P o (.ssl lo.isSome hi.isSome) (ox :: ys)
 | slb (k size : Nat) (isA : Bool) (t e : TypeId) (x m : Operand) (ox om : O) (hx : OT x ox) (hm : OT m om) (ho : o.op = .slice t x none (some m) none) (hu : P.underlying t = some (.slice e)) (hi' : TyIs P e size isA) : Tr P o (.slb k size) [ox, om]
 | stk (os : List O) : Tr P o .stk os
 | mkmap (k : Nat) (t : TypeId) (ho : o.op = .makeMap t none) : Tr P o (.mkmap k) []
 | look (zero : PV) (t kt et : TypeId) (q : IntKind) (zv : Value) (i : TypeInfo) (x y : Operand) (ox oy : O) (hx : OT x ox) (hy : OT y oy) (ho : o.op = .lookup t x y false) (hu : P.underlying t = some (.map kt et)) (hk : P.underlying kt = some (.int q))
   (hi : P.info? et = some i) (hz : i.zero = some zv) (hzr : ZP zero zv) : Tr P o (.look q zero) [ox, oy]
 | mupd (t kt et : TypeId) (q : IntKind) (x y z : Operand) (ox oy oz : O) (hx : OT x ox) (hy : OT y oy) (hzz : OT z oz) (ho : o.op = .mapUpdate t x y z) (hd : o.dst = none) (hu : P.underlying t = some (.map kt et)) (hk : P.underlying kt = some (.int q)) : Tr P o (.mupd q) [ox, oy, oz]
 | eqat (t t' : TypeId) (ms : Array (String × TypeId)) (x : Operand) (ox oy : O) (hx : OT x ox) (ho : o.op = .binOp .neq t x (.const .nilIface) t') (hu : P.underlying t = some (.interface ms)) : Tr P o (.eqat true) [ox, oy]
 | eqs (n : Nat) (neq : Bool) (t t' : TypeId) (x y : Operand) (ox oy : O) (hx : OT x ox) (hy : OT y oy) (ho : o.op = .binOp (if neq then .neq else .eql) t x y t')
   (hu : P.underlying t = some (.struct (P.fieldsOf t))) (hst : P.stoodInHeld t = false) (hg : P.eqGuardType P.depth t = false) (hn : (P.fieldsOf t).toList.length = n)
   (hf : ∀ (i : Nat) f, (P.fieldsOf t).toList[i]? = some f → f.name ≠ "_" ∧ f.offset = i ∧ (∃ k, P.underlying f.type = some (.int k)) ∧ TyIs P f.type 1 false) : Tr P o (.eqs n neq) [ox, oy]
 | eqb (neq : Bool) (t t' : TypeId) (x y : Operand) (ox oy : O) (hx : OT x ox) (hy : OT y oy) (ho : o.op = .binOp (if neq then .neq else .eql) t x y t') (hu : P.underlying t = some .bool) : Tr P o (.eqb neq) [ox, oy]
 | mkz (size bytes : Nat) (row : PV) (t e : TypeId) (x y : Operand) (ox oy : O) (hx : OT x ox) (hy : OT y oy) (ho : o.op = .makeSlice t x y) (d : Nat) (hd : o.dst = some d)
   (hu : P.underlying t = some (.slice e)) (i : TypeInfo) (z : Value) (hi : P.info? e = some i) (hz : i.zero = some z) (hsz : i.size = size) (hby : i.bytes = bytes) (hzs : z.cells.size = (rowCells row).length)
   (hzr : ∀ (i : Nat) c v, (rowCells row)[i]? = some c → z.cells[i]? = some v → ZP c v) (hpos : 0 < size) : Tr P o (.mkz size bytes row) [ox, oy]
 | s2b (src dst e : TypeId) (x : Operand) (ox : O) (hx : OT x ox) (ho : o.op = .convert src dst x) (hs : P.underlying src = some .string) (hd : P.underlying dst = some (.slice e)) (he : P.underlying e = some (.int .u8)) : Tr P o .s2b [ox]
 | callm (f : FuncId) (k : Nat) (xs : Array Operand) (ts : Array TypeId) (os : List O) (ho : o.op = .call { callee := .value (.func f), args := xs, argTypes := ts })
   (hl : os.length = xs.size) (hos : ∀ (k : Nat) x oo, xs.toList[k]? = some x → os[k]? = some oo → OT x oo) : Tr P o (.callm f k) os
 | ob (κ : KO) (xs : List O) (h : TrO P o κ xs) : Tr P o (.ob κ) xs
section
variable {G : Gl} {X : Cx} {s : St} {a : Act} {Q : Exit → Act → World → Prop} {o : Oper} {K : St → Prop}
theorem Flat.nilb {M : Nat → Nat → Prop} {w : World} {size : Nat} {nl : Bool} {rows : List PV} {v : Value} (h : Flat M w (.sl size nl rows) v) : ∃ b n c, v = .slice b n c ∧ b.isNone = nl := by
 cases h with
 | nilsl => exact ⟨none, 0, 0, rfl, rfl⟩
 | sl0 => exact ⟨_, _, _, rfl, rfl⟩
 | sl _ _ b off cap => exact ⟨_, _, _, rfl, rfl⟩
theorem s_bin (h : Rel G X s a) {op : BinOp} {t t' : TypeId} {x y : Operand} {ox oy : O} (hx : OT x ox) (hy : OT y oy) (ho : o.op = .binOp op t x y t')
  (hK : semI P (.bin op) [ox.val s.t, oy.val s.t] s.b fun v b => K ⟨putD s.t o.dst v, b⟩) : o.wp P a X.w (Post G K) Q := by
 obtain ⟨_, rx⟩ := h.opnd hx
 obtain ⟨_, ry⟩ := h.opnd hy
 generalize ox.val s.t = vx at *
 generalize oy.val s.t = vy at *
 cases vx with
 | p z =>
  cases vy with
  | p y' => simp only [semI] at hK; exact run_binPV h op t t' x y ho rx ry hK
  | _ => simp [semI] at hK
 | _ => simp [semI] at hK
theorem s_eqnil (h : Rel G X s a) {neq : Bool} {t t' e : TypeId} {x y : Operand} {ox oy : O} (hx : OT x ox) (hy : OT y oy) (ho : o.op = .binOp (if neq then .neq else .eql) t x y t') (hu : P.underlying t = some (.slice e)) (hc : ∀ n, oy ≠ .t n)
  (hK : semI P (.eqnil neq) [ox.val s.t, oy.val s.t] s.b fun v b => K ⟨putD s.t o.dst v, b⟩) : o.wp P a X.w (Post G K) Q := by
 obtain ⟨_, rx⟩ := h.opnd hx
 generalize ox.val s.t = vx at *
 obtain ⟨sz, ey⟩ : ∃ sz, oy = .c (.ow sz true []) := by
  cases oy with
  | t n => exact absurd rfl (hc n)
  | c d =>
   simp only [O.val] at hK
   cases d with
   | ow sz nl rows =>
    cases nl with
    | true => cases rows with
     | nil => exact ⟨sz, rfl⟩
     | cons _ _ => cases vx <;> simp [semI] at hK
    | false => cases vx <;> simp [semI] at hK
   | _ => cases vx <;> simp [semI] at hK
 subst ey
 have hyv : a.eval y = .slice none 0 0 := by cases hy; rfl
 simp only [O.val] at hK
 have fin : ∀ sz' nl rows, Flat X.M X.w (.sl sz' nl rows) (a.eval x) → K ⟨putD s.t o.dst (.p (.bool (if neq then !nl else nl))), s.b⟩ → o.wp P a X.w (Post G K) Q := by
  intro sz' nl rows hf hKK
  obtain ⟨b, n, c, ev, eb⟩ := hf.nilb
  subst eb
  refine wp_pv (z := .bool _) h ?_ (.bool _) hKK
  cases neq with
  | true =>
   have := run_neq_slice_nil_any (P := P) X.w t e b n c 0 0 hu
   simp [execOp, ho, ev, hyv, eqGuard, this]
  | false =>
   have := Lib.run_eql_slice_nil (P := P) X.w t e b n c 0 0 hu
   simp [execOp, ho, ev, hyv, eqGuard, this]
 cases vx with
 | p z =>
  cases z with
  | sl sz' nl rows => simp only [semI] at hK; exact fin sz' nl rows rx hK
  | _ => simp [semI] at hK
 | ow sz' nl rows => simp only [semI] at hK; exact fin sz' nl rows (OwRel.flat rx) hK
 | _ => simp [semI] at hK
theorem s_loadAny (h : Rel G X s a) {t : TypeId} {n : Nat} {isA take : Bool} (ht : TyIs P t n isA) {x : Operand} {ox : O} (hx : OT x ox) (ho : o.op = .load t x)
  (hK : semI P (.load n isA take) [ox.val s.t] s.b fun v b => K ⟨putD s.t o.dst v, b⟩) : o.wp P a X.w (Post G K) Q := by
 generalize e : ox.val s.t = vx at *
 cases vx with
 | addr k sz r off => exact s_loadB h ht hx ho e (by rw [e]; exact hK)
 | p z =>
  cases z with
  | ptr cells off => exact s_loadP h ht hx ho e (by rw [e]; exact hK)
  | _ => simp [semI] at hK
 | _ => simp [semI] at hK
theorem s_loadp (h : Rel G X s a) {t : TypeId} {n : Nat} {isA : Bool} (ht : TyIs P t n isA) {x : Operand} {ox : O} (hx : OT x ox) (ho : o.op = .load t x)
  (hK : semI P (.loadp n isA) [ox.val s.t] s.b fun v b => K ⟨putD s.t o.dst v, b⟩) : o.wp P a X.w (Post G K) Q := by
 generalize e : ox.val s.t = vx at *
 cases vx with
 | p z =>
  cases z with
  | ptr cells off => exact s_loadP (take := false) h ht hx ho e (by rw [e]; exact hK)
  | _ => simp [semI] at hK
 | _ => simp [semI] at hK
theorem s_lenD (h : Rel G X s a) {t e : TypeId} {x : Operand} {ox : O} (hx : OT x ox) (ho : o.op = .call { callee := .builtin .len, args := #[x], argTypes := #[t] }) (hu : P.underlying t = some (.slice e))
  (hK : semI P .lenD [ox.val s.t] s.b fun v b => K ⟨putD s.t o.dst v, b⟩) : o.wp P a X.w (Post G K) Q := by
 refine s_len h hx ho hu ?_
 simp only [semI] at hK ⊢
 cases hs : sliceLen (ox.val s.t) with
 | none => rw [hs] at hK; exact hK
 | some n => rw [hs] at hK; exact fun _ => hK
theorem s_extp (h : Rel G X s a) {j : Nat} {x : Operand} {ox : O} (hx : OT x ox) (ho : o.op = .extract x j)
  (hK : semI P (.extp j) [ox.val s.t] s.b fun v b => K ⟨putD s.t o.dst v, b⟩) : o.wp P a X.w (Post G K) Q := by
 obtain ⟨L, hv⟩ := h.opnd hx
 generalize ox.val s.t = dv at *
 cases dv with
 | tup ds =>
  simp only [semI] at hK
  cases hj : ds[j]? with
  | none => simp [hj] at hK
  | some d =>
   simp only [hj] at hK
   obtain ⟨vs, ev, hl, hh⟩ := hv
   have hlt : j < vs.size := by rw [hl]; exact (List.getElem?_eq_some_iff.1 hj).1
   have hu : vs[j]? = some vs[j] := by simp [hlt]
   have hr := hh j d _ hj hu
   have run : (execOp a.eval o).run P X.w = .ok (.value vs[j]) X.w := by simp [execOp, ho, ev, Instr.extract, hlt]
   cases d with
   | p x => exact wp_pv (z := x) h run hr hK
   | ow size n rows => exact wp_pv (z := .sl size n rows) h run (OwRel.flat hr) hK
 | _ => simp [semI] at hK
def Kd.base : Kd → Bool
 | .at _ _ | .pl _ => false
 | _ => true
theorem Tr.base {κ : Kd} {xs : List O} (ht : Tr P o κ xs) : κ.base = true := by cases ht <;> first | rfl | (rename_i mx _ _ _ _ _ _ _ _; cases mx <;> rfl)
theorem semJ_base {κ : Kd} (h : κ.base = true) {vs : List DV} {b : List (Option Box)} {K : DV → List (Option Box) → Prop} : semJ P κ vs b K = semI P κ vs b K := by cases κ <;> first | rfl | cases h
theorem core_base {κ : Kd} (h : κ.base = true) : κ.core = κ := by cases κ <;> first | rfl | cases h
theorem exec_ok (h : Rel G X s a) {κ : Kd} {xs : List O} (ht : Tr P o κ xs) {g : Option (Nat × Bool)} (hK : exec P ⟨o.dst, g, κ, xs⟩ s K) : o.wp P a X.w (Post G K) Q := by
 obtain ⟨hf, hK⟩ := hK
 simp only [semJ_base ht.base, core_base ht.base] at hK
 cases ht with
 | mov take x ox hx ho => exact s_mov h hx ho hK
 | pick c x y oc ox oy hc hx hy ho => exact s_pick h hc hx hy ho hK
 | box k size t x ox hx ho hsne => exact s_box h hx ho hsne hf hK
 | alloc k size zero t i z ho hi hz hzr hsne => exact s_alloc h ho hi hz hzr hsne hf hK
 | build t parts os zero offs ho fields hu it z hi hz places hpl hzs hzr hl hl2 hoff hos => exact s_build h ho hu hi hz hpl hzs hzr hl hl2 hoff hos hK
 | bsl size n t e parts os xs ho d hd hu i z hi hz hsz hpos hn hnm hp hl hos => exact s_bsl h ho hd hu hi hz hsz hpos hn hnm hp hl hos hK
 | load n isA take t ht x ox hx ho => exact s_loadAny h ht hx ho hK
 | loadp n isA t ht x ox hx ho => exact s_loadp h ht hx ho hK
 | store n isA t ht x y ox oy hx hy ho hdst hne => exact s_store h ht hx hy ho hdst hne hK
 | bin op t t' x y ox oy hx hy ho => exact s_bin h hx hy ho hK
 | eqnil neq t t' e x y ox oy hx hy ho hu hc => exact s_eqnil h hx hy ho hu hc hK
 | un op t x ox hx ho => exact s_un h hx ho hK
 | conv k src dst x ox hx ho hs hd => exact s_conv h hx ho hs hd hK
 | fad off t f x ox hx ho fs fd i hu hf' hi hz hoff => exact s_fad h hx ho hu hf' hi hz hoff hK
 | fld off n isA t f x ox hx ho fs fd hu hf' hi hoff => exact s_fld h hx ho hu hf' hi hoff hK
 | iad size isA t e x ix ox oi hx hix ho hu hi => exact s_iad h hx hix ho hu hi hK
 | sidx t x ix ox oi hx hix ho hu => exact s_sidx h hx hix ho hu hK
 | len t e x ox hx ho hu => exact s_len h hx ho hu hK
 | lenD t e x ox hx ho hu => exact s_lenD h hx ho hu hK
 | slen t x ox hx ho hu => exact s_slen h hx ho hu hK
 | minmax mx t x y ox oy hx hy ho => refine s_minmax h hx hy ho ?_; cases mx <;> exact hK
 | app size bytes x y ox oy t e hx hy ho d hd hu i z hi hz hsz hby hzs => exact s_app h hx hy ho hd hu hi hz hsz hby hzs hK
 | ext j x ox hx ho => exact s_ext h hx ho hK
 | extp j x ox hx ho => exact s_extp h hx ho hK
 | call f xs ts os ho hl hos => exact s_call h ho hl hos hK
 | callv x ox hx xs ts os ho hl hos => exact s_callv h hx ho hl hos hK
 | mkfn f caps os ho hl hos => exact s_mkfn h ho hl hos hK
 | mksl k size bytes ag zero t e x y ox oy hx hy ho hu i z hi hz hsz hby hzr hsne => exact s_mksl h hx hy ho hu hi hz hsz hby hzr hsne hf hK
 | slc size isA t e x ox lo hi ys hx ho hu hi' hys => exact s_slc h hx ho hu hi' hys hK
 | nilchk x ox hx ho => exact s_nilchk h hx ho hK
 | ssl t x ox lo hi ys hx ho hu hys => exact s_ssl h hx ho hu hys hK
 | slb k size isA t e x m ox om hx hm ho hu hi' => exact s_slb h hx hm ho hu hi' hK
 | callm f k xs ts os ho hl hos => exact s_callm h ho hl hos hK
 | stk os => simp [semI] at hK
 | ob κ xs h' => exact execO_ok h h' hf hK
 | mkmap k t ho => exact s_mkmap h ho hf hK
 | look zero t kt et q zv i x y ox oy hx hy ho hu hk hi hz hzr => exact s_look h hx hy ho hu hk hi hz hzr hK
 | mupd t kt et q x y z ox oy oz hx hy hzz ho hd hu hk => exact s_mupd h hx hy hzz ho hd hu hk hK
 | eqat t t' ms x ox oy hx ho hu => exact s_eqat h hx ho hu hK
 | eqs n neq t t' x y ox oy hx hy ho hu hst hg hn hfl => exact s_eqs h hx hy ho hu hst hg hn hfl hK
 | eqb neq t t' x y ox oy hx hy ho hu => exact s_eqb h hx hy ho hu hK
 | mkz size bytes row t e x y ox oy hx hy ho d hd hu i z hi hz hsz hby hzs hzr hpos => exact s_mkz h hx hy ho hd hu hi hz hsz hby hzs hzr hpos hK
 | s2b src dst e x ox hx ho hs hd he => exact s_s2b h hx ho hs hd he hK
end
inductive TrJ (P : Program) (o : Oper) : Kd → List O → Prop
 | base (κ : Kd) (xs : List O) (h : Tr P o κ xs) : TrJ P o κ xs
 | «at» (k : Nat) (κ : Kd) (xs : List O) (h : Tr P o κ xs) (hn : newBox κ = none) (hg : growB κ = false) : TrJ P o (.at k κ) xs
 | pl (κ : Kd) (xs : List O) (h : Tr P o κ xs) (hn : newBox κ = none) (hg : growB κ = false) : TrJ P o (.pl κ) xs
theorem execJ_ok {G : Gl} {X : Cx} {s : St} {a : Act} {Q : Exit → Act → World → Prop} {o : Oper} {K : St → Prop} (h : Rel G X s a) {κ : Kd} {xs : List O} (ht : TrJ P o κ xs) {g : Option (Nat × Bool)} (hK : exec P ⟨o.dst, g, κ, xs⟩ s K) :
  o.wp P a X.w (Post G K) Q := by
 cases ht with
 | base _ _ h' => exact exec_ok h h' hK
 | «at» k κ _ h' hn hg =>
  obtain ⟨_, hK⟩ := hK
  refine exec_ok h h' (g := g) ⟨by unfold fresh; simp only; rw [hn, hg]; trivial, ?_⟩
  simp only [semJ_base h'.base, core_base h'.base]
  simp only [semJ, Kd.core] at hK
  split at hK
  ·exact hK.2
  ·exact hK.elim
 | pl κ _ h' hn hg =>
  obtain ⟨_, hK⟩ := hK
  refine exec_ok h h' (g := g) ⟨by unfold fresh; simp only; rw [hn, hg]; trivial, ?_⟩
  simp only [semJ_base h'.base, core_base h'.base]
  exact hK.2
structure TrI (P : Program) (ops : Array Oper) (o : Oper) (i : Ins) : Prop where
 d : i.d = o.dst
 tr : TrJ P o i.k i.xs
 g : match o.guard, i.g with
  | none, none => True
  | some (j, want), some (t, want') => want = want' ∧ (ops[j]?).bind (·.dst) = some t
  | _, _ => False
theorem wp_next_mono {o : Oper} {a : Act} {w : World} {N N' : Act → World → Prop} {Q : Exit → Act → World → Prop} (h : o.wp P a w N Q) (hn : ∀ a w, N a w → N' a w) : o.wp P a w N' Q := by
 unfold Oper.wp Oper.upon at *
 split at h
 ·exact hn _ _ h
 ·exact hn _ _ h
 ·exact hn _ _ h
 ·refine h.mono fun e w' he => ?_
  cases e with
  | returned v => exact hn _ _ he
  | panicked c => exact he
  | outgrown => exact he
 ·exact h.mono fun v w' he => hn _ _ he
 ·exact h
 ·exact h.elim
theorem yielded_of {ops : Array Oper} {tmps : Array Value} {j t : Nat} {b : Bool} (h : (ops[j]?).bind (·.dst) = some t) (hlt : t < tmps.size) (hb : tmps.getD t undef = .bool b) : yielded ops tmps j = some b := by
 unfold yielded
 rw [h]
 have e : tmps[t]? = some (.bool b) := by
  rw [← hb]; simp [Array.getD, hlt]
 simp [e]
theorem yielded_tup {ops : Array Oper} {tmps : Array Value} {j t : Nat} {X : Cx} {base : Nat} {L : Loc} (h : (ops[j]?).bind (·.dst) = some t) (hv : VRel X base L (.tup []) (tmps.getD t undef)) : yielded ops tmps j = none := by
 obtain ⟨vs, h1, _⟩ := hv
 unfold yielded
 rw [h]
 cases ht : tmps[t]? with
 | none => simp [ht]
 | some u =>
  have : tmps.getD t undef = u := by
   have := (Array.getElem?_eq_some_iff.1 ht)
   obtain ⟨h2, h3⟩ := this
   simp [Array.getD, h2, h3]
  rw [this] at h1
  subst h1
  simp [ht]
theorem undef_tup {X : Cx} {base : Nat} {L : Loc} : VRel X base L (.tup []) undef := ⟨#[], rfl, rfl, fun j d u hd => by simp at hd⟩
theorem ops_ok {G : Gl} {ops : Array Oper} {Q : Exit → Act → World → Prop} {K : St → Prop} : ∀ (l : List Nat) (is : List Ins), l.length = is.length →
  (∀ (k : Nat) i, is[k]? = some i → ∃ o, (l[k]?).bind (ops[·]?) = some o ∧ TrI P ops o i) →
  (∀ s X a, Rel G X s a → K s → Q .normal a X.w) →
  ∀ {s : St} {X : Cx} {a : Act}, Rel G X s a → execs P is s K → wpOps P ops Q l a X.w
 | [], [], _, _, hQ, s, X, a, h, hK => by simp only [wpOps]; exact hQ s X a h hK
 | [], _ :: _, hl, _, _, _, _, _, _, _ => by simp at hl
 | _ :: _, [], hl, _, _, _, _, _, _, _ => by simp at hl
 | q :: l, i :: is, hl, htr, hQ, s, X, a, h, hK => by
  obtain ⟨o, ho, ti⟩ := htr 0 i rfl
  have ho' : ops[q]? = some o := by simpa using ho
  have ih : ∀ {s : St} {X : Cx} {a : Act}, Rel G X s a → execs P is s K → wpOps P ops Q l a X.w :=
   ops_ok l is (by simpa using hl) (fun k i hi => htr (k + 1) i (by simpa using hi)) hQ
  simp only [wpOps, ho']
  obtain ⟨id, ig, ik, ixs⟩ := i
  have hd := ti.d
  have htr' := ti.tr
  have hg := ti.g
  simp only at hd htr' hg
  subst hd
  simp only [execs, execG] at hK
  have go : ∀ {s : St}, Rel G X s a → exec P ⟨o.dst, ig, ik, ixs⟩ s (fun s' => execs P is s' K) → o.wp P a X.w (wpOps P ops Q l) Q := by
   intro s h hK
   refine wp_next_mono (execJ_ok h htr' hK) fun a' w' ⟨s', X', h', e', k'⟩ => ?_
   subst e'
   exact ih h' k'
  cases hog : o.guard with
  | none =>
   rw [hog] at hg
   cases ig with
   | some _ => exact hg.elim
   | none =>
    have hw : Region.wanted o (yielded ops a.tmps) = true := by simp [Region.wanted, hog]
    rw [if_pos hw]
    exact .inl (go h hK)
  | some jw =>
   obtain ⟨j, want⟩ := jw
   rw [hog] at hg
   cases ig with
   | none => exact hg.elim
   | some tw =>
    obtain ⟨t, want'⟩ := tw
    obtain ⟨rfl, hj⟩ := hg
    simp only at hK
    have hv := h.get t
    generalize hgt : getT s.t t = dv at *
    cases dv with
    | p z =>
     cases z with
     | bool c =>
      simp only at hK
      have hlt : t < a.tmps.size := by
       rw [h.size]
       rcases Nat.lt_or_ge t s.t.length with h0 | h0
       ·exact h0
       ·rw [getT_eq, List.getElem?_eq_none h0] at hgt; cases hgt
      have hb := Flat.boolv hv
      have hy : yielded ops a.tmps j = some c := yielded_of hj hlt hb
      have hweak : Rel G X ⟨setL s.t t (.p (.bool c)), s.b⟩ a := h.weak t _ hv
      by_cases hcw : c = want
      ·subst hcw
       rw [if_pos (by simp [Region.wanted, hog, hy])]
       exact .inl (go hweak (hK.1 rfl))
      ·rw [if_neg (by simp [Region.wanted, hog, hy, hcw])]
       have e : c = !want := by cases c <;> cases want <;> simp at hcw ⊢
       have hKK := hK.2 e
       rw [e] at hweak
       exact ih (hweak.put (d := o.dst) (v := .tup []) (fun _ _ => undef_tup)) hKK
     | _ => exact hK.elim
    | tup ds =>
     cases ds with
     | nil =>
      have hy := yielded_tup (ops := ops) hj hv
      rw [if_neg (by simp [Region.wanted, hog, hy])]
      exact ih (h.put (d := o.dst) (v := .tup []) (fun _ _ => undef_tup)) hK
     | cons _ _ => exact hK.elim
    | _ => exact hK.elim
theorem execs_region {G : Gl} {id : Nat} {ops : Array Oper} {is : List Ins} {Q : Exit → Act → World → Prop} {K : St → Prop} (hl : ops.size = is.length)
  (htr : ∀ (k : Nat) i, is[k]? = some i → ∃ o, ops[k]? = some o ∧ TrI P ops o i) (hQ : ∀ s X a, Rel G X s a → K s → Q .normal a X.w) {s : St} {X : Cx} {a : Act} (h : Rel G X s a) (hK : execs P is s K) :
  (Code.region id ops false).wp P Q a X.w := by
 refine wp_region (ops_ok (List.range ops.size) is (by simpa using hl) (fun k i hi => ?_) hQ h hK)
 obtain ⟨o, ho, ti⟩ := htr k i hi
 have hk := (List.getElem?_eq_some_iff.1 hi).1
 exact ⟨o, by simp [show k < ops.size by omega]; simpa [show k < ops.size by omega] using ho, ti⟩
end Go.Proofs.YtnjphclbpgajpaaGreatDoor.Vc
