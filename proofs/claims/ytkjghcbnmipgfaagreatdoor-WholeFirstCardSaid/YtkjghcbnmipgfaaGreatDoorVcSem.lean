/- The instructions that the model's operations are brought to, and what each does to an abstract state. No condition. -/
import Derived.Test.YtkjghcbnmipgfaaGreatDoorVcState
namespace Go.Proofs.YtkjghcbnmipgfaaGreatDoor.Vc
open Go.RowKit

inductive O where
  | t (n : Nat)
  | c (d : DV)

def O.val (t : List DV) : O → DV
  | .t n => getT t n
  | .c d => d

inductive Kd where
  | mov (take : Bool)
  | pick
  | box (k size : Nat)
  | alloc (k size : Nat) (zero : List DV)
  | build (zero : List PV) (offs : List (Nat × Nat))
  | bsl (size n : Nat)
  | load (n : Nat) (isAgg take : Bool)
  | loadp (n : Nat) (isAgg : Bool)
  | store (n : Nat)
  | bin (op : BinOp)
  | eqnil (neq : Bool)
  | un (op : UnOp)
  | conv (k : IntKind)
  | fad (off : Nat)
  | fld (off n : Nat) (isAgg : Bool)
  | iad (size : Nat)
  | sidx
  | len
  | lenD
  | slen
  | app (size bytes : Nat)
  | ext (j : Nat)
  | extp (j : Nat)
  | call (f : FuncId)
  | callv
  | mkfn (f : FuncId)
  | mksl (k size bytes : Nat) (isAgg : Bool) (zero : List DV)
  | slc (size : Nat) (lo hi : Bool)
  | ssl (lo hi : Bool)
  | slb (k size : Nat)
  | callm (f : FuncId) (k : Nat)
  | stk
  | eqat (neq : Bool)
  | eqs (n : Nat) (neq : Bool)
  | eqb (neq : Bool)
  | mkz (size bytes : Nat) (row : PV)
  | s2b
  | mkmap (k : Nat)
  | look (q : IntKind) (zero : PV)
  | mupd (q : IntKind)
  | nilchk
  | mn
  | mx
  | «at» (k : Nat) (κ : Kd)
  | pl (κ : Kd)

structure Ins where
  d : Option Nat
  g : Option (Nat × Bool)
  k : Kd
  xs : List O

def pvOf : DV → Option PV
  | .p x => some x
  | .ow size n rows => some (.sl size n rows)
  | _ => none
def pvsOf : List DV → Option (List PV)
  | [] => some []
  | d :: ds => match pvOf d, pvsOf ds with
    | some x, some xs => some (x :: xs)
    | _, _ => none
def cellsP : List DV → Option (List PV)
  | [] => some []
  | .p x :: ds => match cellsP ds with
    | some xs => some (x :: xs)
    | none => none
  | _ :: _ => none
def rowsP (isAgg : Bool) : List (List DV) → Option (List PV)
  | [] => some []
  | row :: rs => match cellsP row, rowsP isAgg rs with
    | some cs, some xs => some ((if isAgg then .agg cs else cs.headD (.bool false)) :: xs)
    | _, _ => none

def CapV.frz (b : List (Option Box)) : CapV → Option PV
  | .p x => some x
  | .addr k size r off => match getB b k with
    | some bx => if bx.live then none else match cellsP bx.rows.flatten with
      | some cs => some (.ptr cs (r * size + off))
      | none => none
    | none => none
def capsF (b : List (Option Box)) : List CapV → Option (List PV)
  | [] => some []
  | c :: cs => match c.frz b, capsF b cs with
    | some x, some xs => some (x :: xs)
    | _, _ => none
def DV.frz (b : List (Option Box)) : DV → Option PV
  | .p x => some x
  | .ow size n rows => some (.sl size n rows)
  | .addr k size r off => CapV.frz b (.addr k size r off)
  | .bs k size isAgg lo n => match getB b k with
    | some bx => if bx.live = false ∧ (isAgg = true ∨ size = 1) ∧ size = bx.size ∧ lo = 0 ∧ n = bx.rows.length then match rowsP isAgg bx.rows with
      | some rows => some (.sl size false rows)
      | none => none
      else none
    | none => none
  | .fn f caps => match capsF b caps with
    | some xs => some (.fn f xs)
    | none => none
  | _ => none
def frzs (b : List (Option Box)) : List DV → Option (List PV)
  | [] => some []
  | d :: ds => match d.frz b, frzs b ds with
    | some x, some xs => some (x :: xs)
    | _, _ => none

/-- No box is spoken of. -/
def DV.plain : DV → Bool
  | .p _ | .ow _ _ _ | .tup _ => true
  | _ => false

/-- A function with a body. -/
def FnOK (P : Program) (f : FuncId) : Prop := ∃ fn, P.funcs[f]? = some fn ∧ fn.body.isSome = true ∧ fn.name ≠ "runtime.NumGoroutine"

/-- A call of f with values that hold the data 'args' returns a value that holds 'r'; of what was there nothing turns. -/
def PureCall (P : Program) (f : FuncId) (args : List PV) (r : DV) : Prop :=
  r.plain = true ∧ ∀ (M0 : Nat → Nat → Prop) (w : World) (cargs : Array Value), cargs.size = args.length →
    (∀ (j : Nat) x v, args[j]? = some x → cargs[j]? = some v → Flat M0 w x v) →
    (FnOK P f ∧ Calls P f cargs w fun e w' => ∃ v X, e = .returned v ∧ X.w = w' ∧ VRel X w.heap.size (.tmp 0) r v ∧ (∀ b, b < w.heap.size → ∀ o, X.M b o ↔ M0 b o) ∧
      Below w.heap.size w w') ∨
    ∃ v X, (callFunc f cargs).run P w = .ok (.value v) X.w ∧ VRel X w.heap.size (.tmp 0) r v ∧ (∀ b, b < w.heap.size → ∀ o, X.M b o ↔ M0 b o) ∧ Below w.heap.size w X.w

def allP : List DV → Bool
  | [] => true
  | d :: ds => d.isP && allP ds
def allPR : List (List DV) → Bool
  | [] => true
  | r :: rs => allP r && allPR rs

/-- Where box 0 is block 'blk', of the caller's. -/
def mcx (M0 : Nat → Nat → Prop) (w : World) (blk : Nat) : Cx :=
  { ρ := fun i => if i = 0 then some blk else none
    own := fun g => if g = blk then some (.box 0) else none
    M := M0
    w := w
    ex := fun i => if i = 0 then some blk else none }

/-- A call of f that is handed a block of the caller's (box 0, 'rows'): it returns a value that holds r; the block holds rows' then; of what else was there nothing turns. -/
def MCall (P : Program) (f : FuncId) (size : Nat) (args : List DV) (rows rows' : List (List DV)) (r : DV) : Prop :=
  FnOK P f ∧ r.plain = true ∧ allPR rows' = true ∧ ∀ (M0 : Nat → Nat → Prop) (w : World) (cargs : Array Value) (blk : Nat) (cs : Array Value) (ty : TypeId), cargs.size = args.length →
    BoxRel (mcx M0 w blk) w.heap.size 0 ⟨true, size, rows, true⟩ blk cs ty →
    (∀ (i : Nat) d v, args[i]? = some d → cargs[i]? = some v → VRel (mcx M0 w blk) w.heap.size (.tmp i) d v) →
    Calls P f cargs w fun e w' => ∃ v X cs' ty', e = .returned v ∧ X.w = w' ∧ VRel X w.heap.size (.tmp 0) r v ∧ BoxRel X w.heap.size 0 ⟨true, size, rows', true⟩ blk cs' ty' ∧
      (∀ b, b < w.heap.size → b ≠ blk → ∀ o, X.M b o ↔ M0 b o) ∧ BelowX (fun i => if i = 0 then some blk else none) w.heap.size w w'

/-- An argument, as the callee sees it. -/
def argM (k : Nat) (b : List (Option Box)) : DV → Option DV
  | .bs k' sz ag lo n => if k' = k then some (.bs 0 sz ag lo n) else none
  | .addr k' sz r o => if k' = k then some (.addr 0 sz r o) else none
  | d => match d.frz b with
    | some x => some (.p x)
    | none => none
def argsM (k : Nat) (b : List (Option Box)) : List DV → Option (List DV)
  | [] => some []
  | d :: ds => match argM k b d, argsM k b ds with
    | some x, some xs => some (x :: xs)
    | _, _ => none

def bitsOf (op : BinOp) (k : IntKind) (x y : Int) : Int :=
  let a := BitVec.ofInt k.bits x
  let b := BitVec.ofInt k.bits y
  match op with
  | .and => k.wrap (a &&& b).toNat
  | .or => k.wrap (a ||| b).toNat
  | .xor => k.wrap (a ^^^ b).toNat
  | _ => k.wrap (a &&& ~~~b).toNat

def binPV (op : BinOp) (x y : PV) (K : PV → Prop) : Prop :=
  match x, y with
  | .int k a, .int k' b => match op with
    | .add => k = k' ∧ K (.int k (k.wrap (a + b)))
    | .sub => k = k' ∧ K (.int k (k.wrap (a - b)))
    | .mul => k = k' ∧ K (.int k (k.wrap (a * b)))
    | .quo => k = k' ∧ b ≠ 0 ∧ K (.int k (k.wrap (a.tdiv b)))
    | .rem => k = k' ∧ b ≠ 0 ∧ K (.int k (a.tmod b))
    | .and => k = k' ∧ K (.int k (bitsOf .and k a b))
    | .or => k = k' ∧ K (.int k (bitsOf .or k a b))
    | .xor => k = k' ∧ K (.int k (bitsOf .xor k a b))
    | .andNot => k = k' ∧ K (.int k (bitsOf .andNot k a b))
    | .shl => 0 ≤ b ∧ K (.int k (k.wrap (a * 2 ^ (min b.toNat k.bits))))
    | .shr => 0 ≤ b ∧ K (.int k (a.fdiv (2 ^ (min b.toNat k.bits))))
    | .eql => k = k' ∧ K (.bool (a == b))
    | .neq => k = k' ∧ K (.bool (a != b))
    | .lss => k = k' ∧ K (.bool (decide (a < b)))
    | .leq => k = k' ∧ K (.bool (decide (a ≤ b)))
    | .gtr => k = k' ∧ K (.bool (decide (a > b)))
    | .geq => k = k' ∧ K (.bool (decide (a ≥ b)))
  | .str a, .str b => match op with
    | .eql => K (.bool (a.toList == b.toList))
    | .neq => K (.bool !(a.toList == b.toList))
    | .add => (a.size + b.size ≤ 140737488355328) ∧ K (.str (a ++ b))
    | _ => False
  | _, _ => False

/-- The parts of a struct laid over its zero cells. -/
def setsL : List PV → Nat → List PV → List PV
  | l, _, [] => l
  | l, o, c :: cs => setsL (setL l o c) (o + 1) cs
def fillL : List PV → List (Nat × Nat) → List PV → Option (List PV)
  | z, [], [] => some z
  | z, o :: os, x :: xs => if (rowCells x).length = o.2 then fillL (setsL z o.1 (rowCells x)) os xs else none
  | _, _, _ => none

def takeP : List PV → Nat → Nat → List PV
  | _, _, 0 => []
  | [], _, _ => []
  | x :: xs, 0, n + 1 => x :: takeP xs 0 n
  | _ :: xs, o + 1, n + 1 => takeP xs o (n + 1)
def takeD : List DV → Nat → Nat → List DV
  | _, _, 0 => []
  | [], _, _ => []
  | x :: xs, 0, n + 1 => x :: takeD xs 0 n
  | _ :: xs, o + 1, n + 1 => takeD xs o (n + 1)
def storeD : List DV → Nat → List DV → List DV
  | l, _, [] => l
  | l, o, c :: cs => storeD (setL l o c) (o + 1) cs

def copies : List DV → List DV
  | [] => []
  | d :: ds => d.copy :: copies ds

/-- The cells of a value that is stored. -/
def cellsOfD : DV → Option (List DV)
  | .p x => some ((rowCells x).map .p)
  | .top => none
  | .tup _ => none
  | .mh _ => none
  | d => some [d]

/-- What an own map has at a key: none: a row is no such; some none: nothing. -/
def findM (q : IntKind) (x : Int) : List (List DV) → Option (Option PV)
  | [] => some none
  | [.p (.int q' n), .p v] :: rs => if q' = q then (if n = x then some (some v) else findM q x rs) else none
  | _ => none
def updM (q : IntKind) (x : Int) (v : PV) : List (List DV) → Option (List (List DV))
  | [] => some [[.p (.int q x), .p v]]
  | [.p (.int q' n), .p u] :: rs => if q' = q then (if n = x then some ([.p (.int q' n), .p v] :: rs) else match updM q x v rs with
    | some l => some ([.p (.int q' n), .p u] :: l)
    | none => none) else none
  | _ => none

def loadP (cells : List PV) (off n : Nat) (isAgg : Bool) (K : PV → Prop) : Prop :=
  if isAgg then off + n ≤ cells.length ∧ K (.agg (takeP cells off n))
  else ∃ c, cells[off]? = some c ∧ K c

def sliceLen : DV → Option Nat
  | .p (.sl _ _ rows) => some rows.length
  | .ow _ _ rows => some rows.length
  | .bs _ _ _ _ n => some n
  | _ => none

def TV.dv : TV → DV
  | .p x => .p x
  | .ow size n rows => .ow size n rows

/-- Are two structs of whole numbers the same? -/
def eqsP : List PV → List PV → Option Bool
  | [], [] => some true
  | .int k a :: xs, .int k' b :: ys => if k = k' then match eqsP xs ys with
    | some r => some ((a == b) && r)
    | none => none
    else none
  | _, _ => none

def semI (P : Program) (κ : Kd) (vs : List DV) (b : List (Option Box)) (K : DV → List (Option Box) → Prop) : Prop :=
  match κ, vs with
  | .mov take, [x] => K (if take then x else x.copy) b
  | .pick, [.p (.bool c), x, y] => (c = true → K x.copy b) ∧ (c = false → K y.copy b)
  | .box k size, [x] => match cellsOfD x with
    | some cs => cs.length = size ∧ x.ment k = false ∧ K (.addr k size 0 0) (setL b k (some ⟨true, size, [copies cs], false⟩))
    | none => False
  | .alloc k size zero, [] => zero.length = size ∧ K (.addr k size 0 0) (setL b k (some ⟨true, size, [zero], false⟩))
  | .build zero offs, xs => match pvsOf xs with
    | some ps => match fillL zero offs ps with
      | some cs => K (.p (.agg cs)) b
      | none => False
    | none => False
  | .bsl size n, xs => match pvsOf xs with
    | some rows => rows.length = n ∧ (∀ r, r ∈ rows → (rowCells r).length = size) ∧ K (.ow size false rows) b
    | none => False
  | .load n isAgg take, [.addr k sz r off] => match getB b k with
    | some bx => sz = bx.size ∧ ∃ row, bx.rows[r]? = some row ∧ off + n ≤ row.length ∧
        if isAgg then match pvsOf (takeD row off n) with
          | some cs => K (.p (.agg cs)) b
          | none => False
        else ∃ d, row[off]? = some d ∧ K (if take then d else d.copy) (if take then setL b k (some { bx with rows := setL bx.rows r (setL row off d.copy) }) else b)
    | none => False
  | .load n isAgg _, [.p (.ptr cells off)] => loadP cells off n isAgg fun x => K (.p x) b
  | .loadp n isAgg, [.p (.ptr cells off)] => loadP cells off n isAgg fun x => K (.p x) b
  | .store n, [.addr k sz r off, v] => match getB b k, cellsOfD v with
    | some bx, some cs => sz = bx.size ∧ bx.live = true ∧ cs.length = n ∧ ∃ row, bx.rows[r]? = some row ∧ off + n ≤ row.length ∧
        K .top (setL b k (some { bx with rows := setL bx.rows r (storeD row off cs) }))
    | _, _ => False
  | .bin op, [.p x, .p y] => binPV op x y fun z => K (.p z) b
  | .eqnil neq, [x, .ow _ true []] => match x with
    | .p (.sl _ n _) => K (.p (.bool (if neq then !n else n))) b
    | .ow _ n _ => K (.p (.bool (if neq then !n else n))) b
    | _ => False
  | .un op, [.p (.bool x)] => match op with
    | .not => K (.p (.bool !x)) b
    | _ => False
  | .un op, [.p (.int k x)] => match op with
    | .neg => K (.p (.int k (k.wrap (0 - x)))) b
    | _ => False
  | .conv k, [.p (.int _ n)] => K (.p (.int k (k.wrap n))) b
  | .fad off, [.addr k size r o] => K (.addr k size r (o + off)) b
  | .fad off, [.p (.ptr cells o)] => K (.p (.ptr cells (o + off))) b
  | .fld off n isAgg, [.p (.agg cs)] => loadP cs off n isAgg fun x => K (.p x) b
  | .iad size, [x, .p (.int _ i)] => match x with
    | .p (.sl sz _ rows) => sz = size ∧ 0 ≤ i ∧ ∃ row, rows[i.toNat]? = some row ∧ K (.p (.ptr (rowCells row) 0)) b
    | .ow sz _ rows => sz = size ∧ 0 ≤ i ∧ ∃ row, rows[i.toNat]? = some row ∧ K (.p (.ptr (rowCells row) 0)) b
    | .bs k sz _ lo n => sz = size ∧ 0 ≤ i ∧ i < n ∧ K (.addr k sz (lo + i.toNat) 0) b
    | _ => False
  | .sidx, [.p (.str s), .p (.int _ i)] => 0 ≤ i ∧ ∃ c, s.data.toList[i.toNat]? = some c ∧ K (.p (.int .u8 c.toNat)) b
  | .len, [x] => match sliceLen x with
    | some n => n ≤ maxLen → K (.p (.int .i64 n)) b
    | none => False
  | .lenD, [x] => match sliceLen x with
    | some n => K (.p (.int .i64 n)) b
    | none => False
  | .slen, [.p (.str z)] => K (.p (.int .i64 z.size)) b
  | .app size bytes, [.ow sz nl rows, y] => match y.frz b with
    | some (.sl sz2 _ rows2) => (sz = size ∨ (nl = true ∧ rows = [])) ∧ (sz2 = size ∨ rows2 = []) ∧ (rows.length + rows2.length) * bytes ≤ 140737488355328 ∧
        rows.length + rows2.length ≤ maxLen ∧ K (.ow size (nl && rows2.isEmpty) (rows ++ rows2)) b
    | _ => False
  | .app size bytes, [.p (.sl sz true []), y] => match y.frz b with
    | some (.sl sz2 _ rows2) => sz = size ∧ (sz2 = size ∨ rows2 = []) ∧ rows2.length * bytes ≤ 140737488355328 ∧ rows2.length ≤ maxLen ∧ K (.ow size rows2.isEmpty rows2) b
    | _ => False
  | .ext j, [.tup ds] => match ds[j]? with
    | some d => K d.dv b
    | none => False
  | .extp j, [.tup ds] => match ds[j]? with
    | some d => K d.dv.copy b
    | none => False
  | .call f, xs => match frzs b xs with
    | some args => ∃ r, PureCall P f args r ∧ K r b
    | none => False
  | .callv, fx :: xs => match fx.frz b, frzs b xs with
    | some (.fn f caps), some args => ∃ r, PureCall P f (args ++ caps) r ∧ K r b
    | _, _ => False
  | .mkfn f, xs => match frzs b xs with
    | some caps => K (.p (.fn f caps)) b
    | none => False
  | .mksl k size bytes isAgg zero, [.p (.int _ n), .p (.int _ m)] => n = m ∧ 0 ≤ n ∧ n * bytes ≤ 140737488355328 ∧ n ≤ maxLen ∧ zero.length = size ∧
      K (.bs k size isAgg 0 n.toNat) (setL b k (some ⟨true, size, List.replicate n.toNat zero, false⟩))
  | .slc size lo hi, x :: ys => match x with
    | .p (.sl sz nl rows) => (sz = size ∨ rows = []) ∧ match lo, hi, ys with
      | true, true, [.p (.int _ l), .p (.int _ h)] => 0 ≤ l ∧ l ≤ h ∧ h ≤ rows.length ∧ K (.p (.sl sz nl ((rows.take h.toNat).drop l.toNat))) b
      | true, false, [.p (.int _ l)] => 0 ≤ l ∧ l ≤ rows.length ∧ K (.p (.sl sz nl (rows.drop l.toNat))) b
      | false, true, [.p (.int _ h)] => 0 ≤ h ∧ h ≤ rows.length ∧ K (.p (.sl sz nl (rows.take h.toNat))) b
      | _, _, _ => False
    | _ => False
  | .ssl lo hi, .p (.str z) :: ys => match lo, hi, ys with
    | true, true, [.p (.int _ l), .p (.int _ h)] => 0 ≤ l ∧ l ≤ h ∧ h ≤ z.size ∧ K (.p (.str (z.extract l.toNat h.toNat))) b
    | true, false, [.p (.int _ l)] => 0 ≤ l ∧ l ≤ z.size ∧ K (.p (.str (z.extract l.toNat z.size))) b
    | false, true, [.p (.int _ h)] => 0 ≤ h ∧ h ≤ z.size ∧ K (.p (.str (z.extract 0 h.toNat))) b
    | _, _, _ => False
  | .slb k size, [.bs k' sz ag lo n, .p (.int _ h)] => k' = k ∧ sz = size ∧ lo = 0 ∧ 0 ≤ h ∧ h ≤ n ∧ match getB b k with
    | some bx => h ≤ bx.rows.length ∧ K (.bs k sz ag 0 h.toNat) (setL b k (some { bx with rows := bx.rows.take h.toNat }))
    | none => False
  | .callm f k, xs => match getB b k, argsM k b xs with
    | some bx, some args => bx.live = true ∧ allPR bx.rows = true ∧ ∃ rows' r, MCall P f bx.size args bx.rows rows' r ∧ K r (setL b k (some { bx with rows := rows' }))
    | _, _ => False
  | .mkmap k, [] => K (.mh k) (setL b k (some ⟨true, 0, [], false⟩))
  | .look q zero, [.mh k, .p (.int q' x)] => q' = q ∧ match getM b k with
    | some bx => match findM q x bx.rows with
      | some (some v) => K (.p v) b
      | some none => K (.p zero) b
      | none => False
    | none => False
  | .mupd q, [.mh k, .p (.int q' x), .p v] => q' = q ∧ v.one = true ∧ match getM b k with
    | some bx => match updM q x v bx.rows with
      | some rows => K .top (setL b k (some { bx with rows := rows }))
      | none => False
    | none => False
  | .eqat neq, [.p (.atom .nilIface), .p (.atom .nilIface)] => K (.p (.bool (!neq))) b
  | .eqs n neq, [.p (.agg xs), .p (.agg ys)] => xs.length = n ∧ match eqsP xs ys with
    | some r => K (.p (.bool (if neq then !r else r))) b
    | none => False
  | .eqb neq, [.p (.bool x), .p (.bool y)] => K (.p (.bool (if neq then !(x == y) else x == y))) b
  | .mkz size bytes row, [.p (.int _ n), .p (.int _ m)] => n = m ∧ 0 ≤ n ∧ n * bytes ≤ 140737488355328 ∧ n ≤ maxLen ∧ (rowCells row).length = size ∧
      K (.ow size false (List.replicate n.toNat row)) b
  | .s2b, [.p (.str z)] => z.size ≤ maxLen ∧ K (.p (.sl 1 false (z.data.toList.map fun c => .int .u8 c.toNat))) b
  | .nilchk, [x] => match x with
    | .addr _ _ _ _ => K x b
    | .p (.ptr _ _) => K x b
    | .p (.fn _ _) => K x b
    | _ => False
  | .mn, [.p (.int k x), .p (.int k' y)] => k = k' ∧ K (.p (.int k (if y < x then y else x))) b
  | .mx, [.p (.int k x), .p (.int k' y)] => k = k' ∧ K (.p (.int k (if y > x then y else x))) b
  | _, _ => False

/-- With what was said of its operands: the first one is of box k; all are plain. -/
def semJ (P : Program) (κ : Kd) (vs : List DV) (b : List (Option Box)) (K : DV → List (Option Box) → Prop) : Prop :=
  match κ with
  | .at k κ' => match vs with
    | .addr k' _ _ _ :: _ => k' = k ∧ semI P κ' vs b K
    | _ => False
  | .pl κ' => (pvsOf vs).isSome = true ∧ semI P κ' vs b K
  | κ' => semI P κ' vs b K
def Kd.core : Kd → Kd
  | .at _ κ => κ
  | .pl κ => κ
  | κ => κ

/-- What a place keeps whose slice was taken. -/
def degr : Kd → List O → List DV → List DV
  | .mov true, [.t n], t => setL t n (getT t n).copy
  | .app _ _, .t n :: _, t => setL t n (getT t n).copy
  | .store _, [_, .t n], t => setL t n (getT t n).copy
  | .ext j, [.t n], t => match getT t n with
    | .tup ds => match ds[j]? with
      | some d => setL t n (.tup (setL ds j d.copy))
      | none => t
    | _ => t
  | _, _, t => t

def putD (t : List DV) (d : Option Nat) (v : DV) : List DV :=
  match d with
  | some i => setL t i v
  | none => t

/-- No slot and no box but that one speaks of box k. -/
def noRefT (k : Nat) : List DV → Bool
  | [] => true
  | d :: ds => !d.ment k && noRefT k ds
def noRefR (k : Nat) : List (List DV) → Bool
  | [] => true
  | r :: rs => noRefT k r && noRefR k rs
def noRefB (k : Nat) : Nat → List (Option Box) → Bool
  | _, [] => true
  | i, x :: xs => (i == k || match x with | some bx => noRefR k bx.rows | none => true) && noRefB k (i + 1) xs

def newBox : Kd → Option Nat
  | .box k _ | .alloc k _ _ | .mksl k _ _ _ _ | .mkmap k => some k
  | _ => none

def fresh (i : Ins) (s : St) : Prop :=
  match newBox i.k with
  | some k => k < s.b.length ∧ noRefT k (putD s.t i.d .top) = true ∧ noRefB k 0 s.b = true
  | none => True

def exec (P : Program) (i : Ins) (s : St) (K : St → Prop) : Prop :=
  fresh i s ∧ semJ P i.k (i.xs.map (O.val s.t)) s.b fun v b' => K ⟨putD (degr i.k.core i.xs s.t) i.d v, b'⟩

/-- With its guard: a symbolic one is known from there on. -/
def execG (P : Program) (i : Ins) (s : St) (K : St → Prop) : Prop :=
  match i.g with
  | none => exec P i s K
  | some (j, want) => match getT s.t j with
    | .p (.bool c) => (c = want → exec P i ⟨setL s.t j (.p (.bool want)), s.b⟩ K) ∧ (c = (!want) → K ⟨putD (setL s.t j (.p (.bool (!want)))) i.d (.tup []), s.b⟩)
    | .tup [] => K ⟨putD s.t i.d (.tup []), s.b⟩
    | _ => False

def execs (P : Program) : List Ins → St → (St → Prop) → Prop
  | [], s, K => K s
  | i :: is, s, K => execG P i s fun s' => execs P is s' K

end Go.Proofs.YtkjghcbnmipgfaaGreatDoor.Vc
