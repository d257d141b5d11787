/- Part of a proof over a Go program: VcRun. No condition. -/
import Derived.Test.YtkjghcbnmipgfaaGreatDoorA04
set_option linter.unusedSectionVars false
set_option linter.unusedSimpArgs false
set_option linter.unusedVariables false
namespace Go.Proofs.YtkjghcbnmipgfaaGreatDoor.Vc
open Go.RowKit
variable {P : Program}
section force
variable {R : Type}
def natF (n : Nat) (K : Nat → R) : R := match n with
  | 0 => K 0
  | n + 1 => K (n + 1)
theorem natF_eq (n : Nat) (K : Nat → R) : natF n K = K n := by cases n <;> rfl
def intF (n : Int) (K : Int → R) : R := match n with
  | .ofNat m => natF m fun m => K (.ofNat m)
  | .negSucc m => natF m fun m => K (.negSucc m)
theorem intF_eq (n : Int) (K : Int → R) : intF n K = K n := by cases n <;> simp [intF, natF_eq]
def boolF (n : Bool) (K : Bool → R) : R := match n with
  | true => K true
  | false => K false
theorem boolF_eq (n : Bool) (K : Bool → R) : boolF n K = K n := by cases n <;> rfl
def listF {α : Type} : List α → (List α → R) → R
  | [], K => K []
  | x :: xs, K => listF xs fun ys => K (x :: ys)
theorem listF_eq {α : Type} (l : List α) (K : List α → R) : listF l K = K l := by
  induction l generalizing K with
  | nil => rfl
  | cons x xs ih => simp only [listF]; rw [ih]
def bytesF : List UInt8 → (List UInt8 → R) → R
  | [], K => K []
  | x :: xs, K => natF x.toNat fun n => bytesF xs fun ys => K (UInt8.ofNat n :: ys)
theorem bytesF_eq (l : List UInt8) (K : List UInt8 → R) : bytesF l K = K l := by
  induction l generalizing K with
  | nil => rfl
  | cons x xs ih => simp only [bytesF, natF_eq]; rw [ih]; simp
def strF (s : ByteArray) (K : ByteArray → R) : R := bytesF s.data.toList fun l => K ⟨⟨l⟩⟩
theorem strF_eq (s : ByteArray) (K : ByteArray → R) : strF s K = K s := by
  unfold strF; rw [bytesF_eq]
def pvF (x : PV) (K : PV → R) : R := match x with
  | .int k n => intF n fun n => K (.int k n)
  | .bool b => boolF b fun b => K (.bool b)
  | .str s => strF s fun s => K (.str s)
  | .atom v => K (.atom v)
  | .agg cs => listF cs fun cs => K (.agg cs)
  | .sl n b rows => boolF b fun b => listF rows fun rows => K (.sl n b rows)
  | .fn f caps => listF caps fun caps => K (.fn f caps)
  | .ptr cells off => listF cells fun cells => natF off fun off => K (.ptr cells off)
theorem pvF_eq (x : PV) (K : PV → R) : pvF x K = K x := by cases x <;> simp [pvF, intF_eq, boolF_eq, strF_eq, listF_eq, natF_eq]
def dvF (v : DV) (K : DV → R) : R := match v with
  | .top => K .top
  | .p x => pvF x fun x => K (.p x)
  | .ow a b c => boolF b fun b => listF c fun c => K (.ow a b c)
  | .tup ds => listF ds fun ds => K (.tup ds)
  | .addr a b c d => natF c fun c => natF d fun d => K (.addr a b c d)
  | .bs a b c d e => natF d fun d => natF e fun e => K (.bs a b c d e)
  | .fn f cs => listF cs fun cs => K (.fn f cs)
  | .mh k => K (.mh k)
theorem dvF_eq (v : DV) (K : DV → R) : dvF v K = K v := by cases v <;> simp [dvF, pvF_eq, boolF_eq, listF_eq, natF_eq]
def rowsF : List (List DV) → (List (List DV) → R) → R
  | [], K => K []
  | x :: xs, K => listF x fun x => rowsF xs fun ys => K (x :: ys)
theorem rowsF_eq (l : List (List DV)) (K : List (List DV) → R) : rowsF l K = K l := by
  induction l generalizing K with
  | nil => rfl
  | cons x xs ih => simp only [rowsF, listF_eq]; rw [ih]
def boxF (b : Option Box) (K : Option Box → R) : R := match b with
  | none => K none
  | some ⟨l, s, rows, o⟩ => boolF l fun l => rowsF rows fun rows => K (some ⟨l, s, rows, o⟩)
theorem boxF_eq (b : Option Box) (K : Option Box → R) : boxF b K = K b := by
  cases b with
  | none => rfl
  | some b => cases b; simp [boxF, boolF_eq, rowsF_eq]
def setF {α : Type} : List α → Nat → α → (List α → R) → R
  | [], _, _, K => K []
  | _ :: xs, 0, v, K => K (v :: xs)
  | x :: xs, n + 1, v, K => setF xs n v fun ys => K (x :: ys)
theorem setF_eq {α : Type} (l : List α) (n : Nat) (v : α) (K : List α → R) : setF l n v K = K (setL l n v) := by
  induction l generalizing n K with
  | nil => rfl
  | cons x xs ih => cases n with
    | zero => rfl
    | succ n => simp only [setF, setL]; rw [ih]
end force
def wrapR (k : IntKind) (n : Int) : Int := match k with
  | .i64 => bif decide (-9223372036854775808 ≤ n) && decide (n ≤ 9223372036854775807) then n else k.wrap n
  | k => k.wrap n
theorem wrapR_eq (k : IntKind) (n : Int) : wrapR k n = k.wrap n := by
  unfold wrapR
  split
  · cases h : (decide (-9223372036854775808 ≤ n) && decide (n ≤ 9223372036854775807))
    · rfl
    · simp only [Bool.and_eq_true, decide_eq_true_eq] at h
      exact (wrapE h.1 h.2).symm
  · rfl
def whenR {R : Type} (A : Prop) [Decidable A] (K : Option R) : Option R := if A then K else none
theorem whenR_ok {R : Type} {A : Prop} [Decidable A] {K : Option R} {r : R} (h : whenR A K = some r) : A ∧ K = some r := by
  unfold whenR at h
  split at h
  · exact ⟨by assumption, h⟩
  · cases h
variable {R : Type}
/-- What calls give. -/
structure Env where
  call : FuncId → List PV → Option DV
  callM : FuncId → Nat → List DV → List (List DV) → Option (List (List DV) × DV)
structure Env.OK (P : Program) (E : Env) : Prop where
  call : ∀ f a d, E.call f a = some d → PureCall P f a d
  callM : ∀ f n a rows rows' d, E.callM f n a rows = some (rows', d) → MCall P f n a rows rows' d
def binR (op : BinOp) (x y : PV) (K : PV → Option R) : Option R :=
  match x, y with
  | .int k a, .int k' b => match op with
    | .add => whenR (k = k') (K (.int k (wrapR k (a + b))))
    | .sub => whenR (k = k') (K (.int k (wrapR k (a - b))))
    | .mul => whenR (k = k') (K (.int k (wrapR k (a * b))))
    | .quo => whenR (k = k') (whenR (b ≠ 0) (K (.int k (wrapR k (a.tdiv b)))))
    | .rem => whenR (k = k') (whenR (b ≠ 0) (K (.int k (a.tmod b))))
    | .and => whenR (k = k') (K (.int k (bitsOf .and k a b)))
    | .or => whenR (k = k') (K (.int k (bitsOf .or k a b)))
    | .xor => whenR (k = k') (K (.int k (bitsOf .xor k a b)))
    | .andNot => whenR (k = k') (K (.int k (bitsOf .andNot k a b)))
    | .shl => whenR (0 ≤ b) (K (.int k (wrapR k (a * 2 ^ (min b.toNat k.bits)))))
    | .shr => whenR (0 ≤ b) (K (.int k (a.fdiv (2 ^ (min b.toNat k.bits)))))
    | .eql => whenR (k = k') (K (.bool (a == b)))
    | .neq => whenR (k = k') (K (.bool (a != b)))
    | .lss => whenR (k = k') (K (.bool (decide (a < b))))
    | .leq => whenR (k = k') (K (.bool (decide (a ≤ b))))
    | .gtr => whenR (k = k') (K (.bool (decide (a > b))))
    | .geq => whenR (k = k') (K (.bool (decide (a ≥ b))))
  | .str a, .str b => match op with
    | .eql => K (.bool (a.toList == b.toList))
    | .neq => K (.bool !(a.toList == b.toList))
    | .add => whenR (a.size + b.size ≤ 140737488355328) (K (.str (a ++ b)))
    | _ => none
  | _, _ => none
theorem binR_ok {op : BinOp} {x y : PV} {K : PV → Option R} {r : R} (h : binR op x y K = some r) : binPV op x y fun z => K z = some r := by
  unfold binR at h
  split at h
  · cases op <;> simp only [wrapR_eq] at h <;> simp only [binPV] <;> first
      | exact whenR_ok h
      | (obtain ⟨h1, h2⟩ := whenR_ok h; obtain ⟨h2, h3⟩ := whenR_ok h2; exact ⟨h1, h2, h3⟩)
  · cases op <;> simp only [binPV] <;> first | exact h | exact whenR_ok h | (simp at h)
  · cases h
def loadR (cells : List PV) (off n : Nat) (isAgg : Bool) (K : PV → Option R) : Option R :=
  if isAgg then whenR (off + n ≤ cells.length) (K (.agg (takeP cells off n)))
  else match cells[off]? with
    | some c => K c
    | none => none
theorem loadR_ok {cells : List PV} {off n : Nat} {isAgg : Bool} {K : PV → Option R} {r : R} (h : loadR cells off n isAgg K = some r) : loadP cells off n isAgg fun x => K x = some r := by
  unfold loadR at h
  unfold loadP
  split at h
  · rename_i hi; rw [if_pos hi]; exact whenR_ok h
  · rename_i hi
    rw [if_neg hi]
    split at h
    · exact ⟨_, by assumption, h⟩
    · cases h
def semR (E : Env) (κ : Kd) (vs : List DV) (b : List (Option Box)) (K : DV → List (Option Box) → Option R) : Option R :=
  match κ with
  | .mov take => match vs with
    | [x] => K (if take then x else x.copy) b
    | _ => none
  | .pick => match vs with
    | [.p (.bool c), x, y] => if c then K x.copy b else K y.copy b
    | _ => none
  | .box k size => match vs with
    | [x] => match cellsOfD x with
      | some cs => whenR (cs.length = size) (whenR (x.ment k = false) (boxF (some ⟨true, size, [copies cs], false⟩) fun bx => K (.addr k size 0 0) (setL b k bx)))
      | none => none
    | _ => none
  | .alloc k size zero => match vs with
    | [] => whenR (zero.length = size) (K (.addr k size 0 0) (setL b k (some ⟨true, size, [zero], false⟩)))
    | _ => none
  | .build zero offs => match pvsOf vs with
    | some ps => match fillL zero offs ps with
      | some cs => K (.p (.agg cs)) b
      | none => none
    | none => none
  | .bsl size n => match pvsOf vs with
    | some rows => whenR (rows.length = n) (whenR (∀ r, r ∈ rows → (rowCells r).length = size) (K (.ow size false rows) b))
    | none => none
  | .load n isAgg take => match vs with
    | [.addr k sz r off] => match getB b k with
      | some bx => whenR (sz = bx.size) (match bx.rows[r]? with
        | some row => whenR (off + n ≤ row.length) (
          if isAgg then match pvsOf (takeD row off n) with
            | some cs => K (.p (.agg cs)) b
            | none => none
          else match row[off]? with
            | some d => if take then boxF (some { bx with rows := setL bx.rows r (setL row off d.copy) }) fun bx => K d (setL b k bx) else K d.copy b
            | none => none)
        | none => none)
      | none => none
    | [.p (.ptr cells off)] => loadR cells off n isAgg fun x => K (.p x) b
    | _ => none
  | .loadp n isAgg => match vs with
    | [.p (.ptr cells off)] => loadR cells off n isAgg fun x => K (.p x) b
    | _ => none
  | .store n => match vs with
    | [.addr k sz r off, v] => match getB b k, cellsOfD v with
      | some bx, some cs => whenR (sz = bx.size) (whenR (bx.live = true) (whenR (cs.length = n) (match bx.rows[r]? with
        | some row => whenR (off + n ≤ row.length) (boxF (some { bx with rows := setL bx.rows r (storeD row off cs) }) fun bx => K .top (setL b k bx))
        | none => none)))
      | _, _ => none
    | _ => none
  | .bin op => match vs with
    | [.p x, .p y] => binR op x y fun z => K (.p z) b
    | _ => none
  | .eqnil neq => match vs with
    | [.p (.sl _ n _), .ow _ true []] => K (.p (.bool (if neq then !n else n))) b
    | [.ow _ n _, .ow _ true []] => K (.p (.bool (if neq then !n else n))) b
    | _ => none
  | .un op => match vs with
    | [.p (.bool x)] => match op with
      | .not => K (.p (.bool !x)) b
      | _ => none
    | [.p (.int k x)] => match op with
      | .neg => K (.p (.int k (wrapR k (0 - x)))) b
      | _ => none
    | _ => none
  | .conv k => match vs with
    | [.p (.int _ n)] => K (.p (.int k (wrapR k n))) b
    | _ => none
  | .fad off => match vs with
    | [.addr k size r o] => K (.addr k size r (o + off)) b
    | [.p (.ptr cells o)] => K (.p (.ptr cells (o + off))) b
    | _ => none
  | .fld off n isAgg => match vs with
    | [.p (.agg cs)] => loadR cs off n isAgg fun x => K (.p x) b
    | _ => none
  | .iad size => match vs with
    | [.p (.sl sz _ rows), .p (.int _ i)] => whenR (sz = size) (whenR (0 ≤ i) (match rows[i.toNat]? with
      | some row => K (.p (.ptr (rowCells row) 0)) b
      | none => none))
    | [.ow sz _ rows, .p (.int _ i)] => whenR (sz = size) (whenR (0 ≤ i) (match rows[i.toNat]? with
      | some row => K (.p (.ptr (rowCells row) 0)) b
      | none => none))
    | [.bs k sz _ lo n, .p (.int _ i)] => whenR (sz = size) (whenR (0 ≤ i) (whenR (i < n) (K (.addr k sz (lo + i.toNat) 0) b)))
    | _ => none
  | .sidx => match vs with
    | [.p (.str s), .p (.int _ i)] => whenR (0 ≤ i) (match s.data.toList[i.toNat]? with
      | some c => K (.p (.int .u8 c.toNat)) b
      | none => none)
    | _ => none
  | .len => match vs with
    | [x] => match sliceLen x with
      | some n => K (.p (.int .i64 n)) b
      | none => none
    | _ => none
  | .lenD => match vs with
    | [x] => match sliceLen x with
      | some n => K (.p (.int .i64 n)) b
      | none => none
    | _ => none
  | .slen => match vs with
    | [.p (.str z)] => K (.p (.int .i64 z.size)) b
    | _ => none
  | .app size bytes => match vs with
    | [.ow sz nl rows, y] => match y.frz b with
      | some (.sl sz2 _ rows2) => whenR (sz = size ∨ (nl = true ∧ rows.isEmpty = true)) (whenR (sz2 = size ∨ rows2.isEmpty = true) (whenR ((rows.length + rows2.length) * bytes ≤ 140737488355328) (whenR (rows.length + rows2.length ≤ 140737488355328)
          (K (.ow size (nl && rows2.isEmpty) (rows ++ rows2)) b))))
      | _ => none
    | [.p (.sl sz true rows), y] => whenR (rows.isEmpty = true) (match y.frz b with
      | some (.sl sz2 _ rows2) => whenR (sz = size) (whenR (sz2 = size ∨ rows2.isEmpty = true) (whenR (rows2.length * bytes ≤ 140737488355328) (whenR (rows2.length ≤ 140737488355328)
          (K (.ow size rows2.isEmpty rows2) b))))
      | _ => none)
    | _ => none
  | .ext j => match vs with
    | [.tup ds] => match ds[j]? with
      | some d => K d.dv b
      | none => none
    | _ => none
  | .extp j => match vs with
    | [.tup ds] => match ds[j]? with
      | some d => K d.dv.copy b
      | none => none
    | _ => none
  | .call f => match frzs b vs with
    | some args => match E.call f args with
      | some r => K r b
      | none => none
    | none => none
  | .callv => match vs with
    | fx :: xs => match fx.frz b, frzs b xs with
      | some (.fn f caps), some args => match E.call f (args ++ caps) with
        | some r => K r b
        | none => none
      | _, _ => none
    | _ => none
  | .mkfn f => match frzs b vs with
    | some caps => K (.p (.fn f caps)) b
    | none => none
  | .mksl k size bytes isAgg zero => match vs with
    | [.p (.int _ n), .p (.int _ m)] => whenR (n = m) (whenR (0 ≤ n) (whenR (n * bytes ≤ 140737488355328) (whenR (n ≤ 140737488355328) (whenR (zero.length = size)
        (boxF (some ⟨true, size, List.replicate n.toNat zero, false⟩) fun bx => K (.bs k size isAgg 0 n.toNat) (setL b k bx))))))
    | _ => none
  | .slc size lo hi => match vs with
    | .p (.sl sz nl rows) :: ys => whenR (sz = size ∨ rows.isEmpty = true) (match lo, hi, ys with
      | true, true, [.p (.int _ l), .p (.int _ h)] => whenR (0 ≤ l) (whenR (l ≤ h) (whenR (h ≤ rows.length) (K (.p (.sl sz nl ((rows.take h.toNat).drop l.toNat))) b)))
      | true, false, [.p (.int _ l)] => whenR (0 ≤ l) (whenR (l ≤ rows.length) (K (.p (.sl sz nl (rows.drop l.toNat))) b))
      | false, true, [.p (.int _ h)] => whenR (0 ≤ h) (whenR (h ≤ rows.length) (K (.p (.sl sz nl (rows.take h.toNat))) b))
      | _, _, _ => none)
    | _ => none
  | .nilchk => match vs with
    | [.addr k s r o] => K (.addr k s r o) b
    | [.p (.ptr c o)] => K (.p (.ptr c o)) b
    | [.p (.fn f c)] => K (.p (.fn f c)) b
    | _ => none
  | .mn => match vs with
    | [.p (.int k x), .p (.int k' y)] => whenR (k = k') (K (.p (.int k (if y < x then y else x))) b)
    | _ => none
  | .mx => match vs with
    | [.p (.int k x), .p (.int k' y)] => whenR (k = k') (K (.p (.int k (if y > x then y else x))) b)
    | _ => none
  | .ssl lo hi => match vs with
    | .p (.str z) :: ys => match lo, hi, ys with
      | true, true, [.p (.int _ l), .p (.int _ h)] => whenR (0 ≤ l) (whenR (l ≤ h) (whenR (h ≤ z.size) (K (.p (.str (z.extract l.toNat h.toNat))) b)))
      | true, false, [.p (.int _ l)] => whenR (0 ≤ l) (whenR (l ≤ z.size) (K (.p (.str (z.extract l.toNat z.size))) b))
      | false, true, [.p (.int _ h)] => whenR (0 ≤ h) (whenR (h ≤ z.size) (K (.p (.str (z.extract 0 h.toNat))) b))
      | _, _, _ => none
    | _ => none
  | .slb k size => match vs with
    | [.bs k' sz ag lo n, .p (.int _ h)] => whenR (k' = k) (whenR (sz = size) (whenR (lo = 0) (whenR (0 ≤ h) (whenR (h ≤ n) (match getB b k with
      | some bx => whenR (h ≤ bx.rows.length) (boxF (some { bx with rows := bx.rows.take h.toNat }) fun bx => K (.bs k sz ag 0 h.toNat) (setL b k bx))
      | none => none)))))
    | _ => none
  | .callm f k => match getB b k, argsM k b vs with
    | some bx, some args => whenR (bx.live = true) (whenR (allPR bx.rows = true) (match E.callM f bx.size args bx.rows with
      | some (rows', r) => boxF (some { bx with rows := rows' }) fun bx => K r (setL b k bx)
      | none => none))
    | _, _ => none
  | .stk => none
  | .eqat neq => match vs with
    | [.p (.atom .nilIface), .p (.atom .nilIface)] => K (.p (.bool (!neq))) b
    | _ => none
  | .eqs n neq => match vs with
    | [.p (.agg xs), .p (.agg ys)] => whenR (xs.length = n) (match eqsP xs ys with
      | some r => K (.p (.bool (if neq then !r else r))) b
      | none => none)
    | _ => none
  | .eqb neq => match vs with
    | [.p (.bool x), .p (.bool y)] => K (.p (.bool (if neq then !(x == y) else x == y))) b
    | _ => none
  | .mkz size bytes row => match vs with
    | [.p (.int _ n), .p (.int _ m)] => whenR (n = m) (whenR (0 ≤ n) (whenR (n * bytes ≤ 140737488355328) (whenR (n ≤ 140737488355328) (whenR ((rowCells row).length = size)
        (K (.ow size false (List.replicate n.toNat row)) b)))))
    | _ => none
  | .s2b => match vs with
    | [.p (.str z)] => whenR (z.size ≤ 140737488355328) (K (.p (.sl 1 false (z.data.toList.map fun c => .int .u8 c.toNat))) b)
    | _ => none
  | .mkmap k => match vs with
    | [] => K (.mh k) (setL b k (some ⟨true, 0, [], false⟩))
    | _ => none
  | .look q zero => match vs with
    | [.mh k, .p (.int q' x)] => whenR (q' = q) (match getM b k with
      | some bx => match findM q x bx.rows with
        | some (some v) => K (.p v) b
        | some none => K (.p zero) b
        | none => none
      | none => none)
    | _ => none
  | .mupd q => match vs with
    | [.mh k, .p (.int q' x), .p v] => whenR (q' = q) (whenR (v.one = true) (match getM b k with
      | some bx => match updM q x v bx.rows with
        | some rows => boxF (some { bx with rows := rows }) fun bx => K .top (setL b k bx)
        | none => none
      | none => none))
    | _ => none
  | .at _ _ => none
  | .pl _ => none
theorem isEmpty_iff' {α : Type} {l : List α} : l.isEmpty = true ↔ l = [] := by cases l <;> simp
theorem maxLen_ge : 140737488355328 ≤ maxLen := by decide
theorem semR_ok {E : Env} (hc : E.OK P) {κ : Kd} {vs : List DV} {b : List (Option Box)} {K : DV → List (Option Box) → Option R} {r : R}
    (h : semR E κ vs b K = some r) : semI P κ vs b fun v b' => K v b' = some r := by
  cases κ with
  | mov take =>
    simp only [semR] at h; split at h <;> first | (cases h; done) | exact h
  | pick =>
    simp only [semR] at h; split at h
    · split at h
      · rename_i hc; exact ⟨fun _ => h, fun e => by rw [hc] at e; cases e⟩
      · rename_i hc; exact ⟨fun e => absurd e hc, fun _ => h⟩
    · cases h
  | box k size =>
    simp only [semR] at h; split at h
    · simp only [semI]
      split at h
      · rename_i heq; simp only [heq]; obtain ⟨h1, h⟩ := whenR_ok h; obtain ⟨h2, h⟩ := whenR_ok h; rw [boxF_eq] at h; exact ⟨h1, h2, h⟩
      · cases h
    · cases h
  | alloc k size zero =>
    simp only [semR] at h; split at h
    · exact whenR_ok h
    · cases h
  | build zero offs =>
    simp only [semR] at h; simp only [semI]; split at h
    · rename_i heq; simp only [heq]
      split at h
      · rename_i heq; simp only [heq]; exact h
      · cases h
    · cases h
  | bsl size n =>
    simp only [semR] at h; simp only [semI]; split at h
    · rename_i heq; simp only [heq]; obtain ⟨h1, h⟩ := whenR_ok h; obtain ⟨h2, h⟩ := whenR_ok h; exact ⟨h1, h2, h⟩
    · cases h
  | load n isAgg take =>
    simp only [semR] at h; split at h
    · simp only [semI]; split at h
      · rename_i heq; simp only [heq]
        obtain ⟨h1, h⟩ := whenR_ok h
        split at h
        · rename_i hrow
          obtain ⟨h2, h⟩ := whenR_ok h
          refine ⟨h1, _, hrow, h2, ?_⟩
          split at h
          · rename_i hi
            rw [if_pos hi]
            split at h
            · rename_i heq; simp only [heq]; exact h
            · cases h
          · rename_i hi
            rw [if_neg hi]
            split at h
            · rename_i hd
              refine ⟨_, hd, ?_⟩
              split at h
              · rename_i ht; rw [boxF_eq] at h; rw [if_pos ht, if_pos ht]; exact h
              · rename_i ht; rw [if_neg ht, if_neg ht]; exact h
            · cases h
        · cases h
      · cases h
    · exact loadR_ok h
    · cases h
  | loadp n isAgg =>
    simp only [semR] at h; split at h
    · exact loadR_ok h
    · cases h
  | store n =>
    simp only [semR] at h; split at h
    · simp only [semI]; split at h
      · rename_i heq1 heq2; simp only [heq1, heq2]
        obtain ⟨h1, h⟩ := whenR_ok h; obtain ⟨h2, h⟩ := whenR_ok h; obtain ⟨h3, h⟩ := whenR_ok h
        split at h
        · rename_i hrow
          obtain ⟨h4, h⟩ := whenR_ok h
          rw [boxF_eq] at h
          exact ⟨h1, h2, h3, _, hrow, h4, h⟩
        · cases h
      · cases h
    · cases h
  | bin op =>
    simp only [semR] at h; split at h
    · exact binR_ok h
    · cases h
  | eqnil neq =>
    simp only [semR] at h; split at h
    · exact h
    · exact h
    · cases h
  | un op =>
    simp only [semR] at h; split at h
    · cases op <;> simp only [semI] <;> first | exact h | (cases h; done)
    · cases op <;> simp only [semI, wrapR_eq] at h ⊢ <;> first | exact h | (cases h; done)
    · cases h
  | conv k =>
    simp only [semR] at h; split at h
    · rw [wrapR_eq] at h; exact h
    · cases h
  | fad off =>
    simp only [semR] at h; split at h <;> first | exact h | (cases h; done)
  | fld off n isAgg =>
    simp only [semR] at h; split at h
    · exact loadR_ok h
    · cases h
  | iad size =>
    simp only [semR] at h; split at h
    · obtain ⟨h1, h⟩ := whenR_ok h; obtain ⟨h2, h⟩ := whenR_ok h
      split at h
      · exact ⟨h1, h2, _, by assumption, h⟩
      · cases h
    · obtain ⟨h1, h⟩ := whenR_ok h; obtain ⟨h2, h⟩ := whenR_ok h
      split at h
      · exact ⟨h1, h2, _, by assumption, h⟩
      · cases h
    · obtain ⟨h1, h⟩ := whenR_ok h; obtain ⟨h2, h⟩ := whenR_ok h; obtain ⟨h3, h⟩ := whenR_ok h
      exact ⟨h1, h2, h3, h⟩
    · cases h
  | sidx =>
    simp only [semR] at h; split at h
    · obtain ⟨h1, h⟩ := whenR_ok h
      split at h
      · exact ⟨h1, _, by assumption, h⟩
      · cases h
    · cases h
  | len =>
    simp only [semR] at h; split at h
    · simp only [semI]; split at h
      · rename_i heq; simp only [heq]; exact fun _ => h
      · cases h
    · cases h
  | lenD =>
    simp only [semR] at h; split at h
    · simp only [semI]; split at h
      · rename_i heq; simp only [heq]; exact h
      · cases h
    · cases h
  | slen =>
    simp only [semR] at h; split at h <;> first | exact h | (cases h; done)
  | app size bytes =>
    simp only [semR] at h; split at h
    · simp only [semI]; split at h
      · rename_i heq; simp only [heq]
        simp only [isEmpty_iff'] at h
        obtain ⟨h1, h⟩ := whenR_ok h; obtain ⟨h2, h⟩ := whenR_ok h; obtain ⟨h3, h⟩ := whenR_ok h; obtain ⟨h4, h⟩ := whenR_ok h
        exact ⟨h1, h2, h3, Nat.le_trans h4 maxLen_ge, h⟩
      · cases h
    · replace h := whenR_ok h
      obtain ⟨h0, h⟩ := h
      rw [List.isEmpty_iff] at h0
      subst h0
      simp only [semI]; split at h
      · rename_i heq; simp only [heq]
        simp only [isEmpty_iff'] at h
        obtain ⟨h1, h⟩ := whenR_ok h; obtain ⟨h2, h⟩ := whenR_ok h; obtain ⟨h3, h⟩ := whenR_ok h; obtain ⟨h4, h⟩ := whenR_ok h
        exact ⟨h1, h2, h3, Nat.le_trans h4 maxLen_ge, h⟩
      · cases h
    · cases h
  | ext j =>
    simp only [semR] at h; split at h
    · simp only [semI]; split at h <;> first | (cases h; done) | (rename_i heq; simp only [heq]; exact h)
    · cases h
  | extp j =>
    simp only [semR] at h; split at h
    · simp only [semI]; split at h <;> first | (cases h; done) | (rename_i heq; simp only [heq]; exact h)
    · cases h
  | call f =>
    simp only [semR] at h; simp only [semI]; split at h
    · rename_i heq; simp only [heq]
      split at h
      · rename_i hcall; exact ⟨_, hc.call _ _ _ hcall, h⟩
      · cases h
    · cases h
  | callv =>
    simp only [semR] at h; split at h
    · simp only [semI]; split at h
      · rename_i heq1 heq2; simp only [heq1, heq2]
        split at h
        · rename_i hcall; exact ⟨_, hc.call _ _ _ hcall, h⟩
        · cases h
      · cases h
    · cases h
  | mkfn f =>
    simp only [semR] at h; simp only [semI]; split at h <;> first | (cases h; done) | (rename_i heq; simp only [heq]; exact h)
  | mksl k size bytes isAgg zero =>
    simp only [semR] at h; split at h
    · obtain ⟨h1, h⟩ := whenR_ok h; obtain ⟨h2, h⟩ := whenR_ok h; obtain ⟨h3, h⟩ := whenR_ok h; obtain ⟨h4, h⟩ := whenR_ok h; obtain ⟨h5, h⟩ := whenR_ok h
      rw [boxF_eq] at h
      have := maxLen_ge
      exact ⟨h1, h2, h3, by omega, h5, h⟩
    · cases h
  | slc size lo hi =>
    simp only [semR] at h; split at h
    · simp only [isEmpty_iff'] at h
      obtain ⟨h1, h⟩ := whenR_ok h
      refine ⟨h1, ?_⟩
      split at h
      · obtain ⟨h1, h⟩ := whenR_ok h; obtain ⟨h2, h⟩ := whenR_ok h; obtain ⟨h3, h⟩ := whenR_ok h; exact ⟨h1, h2, h3, h⟩
      · obtain ⟨h1, h⟩ := whenR_ok h; obtain ⟨h2, h⟩ := whenR_ok h; exact ⟨h1, h2, h⟩
      · obtain ⟨h1, h⟩ := whenR_ok h; obtain ⟨h2, h⟩ := whenR_ok h; exact ⟨h1, h2, h⟩
      · cases h
    · cases h
  | nilchk =>
    simp only [semR] at h; split at h <;> first | exact h | (cases h; done)
  | mn =>
    simp only [semR] at h; split at h
    · exact whenR_ok h
    · cases h
  | mx =>
    simp only [semR] at h; split at h
    · exact whenR_ok h
    · cases h
  | ssl lo hi =>
    simp only [semR] at h; split at h
    · split at h
      · obtain ⟨h1, h⟩ := whenR_ok h; obtain ⟨h2, h⟩ := whenR_ok h; obtain ⟨h3, h⟩ := whenR_ok h; exact ⟨h1, h2, h3, h⟩
      · obtain ⟨h1, h⟩ := whenR_ok h; obtain ⟨h2, h⟩ := whenR_ok h; exact ⟨h1, h2, h⟩
      · obtain ⟨h1, h⟩ := whenR_ok h; obtain ⟨h2, h⟩ := whenR_ok h; exact ⟨h1, h2, h⟩
      · cases h
    · cases h
  | slb k size =>
    simp only [semR] at h; split at h
    · obtain ⟨h1, h⟩ := whenR_ok h; obtain ⟨h2, h⟩ := whenR_ok h; obtain ⟨h3, h⟩ := whenR_ok h; obtain ⟨h4, h⟩ := whenR_ok h; obtain ⟨h5, h⟩ := whenR_ok h
      simp only [semI]
      refine ⟨h1, h2, h3, h4, h5, ?_⟩
      split at h
      · rename_i heq; simp only [heq]
        obtain ⟨h6, h⟩ := whenR_ok h
        rw [boxF_eq] at h
        exact ⟨h6, h⟩
      · cases h
    · cases h
  | callm f k =>
    simp only [semR] at h; simp only [semI]; split at h
    · rename_i heq1 heq2; simp only [heq1, heq2]
      obtain ⟨h1, h⟩ := whenR_ok h; obtain ⟨h2, h⟩ := whenR_ok h
      refine ⟨h1, h2, ?_⟩
      split at h
      · rename_i hcall
        rw [boxF_eq] at h
        exact ⟨_, _, hc.callM _ _ _ _ _ _ hcall, h⟩
      · cases h
    · cases h
  | stk => simp [semR] at h
  | eqat neq =>
    simp only [semR] at h; split at h
    · exact h
    · cases h
  | eqs n neq =>
    simp only [semR] at h; split at h
    · obtain ⟨h1, h⟩ := whenR_ok h
      simp only [semI]
      refine ⟨h1, ?_⟩
      split at h
      · rename_i heq; simp only [heq]; exact h
      · cases h
    · cases h
  | eqb neq =>
    simp only [semR] at h; split at h
    · exact h
    · cases h
  | mkz size bytes row =>
    simp only [semR] at h; split at h
    · obtain ⟨h1, h⟩ := whenR_ok h; obtain ⟨h2, h⟩ := whenR_ok h; obtain ⟨h3, h⟩ := whenR_ok h; obtain ⟨h4, h⟩ := whenR_ok h; obtain ⟨h5, h⟩ := whenR_ok h
      have := maxLen_ge
      exact ⟨h1, h2, h3, by omega, h5, h⟩
    · cases h
  | s2b =>
    simp only [semR] at h; split at h
    · obtain ⟨h1, h⟩ := whenR_ok h; exact ⟨Nat.le_trans h1 maxLen_ge, h⟩
    · cases h
  | mkmap k =>
    simp only [semR] at h; split at h
    · exact h
    · cases h
  | look q zero =>
    simp only [semR] at h; split at h
    · obtain ⟨h1, h⟩ := whenR_ok h
      simp only [semI]
      refine ⟨h1, ?_⟩
      split at h
      · rename_i heq; simp only [heq]
        split at h
        · rename_i heq; simp only [heq]; exact h
        · rename_i heq; simp only [heq]; exact h
        · cases h
      · cases h
    · cases h
  | mupd q =>
    simp only [semR] at h; split at h
    · obtain ⟨h1, h⟩ := whenR_ok h; obtain ⟨h2, h⟩ := whenR_ok h
      simp only [semI]
      refine ⟨h1, h2, ?_⟩
      split at h
      · rename_i heq; simp only [heq]
        split at h
        · rename_i heq; simp only [heq]; rw [boxF_eq] at h; exact h
        · cases h
      · cases h
    · cases h
  | «at» k κ => simp [semR] at h
  | pl κ => simp [semR] at h
def semRJ (E : Env) (κ : Kd) (vs : List DV) (b : List (Option Box)) (K : DV → List (Option Box) → Option R) : Option R :=
  match κ with
  | .at k κ' => match vs with
    | .addr k' _ _ _ :: _ => whenR (k' = k) (semR E κ' vs b K)
    | _ => none
  | .pl κ' => whenR ((pvsOf vs).isSome = true) (semR E κ' vs b K)
  | κ' => semR E κ' vs b K
theorem semRJ_ok {E : Env} (hc : E.OK P) {κ : Kd} {vs : List DV} {b : List (Option Box)} {K : DV → List (Option Box) → Option R} {r : R}
    (h : semRJ E κ vs b K = some r) : semJ P κ vs b fun v b' => K v b' = some r := by
  unfold semRJ at h
  split at h
  · simp only [semJ]
    split at h
    · obtain ⟨h1, h⟩ := whenR_ok h
      exact ⟨h1, semR_ok hc h⟩
    · cases h
  · obtain ⟨h1, h⟩ := whenR_ok h
    exact ⟨h1, semR_ok hc h⟩
  · rename_i h1 h2
    unfold semJ
    split
    · exact (h1 _ _ rfl).elim
    · exact (h2 _ rfl).elim
    · exact semR_ok hc h
def putF (t : List DV) (d : Option Nat) (v : DV) (K : List DV → Option R) : Option R :=
  match d with
  | some i => dvF v fun v => setF t i v K
  | none => K t
theorem putF_eq (t : List DV) (d : Option Nat) (v : DV) (K : List DV → Option R) : putF t d v K = K (putD t d v) := by
  cases d with
  | none => rfl
  | some i => simp only [putF, putD, dvF_eq, setF_eq]
/-- What a place keeps whose slice was taken. -/
def degF (κ : Kd) (xs : List O) (t : List DV) (K : List DV → Option R) : Option R :=
  match κ with
  | .mov true | .app _ _ | .store _ | .ext _ => listF (degr κ xs t) K
  | _ => K (degr κ xs t)
theorem degF_eq (κ : Kd) (xs : List O) (t : List DV) (K : List DV → Option R) : degF κ xs t K = K (degr κ xs t) := by
  unfold degF; split <;> simp only [listF_eq]
def exR (E : Env) (i : Ins) (s : St) (K : St → Option R) : Option R :=
  whenR (freshB i s = true) (semRJ E i.k (i.xs.map (O.val s.t)) s.b fun v b' => degF i.k.core i.xs s.t fun t => putF t i.d v fun t => listF b' fun b' => K ⟨t, b'⟩)
theorem exR_ok {E : Env} (hc : E.OK P) {i : Ins} {s : St} {K : St → Option R} {r : R} (h : exR E i s K = some r) : exec P i s fun s' => K s' = some r := by
  unfold exR at h
  simp only [degF_eq, putF_eq, listF_eq] at h
  obtain ⟨h1, h⟩ := whenR_ok h
  exact ⟨(freshB_eq i s).mp h1, semRJ_ok hc h⟩
def exGR (E : Env) (i : Ins) (s : St) (K : St → Option R) : Option R :=
  match i.g with
  | none => exR E i s K
  | some (j, want) => match getT s.t j with
    | .p (.bool c) => if c = want then setF s.t j (.p (.bool want)) fun t => exR E i ⟨t, s.b⟩ K else setF s.t j (.p (.bool (!want))) fun t => putF t i.d (.tup []) fun t => K ⟨t, s.b⟩
    | .tup [] => putF s.t i.d (.tup []) fun t => K ⟨t, s.b⟩
    | _ => none
theorem exGR_ok {E : Env} (hc : E.OK P) {i : Ins} {s : St} {K : St → Option R} {r : R} (h : exGR E i s K = some r) : execG P i s fun s' => K s' = some r := by
  unfold exGR at h
  unfold execG
  split at h
  · rename_i hg; rw [hg]; exact exR_ok hc h
  · rename_i j want hg
    rw [hg]
    simp only
    split at h
    · rename_i c ht
      rw [ht]
      simp only [setF_eq, putF_eq] at h ⊢
      split at h
      · rename_i e; exact ⟨fun _ => exR_ok hc h, fun e' => by subst e; cases c <;> cases e'⟩
      · rename_i e; exact ⟨fun e' => absurd e' e, fun _ => h⟩
    · rename_i ht
      rw [ht]
      simp only [putF_eq] at h ⊢
      exact h
    · cases h
theorem execs_mono {is : List Ins} : ∀ {s : St} {A B : St → Prop}, (∀ s, A s → B s) → execs P is s A → execs P is s B := by
  induction is with
  | nil => exact fun hab h => hab _ h
  | cons i is ih => exact fun hab h => execG_mono (fun s hs => ih hab hs) h
def exsR (E : Env) : List Ins → St → (St → Option R) → Option R
  | [], s, K => K s
  | i :: is, s, K => exGR E i s fun s' => exsR E is s' K
theorem exsR_ok {E : Env} (hc : E.OK P) {is : List Ins} : ∀ {s : St} {K : St → Option R} {r : R}, exsR E is s K = some r → execs P is s fun s' => K s' = some r := by
  induction is with
  | nil => exact fun h => h
  | cons i is ih => exact fun h => execG_mono (fun s hs => ih hs) (exGR_ok hc h)
def forgetF : List DV → List Nat → (List DV → Option R) → Option R
  | t, [], K => K t
  | t, n :: ns, K => setF t n .top fun t => forgetF t ns K
theorem forgetF_eq (t : List DV) (ns : List Nat) (K : List DV → Option R) : forgetF t ns K = K (forget t ns) := by
  induction ns generalizing t with
  | nil => rfl
  | cons n ns ih => simp only [forgetF, forget, setF_eq, ih]
def dropF : List (Option Box) → List Nat → (List (Option Box) → Option R) → Option R
  | t, [], K => K t
  | t, n :: ns, K => setF t n none fun t => dropF t ns K
theorem dropF_eq (t : List (Option Box)) (ns : List Nat) (K : List (Option Box) → Option R) : dropF t ns K = K (dropB t ns) := by
  induction ns generalizing t with
  | nil => rfl
  | cons n ns ih => simp only [dropF, dropB, setF_eq, ih]
def fixR (b : List (Option Box)) (zs : List Nat) (K : List (Option Box) → Option R) : Option R :=
  match zs with
  | [] => K b
  | k :: ks => match getB b k with
    | some bx => whenR (allPR (copiesR bx.rows) = true) (boxF (some ⟨false, bx.size, copiesR bx.rows, bx.old⟩) fun x => fixR (setL b k x) ks K)
    | none => none
theorem fixR_ok {zs : List Nat} : ∀ {b : List (Option Box)} {K : List (Option Box) → Option R} {r : R}, fixR b zs K = some r → fixB b zs fun b => K b = some r := by
  induction zs with
  | nil => exact fun h => h
  | cons k ks ih =>
    intro b K r h
    simp only [fixR] at h
    simp only [fixB]
    split at h
    · rename_i heq; simp only [heq]
      obtain ⟨h1, h⟩ := whenR_ok h
      rw [boxF_eq] at h
      exact ⟨h1, ih h⟩
    · cases h
theorem fixB_mono {zs : List Nat} : ∀ {b : List (Option Box)} {A B : List (Option Box) → Prop}, (∀ b, A b → B b) → fixB b zs A → fixB b zs B := by
  induction zs with
  | nil => exact fun hab h => hab _ h
  | cons k ks ih =>
    intro b A B hab h
    simp only [fixB] at h ⊢
    split at h
    · exact ⟨h.1, ih hab h.2⟩
    · exact h
/-- Forget some slots, in one pass. -/
def forgetS : Nat → List DV → List Nat → (List DV → Option R) → Option R
  | _, [], _, K => K []
  | _, d :: t, [], K => K (d :: t)
  | i, d :: t, f :: fs, K => if Nat.beq i f then forgetS (i + 1) t fs fun r => K (.top :: r) else forgetS (i + 1) t (f :: fs) fun r => K (d :: r)
def ascB : Nat → List Nat → Bool
  | _, [] => true
  | i, f :: fs => Nat.ble i f && ascB (f + 1) fs
def forgotten : Nat → List DV → List Nat → List DV
  | _, [], _ => []
  | _, d :: t, [] => d :: t
  | i, d :: t, f :: fs => if Nat.beq i f then .top :: forgotten (i + 1) t fs else d :: forgotten (i + 1) t (f :: fs)
theorem forgetS_eq (i : Nat) (t : List DV) (fs : List Nat) (K : List DV → Option R) : forgetS i t fs K = K (forgotten i t fs) := by
  induction t generalizing i fs K with
  | nil => simp [forgetS, forgotten]
  | cons d t ih => cases fs with
    | nil => rfl
    | cons f fs =>
      simp only [forgetS, forgotten]
      split <;> rw [ih]
theorem ascB_mem {fs : List Nat} : ∀ {i : Nat}, ascB i fs = true → ∀ f, f ∈ fs → i ≤ f := by
  induction fs with
  | nil => intro i _ f hf; simp at hf
  | cons g fs ih =>
    intro i h f hf
    simp only [ascB, Bool.and_eq_true, Nat.ble_eq] at h
    rcases List.mem_cons.1 hf with rfl | hf
    · exact h.1
    · have := ih h.2 f hf; omega
theorem forgotten_get : ∀ (t : List DV) (i : Nat) (fs : List Nat), ascB i fs = true → ∀ j : Nat, (forgotten i t fs)[j]? = if (i + j) ∈ fs then t[j]?.map (fun _ => DV.top) else t[j]? := by
  intro t
  induction t with
  | nil => intro i fs _ j; simp [forgotten]
  | cons d t ih =>
    intro i fs ha j
    cases fs with
    | nil => simp [forgotten]
    | cons f fs =>
      simp only [forgotten]
      have ha' := ha
      simp only [ascB, Bool.and_eq_true, Nat.ble_eq] at ha'
      split
      · rename_i he
        have he := Nat.eq_of_beq_eq_true he
        subst he
        cases j with
        | zero => simp
        | succ j =>
          rw [List.getElem?_cons_succ, ih (i + 1) fs ha'.2 j, List.getElem?_cons_succ]
          have : i + 1 + j = i + (j + 1) := by omega
          rw [this]
          have hne : i + (j + 1) ≠ i := by omega
          simp [hne]
      · rename_i he
        have he : i ≠ f := fun e => he (by rw [e]; exact Nat.beq_refl f)
        have ha2 : ascB (i + 1) (f :: fs) = true := by
          simp only [ascB, Bool.and_eq_true, Nat.ble_eq]
          exact ⟨by omega, ha'.2⟩
        cases j with
        | zero =>
          have : ¬ (i + 0) ∈ f :: fs := fun hm => by
            have := ascB_mem ha2 _ hm; omega
          rw [if_neg this]; rfl
        | succ j =>
          rw [List.getElem?_cons_succ, ih (i + 1) (f :: fs) ha2 j, List.getElem?_cons_succ]
          have : i + 1 + j = i + (j + 1) := by omega
          rw [this]
theorem forget_get : ∀ (fs : List Nat) (t : List DV) (j : Nat), (forget t fs)[j]? = if j ∈ fs then t[j]?.map (fun _ => DV.top) else t[j]? := by
  intro fs
  induction fs with
  | nil => intro t j; simp [forget]
  | cons f fs ih =>
    intro t j
    simp only [forget]
    rw [ih, getElem?_setL]
    by_cases h1 : j = f
    · subst h1
      by_cases h2 : j ∈ fs
      · simp [h2]; cases t[j]? <;> rfl
      · simp [h2]
    · by_cases h2 : j ∈ fs <;> simp [h1, h2]
theorem forgotten_eq {t : List DV} {fs : List Nat} (h : ascB 0 fs = true) : forgotten 0 t fs = forget t fs := by
  apply List.ext_getElem?
  intro j
  rw [forgotten_get t 0 fs h j, forget_get, Nat.zero_add]
def forgetQ (t : List DV) (fs : List Nat) (K : List DV → Option R) : Option R := if ascB 0 fs then forgetS 0 t fs K else forgetF t fs K
theorem forgetQ_eq (t : List DV) (fs : List Nat) (K : List DV → Option R) : forgetQ t fs K = K (forget t fs) := by
  unfold forgetQ
  split
  · rename_i h; rw [forgetS_eq, forgotten_eq h]
  · rw [forgetF_eq]
def iterR (f : St → (St → Option R) → Option R) : Nat → St → Option R
  | 0, _ => none
  | n + 1, s => f s (iterR f n)
def runC (E : Env) (fuel : Nat) : C → St → (St → Option R) → (Nat → St → Option R) → (St → Option R) → Option R
  | .stuck, _, _, _, _ => none
  | .skip, s, n, _, _ => n s
  | .reg ops, s, n, _, _ => exsR E ops s n
  | .regd ops, s, n, _, _ => exsR E ops s n
  | .rega ops, s, n, _, _ => whenR (invB ops s = true) (exsR E ops s n)
  | .seq a b, s, n, x, r => runC E fuel a s (fun s' => runC E fuel b s' n x r) x r
  | .cond c a b, s, n, x, r => match c, c.val s.t with
    | .t j, .p (.bool t) => if t then setF s.t j (.p (.bool true)) fun t => runC E fuel a ⟨t, s.b⟩ n x r else setF s.t j (.p (.bool false)) fun t => runC E fuel b ⟨t, s.b⟩ n x r
    | .c _, .p (.bool t) => if t then runC E fuel a s n x r else runC E fuel b s n x r
    | _, _ => none
  | .block id c, s, n, x, r => runC E fuel c s n (fun j s' => if j = id then n s' else x j s') r
  | .loop fs ds c, s, _, x, r => forgetQ s.t fs fun t => dropF s.b ds fun b => iterR (fun s' N => runC E fuel c s' (fun s2 => forgetQ s2.t fs fun t => dropF s2.b ds fun b => N ⟨t, b⟩) x r) fuel ⟨t, b⟩
  | .exit id, s, _, x, _ => x id s
  | .ret, s, _, _, r => r s
  | .pre fs zs ds c, s, n, x, r => fixR s.b zs fun b => forgetQ s.t fs fun t => dropF b ds fun b => runC E fuel c ⟨t, b⟩ n x r
  | .own i k ag c, s, n, x, r => match getT s.t i with
    | .ow size _ rows => whenR ((decide (size ≠ 0) && (decide (k < s.b.length) && (noRefT k s.t && (noRefB k 0 s.b && (scalT i 0 s.t && scalB k 0 s.b))))) = true) (whenR (rows.isEmpty = false) (whenR (scalR (ownRows rows) = true)
        (natF rows.length fun m => setF s.t i (.bs k size ag 0 m) fun t => boxF (some ⟨true, size, ownRows rows, false⟩) fun bx => setF s.b k bx fun b => runC E fuel c ⟨t, b⟩ n x r)))
    | _ => none
theorem runC_ok {E : Env} (hc : E.OK P) {fuel : Nat} : ∀ {c : C} {s : St} {n : St → Option R} {x : Nat → St → Option R} {r : St → Option R} {d : R}
    {N : St → Prop} {Xp : Nat → St → Prop} {Rp : St → Prop}, (∀ s, n s = some d → N s) → (∀ j s, x j s = some d → Xp j s) → (∀ s, r s = some d → Rp s) →
    runC E fuel c s n x r = some d → vc P c s N Xp Rp := by
  intro c
  induction c with
  | stuck => exact fun _ _ _ h => by cases h
  | skip => exact fun hn _ _ h => hn _ h
  | reg ops => exact fun hn _ _ h => execs_mono hn (exsR_ok hc h)
  | regd ops => exact fun hn _ _ h => execs_mono hn (exsR_ok hc h)
  | rega ops =>
    intro s n x r d N Xp Rp hn _ _ h
    obtain ⟨h1, h⟩ := whenR_ok h
    exact ⟨h1, execs_mono hn (exsR_ok hc h)⟩
  | seq a b iha ihb => exact fun hn hx hr h => iha (fun s hs => ihb hn hx hr hs) hx hr h
  | cond c a b iha ihb =>
    intro s n x r d N Xp Rp hn hx hr h
    cases c with
    | t j =>
      simp only [runC] at h
      simp only [vc]
      generalize (O.t j).val s.t = dv at *
      cases dv with
      | p z =>
        cases z with
        | bool t =>
          simp only [setF_eq] at h
          cases t with
          | true => exact ⟨fun _ => iha hn hx hr h, fun e => by cases e⟩
          | false => exact ⟨(fun e => by cases e), fun _ => ihb hn hx hr h⟩
        | _ => cases h
      | _ => cases h
    | c d0 =>
      simp only [runC] at h
      simp only [vc]
      generalize (O.c d0).val s.t = dv at *
      cases dv with
      | p z =>
        cases z with
        | bool t =>
          cases t with
          | true => exact ⟨fun _ => iha hn hx hr h, fun e => by cases e⟩
          | false => exact ⟨(fun e => by cases e), fun _ => ihb hn hx hr h⟩
        | _ => cases h
      | _ => cases h
  | block id c ih =>
    intro s n x r d N Xp Rp hn hx hr h
    refine ih hn (fun j s hs => ?_) hr h
    split at hs
    · rename_i e; rw [if_pos e]; exact hn _ hs
    · rename_i e; rw [if_neg e]; exact hx _ _ hs
  | loop fs ds c ih =>
    intro s n x r d N Xp Rp hn hx hr h
    simp only [runC, forgetQ_eq, dropF_eq] at h
    refine ⟨fuel, ?_⟩
    generalize (⟨forget s.t fs, dropB s.b ds⟩ : St) = s0 at *
    suffices ∀ k s0, iterR (fun s' N => runC E fuel c s' (fun s2 => N ⟨forget s2.t fs, dropB s2.b ds⟩) x r) k s0 = some d → iter (fun s' N => vc P c s' (fun s2 => N ⟨forget s2.t fs, dropB s2.b ds⟩) Xp Rp) k s0 from this fuel s0 h
    intro k
    induction k with
    | zero => exact fun s0 h => by cases h
    | succ k ihk => exact fun s0 h => ih (fun s hs => ihk _ hs) hx hr h
  | exit id => exact fun _ hx _ h => hx _ _ h
  | ret => exact fun _ _ hr h => hr _ h
  | pre fs zs ds c ih =>
    intro s n x r d N Xp Rp hn hx hr h
    simp only [runC, forgetQ_eq, dropF_eq] at h
    exact fixB_mono (fun b hb => ih hn hx hr hb) (fixR_ok h)
  | own i k ag c ih =>
    intro s n x r d N Xp Rp hn hx hr h
    simp only [runC, natF_eq, setF_eq, boxF_eq] at h
    simp only [vc]
    split at h
    · rename_i size nl rows hg
      obtain ⟨h1, h⟩ := whenR_ok h; obtain ⟨h2, h⟩ := whenR_ok h; obtain ⟨h3, h⟩ := whenR_ok h
      rw [hg]
      exact ⟨h1, (fun e => by subst e; cases h2), h3, ih hn hx hr h⟩
    · cases h
def dvTR (b : List (Option Box)) (K : TV → Option R) : DV → Option R
  | .p x => K (.p x)
  | .ow size n rows => K (.ow size n rows)
  | d => match d.frz b with
    | some x => K (.p x)
    | none => none
def ret1R (s : St) (K : TV → Option R) : RV → Option R
  | .tmp t => dvTR s.b K (getT s.t t)
  | .cell t n => match getT s.t t with
    | .addr k sz r off => match getB s.b k with
      | some bx => whenR (sz = bx.size) (match bx.rows[r]? with
        | some row => whenR (off + n ≤ row.length) (match pvsOf (takeD row off n) with
          | some cs => K (.p (.agg cs))
          | none => none)
        | none => none)
      | none => none
    | _ => none
def retsR (s : St) : List RV → (List TV → Option R) → Option R
  | [], K => K []
  | r :: rs, K => ret1R s (fun x => retsR s rs fun xs => K (x :: xs)) r
theorem dvTR_ok {b : List (Option Box)} {K : TV → Option R} {v : DV} {d : R} {N : TV → Prop} (hn : ∀ x, K x = some d → N x) (h : dvTR b K v = some d) : dvT b N v := by
  have other : ∀ {v : DV}, (match v.frz b with | some x => K (.p x) | none => none) = some d → (match v.frz b with | some x => N (.p x) | none => False) := by
    intro v h
    split at h
    · exact hn _ h
    · cases h
  cases v with
  | p x => exact hn _ h
  | ow a b c => exact hn _ h
  | top => exact other (v := .top) h
  | tup ds => exact other (v := .tup ds) h
  | addr a1 a2 a3 a4 => exact other (v := .addr a1 a2 a3 a4) h
  | bs a1 a2 a3 a4 a5 => exact other (v := .bs a1 a2 a3 a4 a5) h
  | fn a1 a2 => exact other (v := .fn a1 a2) h
  | mh a1 => exact other (v := .mh a1) h
theorem ret1R_ok {s : St} {K : TV → Option R} {rv : RV} {d : R} {N : TV → Prop} (hn : ∀ x, K x = some d → N x) (h : ret1R s K rv = some d) : ret1 s N rv := by
  cases rv with
  | tmp t => exact dvTR_ok hn h
  | cell t n =>
    simp only [ret1R] at h
    simp only [ret1]
    split at h
    · rename_i heq; simp only [heq]
      split at h
      · rename_i heq; simp only [heq]
        obtain ⟨h1, h⟩ := whenR_ok h
        split at h
        · rename_i hrow
          obtain ⟨h2, h⟩ := whenR_ok h
          refine ⟨h1, _, hrow, h2, ?_⟩
          split at h
          · rename_i heq; simp only [heq]; exact hn _ h
          · cases h
        · cases h
      · cases h
    · cases h
theorem retsR_ok {s : St} {rvs : List RV} : ∀ {K : List TV → Option R} {d : R} {N : List TV → Prop}, (∀ x, K x = some d → N x) → retsR s rvs K = some d → rets s rvs N := by
  induction rvs with
  | nil => exact fun hn h => hn _ h
  | cons r rs ih => exact fun hn h => ret1R_ok (fun x hx => ih (fun xs hxs => hn _ hxs) hx) h
def plainR (v : Option DV) : Option DV := match v with
  | some v => if v.plain then some v else none
  | none => none
abbrev Tbl := List (Nat × Fn)
def Tbl.get : Tbl → Nat → Option Fn
  | [], _ => none
  | (k, F) :: l, f => if Nat.beq k f then some F else Tbl.get l f
theorem dvT_mono {b : List (Option Box)} {A B : TV → Prop} (hab : ∀ x, A x → B x) {d : DV} (h : dvT b A d) : dvT b B d := by
  unfold dvT at h ⊢
  split at h
  · exact hab _ h
  · exact hab _ h
  · split at h
    · exact hab _ h
    · exact h
theorem ret1_mono {s : St} {A B : TV → Prop} (hab : ∀ x, A x → B x) {r : RV} (h : ret1 s A r) : ret1 s B r := by
  unfold ret1 at h ⊢
  split at h
  · exact dvT_mono hab h
  · split at h
    · split at h
      · obtain ⟨h1, row, h2, h3, h4⟩ := h
        refine ⟨h1, row, h2, h3, ?_⟩
        split at h4
        · exact hab _ h4
        · exact h4
      · exact h
    · exact h
theorem rets_mono {s : St} : ∀ {rs : List RV} {A B : List TV → Prop}, (∀ x, A x → B x) → rets s rs A → rets s rs B
  | [], _, _, hab, h => hab _ h
  | _ :: _, _, _, hab, h => ret1_mono (fun x hx => rets_mono (fun xs h => hab _ h) hx) h
theorem ret1_const {s : St} {A : Prop} {r : RV} (h : ret1 s (fun _ => A) r) : A := by
  unfold ret1 dvT at h
  split at h
  · split at h
    · exact h
    · exact h
    · split at h
      · exact h
      · exact h.elim
  · split at h
    · split at h
      · obtain ⟨h1, row, h2, h3, h4⟩ := h
        split at h4
        · exact h4
        · exact h4.elim
      · exact h.elim
    · exact h.elim
theorem rets_const {s : St} {A : Prop} : ∀ {rs : List RV}, rets s rs (fun _ => A) → A
  | [], h => h
  | _ :: _, h => rets_const (ret1_const (ret1_mono (B := fun _ => rets s _ fun _ => A) (fun _ h => h) h))
/-- A run of a body that was handed a block: what the block holds then, too. -/
def postMR (nb : Nat) (size : Nat) (rv : List RV) (s : St) : Option (List (List DV) × DV) :=
  match getB s.b nb with
  | some ⟨true, sz, rows, true⟩ => whenR (sz = size) (retsR s rv fun xs => dvF (resOf xs) fun v => some (rows, v))
  | _ => none
def plainRM (v : Option (List (List DV) × DV)) : Option (List (List DV) × DV) := match v with
  | some (rows, v) => if v.plain && allPR rows then some (rows, v) else none
  | none => none
def runE (ext : FuncId → List PV → Option DV) (tbl : Tbl) : Nat → Env
  | 0 => ⟨fun _ _ => none, fun _ _ _ _ => none⟩
  | n + 1 =>
    ⟨fun f args => match tbl.get f with
      | some F => plainR (runC (runE ext tbl n) (n + 1) F.c (St0 F.n F.nb args) (fun s => retsR s F.rv fun xs => dvF (resOf xs) some) (fun _ _ => none) (fun s => retsR s F.rv fun xs => dvF (resOf xs) some))
      | none => ext f args,
     fun f size args rows => match tbl.get f with
      | some F => if (decide (size ≠ 0)) && (allPR rows && args.all DV.arg) then plainRM (runC (runE ext tbl n) (n + 1) F.c (St1 F.n F.nb args size rows) (postMR F.nb size F.rv) (fun _ _ => none) (postMR F.nb size F.rv)) else none
      | none => none⟩
structure TblOK (P : Program) (tbl : Tbl) : Prop where
  all : ∀ f F, tbl.get f = some F → chkF P f F = true
theorem TblOK.nil : TblOK P [] := ⟨fun f F h => by cases h⟩
theorem TblOK.cons {k : Nat} {F : Fn} {l : Tbl} (h : chkF P k F = true) (hl : TblOK P l) : TblOK P ((k, F) :: l) := by
  refine ⟨fun f G hf => ?_⟩
  simp only [Tbl.get] at hf
  split at hf
  · rename_i e
    have : k = f := Nat.eq_of_beq_eq_true e
    subst this
    injection hf with hf
    subst hf
    exact h
  · exact hl.all f G hf
theorem runE_ok {ext : FuncId → List PV → Option DV} (he : ∀ f a d, ext f a = some d → PureCall P f a d) {tbl : Tbl} (ht : TblOK P tbl) : ∀ {n : Nat}, (runE ext tbl n).OK P := by
  intro n
  induction n with
  | zero => exact ⟨(fun f a d h => by cases h), (fun f n a r r' d h => by cases h)⟩
  | succ n ih =>
    refine ⟨fun f args d h => ?_, fun f size args rows rows' d h => ?_⟩
    · simp only [runE] at h
      split at h
      · rename_i F hF
        unfold plainR at h
        split at h
        · rename_i v hv
          split at h
          · rename_i hp
            injection h with h
            subst h
            have hpost : ∀ s : St, (retsR s F.rv fun xs => dvF (resOf xs) some) = some v → F.post v s := fun s hs => retsR_ok (fun xs hx => by rw [dvF_eq] at hx; injection hx) hs
            exact Fn.pure (ht.all _ _ hF) hp (runC_ok ih hpost (fun _ _ h => by cases h) hpost hv)
          · cases h
        · cases h
      · exact he _ _ _ h
    · simp only [runE] at h
      split at h
      · rename_i F hF
        split at h
        · rename_i hpre
          simp only [Bool.and_eq_true, decide_eq_true_eq] at hpre
          unfold plainRM at h
          split at h
          · rename_i rws v hv
            split at h
            · rename_i hp
              simp only [Bool.and_eq_true] at hp
              injection h with h
              injection h with h1 h2
              subst h1; subst h2
              have hpost : ∀ s : St, postMR F.nb size F.rv s = some (rws, v) → F.postM size rws v s := fun s hs => by
                unfold postMR at hs
                split at hs
                · rename_i sz rows0 hg
                  obtain ⟨hsz, hs2⟩ := whenR_ok hs
                  subst hsz
                  have := retsR_ok (N := fun xs => rows0 = rws ∧ resOf xs = v) (fun xs hx => by
                    rw [dvF_eq] at hx
                    injection hx with hx
                    injection hx with hx1 hx2
                    exact ⟨hx1, hx2⟩) hs2
                  refine ⟨?_, rets_mono (fun xs h => h.2) this⟩
                  have e : rows0 = rws := rets_const (rets_mono (fun xs h => h.1) this)
                  rw [hg, e]
                · cases hs
              exact Fn.mcall (ht.all _ _ hF) hp.1 hpre.2.1 hp.2 hpre.2.2 hpre.1 (runC_ok ih hpost (fun _ _ h => by cases h) hpost hv)
            · cases h
          · cases h
        · cases h
      · cases h
end Go.Proofs.YtkjghcbnmipgfaaGreatDoor.Vc
