/- Part of a proof over a Go program: VcRun, JoinLay, Ext, Ex2, Tbl. No condition. -/
import Derived.Test.YtnjphclbpgajpaaGreatDoorQ10
import Derived.Shelf.Strings.Builder1
import Derived.Shelf.Strings.Builder2
import Derived.Shelf.Strings.OnBuilder
import Derived.Shelf.LaysM
import Derived.Ground.Names2Prog
import Derived.Test.YtnjphclbpgajpaaGreatDoorProg
import Derived.Lib.Bytealg
import Derived.Laws.Externs
import Derived.Test.YtnjphclbpgajpaaGreatDoorQ12
import Derived.Test.YtnjphclbpgajpaaGreatDoorQ11
import Derived.Test.YtnjphclbpgajpaaGreatDoorQ14
set_option linter.unnecessarySimpa false
set_option linter.unusedSectionVars false
set_option linter.unusedSimpArgs false
set_option linter.unusedVariables false
set_option maxRecDepth 100000
namespace Go.Proofs.YtnjphclbpgajpaaGreatDoor.Vc
open Go.RowKit
variable {P : Program}
section force
variable {R : Type}
def natF (n : Nat) (K : Nat → R) : R := match n with
 | 0 => K 0
 | n + 1 => K (n + 1)
theorem natF_eq (n : Nat) (K : Nat → R) : natF n K = K n := by cases n <;> rfl
def intF (n : Int) (K : Int → R) : R := match n with
 | .ofNat m => natF m fun m => K (.ofNat m)
 | .negSucc m => natF m fun m => K (.negSucc m)
theorem intF_eq (n : Int) (K : Int → R) : intF n K = K n := by cases n <;> simp [intF, natF_eq]
def boolF (n : Bool) (K : Bool → R) : R := match n with
 | true => K true
 | false => K false
theorem boolF_eq (n : Bool) (K : Bool → R) : boolF n K = K n := by cases n <;> rfl
def listF {α : Type} : List α → (List α → R) → R
 | [], K => K []
 | x :: xs, K => listF xs fun ys => K (x :: ys)
theorem listF_eq {α : Type} (l : List α) (K : List α → R) : listF l K = K l := by
 induction l generalizing K with
 | nil => rfl
 | cons x xs ih => simp only [listF]; rw [ih]
def bytesF : List UInt8 → (List UInt8 → R) → R
 | [], K => K []
 | x :: xs, K => natF x.toNat fun n => bytesF xs fun ys => K (UInt8.ofNat n :: ys)
theorem bytesF_eq (l : List UInt8) (K : List UInt8 → R) : bytesF l K = K l := by
 induction l generalizing K with
 | nil => rfl
 | cons x xs ih => simp only [bytesF, natF_eq]; rw [ih]; simp
def strF (s : ByteArray) (K : ByteArray → R) : R := bytesF s.data.toList fun l => K ⟨⟨l⟩⟩
theorem strF_eq (s : ByteArray) (K : ByteArray → R) : strF s K = K s := by
 unfold strF; rw [bytesF_eq]
def pvF (x : PV) (K : PV → R) : R := match x with
 | .int k n => intF n fun n => K (.int k n)
 | .bool b => boolF b fun b => K (.bool b)
 | .str s => strF s fun s => K (.str s)
 | .atom v => K (.atom v)
 | .agg cs => listF cs fun cs => K (.agg cs)
 | .sl n b rows => boolF b fun b => listF rows fun rows => K (.sl n b rows)
 | .fn f caps => listF caps fun caps => K (.fn f caps)
 | .ptr cells off => listF cells fun cells => natF off fun off => K (.ptr cells off)
theorem pvF_eq (x : PV) (K : PV → R) : pvF x K = K x := by cases x <;> simp [pvF, intF_eq, boolF_eq, strF_eq, listF_eq, natF_eq]
def dvF (v : DV) (K : DV → R) : R := match v with
 | .top => K .top
 | .p x => pvF x fun x => K (.p x)
 | .ow a b c => boolF b fun b => listF c fun c => K (.ow a b c)
 | .tup ds => listF ds fun ds => K (.tup ds)
 | .addr a b c d => natF a fun a => natF c fun c => natF d fun d => K (.addr a b c d)
 | .bs a b c d e => natF a fun a => natF d fun d => natF e fun e => K (.bs a b c d e)
 | .fn f cs => listF cs fun cs => K (.fn f cs)
 | .mh k => natF k fun k => K (.mh k)
 | .ob T => K (.ob T)
 | .pk o => K (.pk o)
 | .agd cs => K (.agd cs)
theorem dvF_eq (v : DV) (K : DV → R) : dvF v K = K v := by cases v <;> simp [dvF, pvF_eq, boolF_eq, listF_eq, natF_eq]
def rowsF : List (List DV) → (List (List DV) → R) → R
 | [], K => K []
 | x :: xs, K => listF x fun x => rowsF xs fun ys => K (x :: ys)
theorem rowsF_eq (l : List (List DV)) (K : List (List DV) → R) : rowsF l K = K l := by
 induction l generalizing K with
 | nil => rfl
 | cons x xs ih => simp only [rowsF, listF_eq]; rw [ih]
def boxF (b : Option Box) (K : Option Box → R) : R := match b with
 | none => K none
 | some ⟨l, s, rows, o⟩ => boolF l fun l => rowsF rows fun rows => K (some ⟨l, s, rows, o⟩)
theorem boxF_eq (b : Option Box) (K : Option Box → R) : boxF b K = K b := by
 cases b with
 | none => rfl
 | some b => cases b; simp [boxF, boolF_eq, rowsF_eq]
def setF {α : Type} : List α → Nat → α → (List α → R) → R
 | [], _, _, K => K []
 | _ :: xs, 0, v, K => K (v :: xs)
 | x :: xs, n + 1, v, K => setF xs n v fun ys => K (x :: ys)
theorem setF_eq {α : Type} (l : List α) (n : Nat) (v : α) (K : List α → R) : setF l n v K = K (setL l n v) := by
 induction l generalizing n K with
 | nil => rfl
 | cons x xs ih => cases n with
  | zero => rfl
  | succ n => simp only [setF, setL]; rw [ih]
end force
def wrapR (k : IntKind) (n : Int) : Int := match k with
 | .i64 => bif decide (-9223372036854775808 ≤ n) && decide (n ≤ 9223372036854775807) then n else k.wrap n
 | k => k.wrap n
theorem wrapR_eq (k : IntKind) (n : Int) : wrapR k n = k.wrap n := by
 unfold wrapR
 split
 ·cases h : (decide (-9223372036854775808 ≤ n) && decide (n ≤ 9223372036854775807))
  ·rfl
  ·simp only [Bool.and_eq_true, decide_eq_true_eq] at h
   exact (wrapE h.1 h.2).symm
 ·rfl
def whenR {R : Type} (A : Prop) [Decidable A] (K : Option R) : Option R := if A then K else none
theorem whenR_ok {R : Type} {A : Prop} [Decidable A] {K : Option R} {r : R} (h : whenR A K = some r) : A ∧ K = some r := by
 unfold whenR at h
 split at h
 ·exact ⟨by assumption, h⟩
 ·cases h
variable {R : Type}
structure Env where
 call : FuncId → List PV → Option DV
 callM : FuncId → Nat → List DV → List (List DV) → Option (List (List DV) × DV)
 callO : FuncId → List DV → List Box → Option (List (Option Box) × DV)
structure Env.OK (P : Program) (E : Env) : Prop where
 call : ∀ f a d, E.call f a = some d → PureCall P f a d
 callM : ∀ f n a rows rows' d, E.callM f n a rows = some (rows', d) → MCall P f n a rows rows' d
 callO : ∀ f a bs bs' d, E.callO f a bs = some (bs', d) → OCall P f a bs bs' d
def binR (op : BinOp) (x y : PV) (K : PV → Option R) : Option R :=
 match x, y with
 | .int k a, .int k' b => match op with
  | .add => whenR (k = k') (K (.int k (wrapR k (a + b))))
  | .sub => whenR (k = k') (K (.int k (wrapR k (a - b))))
  | .mul => whenR (k = k') (K (.int k (wrapR k (a * b))))
  | .quo => whenR (k = k') (whenR (b ≠ 0) (K (.int k (wrapR k (a.tdiv b)))))
  | .rem => whenR (k = k') (whenR (b ≠ 0) (K (.int k (a.tmod b))))
  | .and => whenR (k = k') (K (.int k (bitsOf .and k a b)))
  | .or => whenR (k = k') (K (.int k (bitsOf .or k a b)))
  | .xor => whenR (k = k') (K (.int k (bitsOf .xor k a b)))
  | .andNot => whenR (k = k') (K (.int k (bitsOf .andNot k a b)))
  | .shl => whenR (0 ≤ b) (K (.int k (wrapR k (a * 2 ^ (min b.toNat k.bits)))))
  | .shr => whenR (0 ≤ b) (K (.int k (a.fdiv (2 ^ (min b.toNat k.bits)))))
  | .eql => whenR (k = k') (K (.bool (a == b)))
  | .neq => whenR (k = k') (K (.bool (a != b)))
  | .lss => whenR (k = k') (K (.bool (decide (a < b))))
  | .leq => whenR (k = k') (K (.bool (decide (a ≤ b))))
  | .gtr => whenR (k = k') (K (.bool (decide (a > b))))
  | .geq => whenR (k = k') (K (.bool (decide (a ≥ b))))
 | .str a, .str b => match op with
  | .eql => K (.bool (a.toList == b.toList))
  | .neq => K (.bool !(a.toList == b.toList))
  | .add => whenR (a.size + b.size ≤ 140737488355328) (K (.str (a ++ b)))
  | _ => none
 | _, _ => none
theorem binR_ok {op : BinOp} {x y : PV} {K : PV → Option R} {r : R} (h : binR op x y K = some r) : binPV op x y fun z => K z = some r := by
 unfold binR at h
 split at h
 ·cases op <;> simp only [wrapR_eq] at h <;> simp only [binPV] <;> first
   | exact whenR_ok h
   | (obtain ⟨h1, h2⟩ := whenR_ok h; obtain ⟨h2, h3⟩ := whenR_ok h2; exact ⟨h1, h2, h3⟩)
 ·cases op <;> simp only [binPV] <;> first | exact h | exact whenR_ok h | (simp at h)
 ·cases h
def loadR (cells : List PV) (off n : Nat) (isAgg : Bool) (K : PV → Option R) : Option R :=
 if isAgg then whenR (off + n ≤ cells.length) (K (.agg (takeP cells off n)))
 else match cells[off]? with
  | some c => K c
  | none => none
theorem loadR_ok {cells : List PV} {off n : Nat} {isAgg : Bool} {K : PV → Option R} {r : R} (h : loadR cells off n isAgg K = some r) : loadP cells off n isAgg fun x => K x = some r := by
 unfold loadR at h
 unfold loadP
 split at h
 ·rename_i hi; rw [if_pos hi]; exact whenR_ok h
 ·rename_i hi
  rw [if_neg hi]
  split at h
  ·exact ⟨_, by assumption, h⟩
  ·cases h
def natsF : List Nat → (List Nat → Option R) → Option R
 | [], K => K []
 | x :: xs, K => natF x fun x => natsF xs fun ys => K (x :: ys)
theorem natsF_eq (l : List Nat) (K : List Nat → Option R) : natsF l K = K l := by
 induction l generalizing K with
 | nil => rfl
 | cons x xs ih => simp only [natsF, natF_eq]; rw [ih]
def reachF (b : List (Option Box)) : Nat → List Nat → List Nat → (List Nat → Option R) → Option R
 | 0, _, ks, K => K ks
 | _ + 1, [], ks, K => K ks
 | n + 1, k :: ws, ks, K => if elemN k ks then reachF b n ws ks K else match getR b k with
  | some bx => if bx.live then natsF (ks ++ [k]) fun ks => bif allPR bx.rows then reachF b n ws ks K else natsF (refsRs bx.rows ws) fun ws => reachF b n ws ks K else reachF b n ws ks K
  | none => reachF b n ws ks K
theorem reachF_eq (b : List (Option Box)) : ∀ (n : Nat) (ws ks : List Nat) (K : List Nat → Option R), reachF b n ws ks K = K (reachO b n ws ks)
 | 0, _, _, _ => rfl
 | _ + 1, [], _, _ => rfl
 | n + 1, k :: ws, ks, K => by
  simp only [reachF, reachO, natsF_eq]
  by_cases hk : elemN k ks = true
  ·rw [if_pos hk, if_pos hk]; exact reachF_eq b n ws ks K
  ·rw [if_neg hk, if_neg hk]
   cases getR b k with
   | none => exact reachF_eq b n ws ks K
   | some bx =>
    simp only
    by_cases hl : bx.live = true
    ·rw [if_pos hl, if_pos hl]
     cases allPR bx.rows
     ·exact reachF_eq b n _ _ K
     ·exact reachF_eq b n _ _ K
    ·rw [if_neg hl, if_neg hl]; exact reachF_eq b n ws ks K
def capsF2 : List CapV → (List CapV → Option R) → Option R
 | [], K => K []
 | .p x :: cs, K => capsF2 cs fun l => K (.p x :: l)
 | .addr k sz r o :: cs, K => natF k fun k => capsF2 cs fun l => K (.addr k sz r o :: l)
theorem capsF2_eq (l : List CapV) (K : List CapV → Option R) : capsF2 l K = K l := by
 induction l generalizing K with
 | nil => rfl
 | cons x xs ih => cases x <;> simp only [capsF2, natF_eq] <;> rw [ih]
def handDF (ν : Nat → Option Nat) (d : DV) (K : DV → Option R) : Option R := match d with
 | .p x => K (.p x)
 | .ow size nl rows => K (.p (.sl size nl rows))
 | .addr k sz r o => match ν k with
  | some k' => natF k' fun k' => K (.addr k' sz r o)
  | none => K .top
 | .bs k sz ag lo n => match ν k with
  | some k' => natF k' fun k' => K (.bs k' sz ag lo n)
  | none => K .top
 | .mh k => match ν k with
  | some k' => natF k' fun k' => K (.mh k')
  | none => K .top
 | .fn f caps => match capsH ν caps with
  | some l => capsF2 l fun l => K (.fn f l)
  | none => K .top
 | .ob T => K (.ob T)
 | _ => K .top
theorem handDF_eq (ν : Nat → Option Nat) (d : DV) (K : DV → Option R) : handDF ν d K = K (handD ν d) := by
 cases d with
 | addr k sz r o => simp only [handDF, handD]; split <;> (rename_i heq; simp only [heq, natF_eq])
 | bs k sz ag lo n => simp only [handDF, handD]; split <;> (rename_i heq; simp only [heq, natF_eq])
 | mh k => simp only [handDF, handD]; split <;> (rename_i heq; simp only [heq, natF_eq])
 | fn f caps => simp only [handDF, handD]; split <;> (rename_i heq; simp only [heq, capsF2_eq])
 | _ => rfl
def handRF (ν : Nat → Option Nat) : List DV → (List DV → Option R) → Option R
 | [], K => K []
 | d :: ds, K => handDF ν d fun d => handRF ν ds fun l => K (d :: l)
theorem handRF_eq (ν : Nat → Option Nat) (l : List DV) (K : List DV → Option R) : handRF ν l K = K (handR ν l) := by
 induction l generalizing K with
 | nil => rfl
 | cons x xs ih => simp only [handRF, handR, handDF_eq]; rw [ih]
def handRs0F (ν : Nat → Option Nat) : List (List DV) → (List (List DV) → Option R) → Option R
 | [], K => K []
 | d :: ds, K => handRF ν d fun d => handRs0F ν ds fun l => K (d :: l)
theorem handRs0F_eq (ν : Nat → Option Nat) (l : List (List DV)) (K : List (List DV) → Option R) : handRs0F ν l K = K (handRs0 ν l) := by
 induction l generalizing K with
 | nil => rfl
 | cons x xs ih => simp only [handRs0F, handRs0, handRF_eq]; rw [ih]
def handRsF (ν : Nat → Option Nat) (rows : List (List DV)) (K : List (List DV) → Option R) : Option R := bif allPR rows then K rows else handRs0F ν rows K
theorem handRsF_eq (ν : Nat → Option Nat) (l : List (List DV)) (K : List (List DV) → Option R) : handRsF ν l K = K (handRs ν l) := by
 unfold handRsF handRs; cases allPR l
 ·exact handRs0F_eq ν l K
 ·rfl
def argsF (b : List (Option Box)) (ν : Nat → Option Nat) : List DV → (List DV → Option R) → Option R
 | [], K => K []
 | d :: ds, K => argsF b ν ds fun xs => match d.frz b with
  | some x => pvF x fun x => K (.p x :: xs)
  | none => if d.isRefF then handDF ν d fun d => K (d :: xs) else none
theorem argsF_ok {b : List (Option Box)} {ν : Nat → Option Nat} {r : R} : ∀ {l : List DV} {K : List DV → Option R}, argsF b ν l K = some r → ∃ xs, argsO b ν l = some xs ∧ K xs = some r
 | [], K, h => ⟨[], rfl, h⟩
 | d :: ds, K, h => by
  simp only [argsF] at h
  obtain ⟨xs, h1, h2⟩ := argsF_ok h
  simp only [argsO, h1]
  split at h2
  ·rename_i x hx; rw [pvF_eq] at h2; rw [hx]; exact ⟨_, rfl, h2⟩
  ·rename_i hx
   rw [hx]
   split at h2
   ·rename_i hr; rw [handDF_eq] at h2; rw [if_pos hr]; exact ⟨_, rfl, h2⟩
   ·cases h2
def handBF (b : List (Option Box)) (ν : Nat → Option Nat) (k : Nat) (K : Box → Option R) : Option R :=
 match getR b k with
 | some bx => handRsF ν bx.rows fun rows => natF bx.size fun sz => K ⟨true, sz, rows, true⟩
 | none => K ⟨true, 1, [], true⟩
def handOF (b : List (Option Box)) (ν : Nat → Option Nat) : List Nat → (List Box → Option R) → Option R
 | [], K => K []
 | k :: ks, K => handBF b ν k fun bx => handOF b ν ks fun l => K (bx :: l)
theorem handOF_eq (b : List (Option Box)) (ν : Nat → Option Nat) (l : List Nat) (K : List Box → Option R) : handOF b ν l K = K (handO b ν l) := by
 induction l generalizing K with
 | nil => rfl
 | cons x xs ih =>
  simp only [handOF, handO, handBF, handB]
  split <;> (rename_i heq; simp only [heq, handRsF_eq, natF_eq]; rw [ih])
def backBF (ν : Nat → Option Nat) (old : Bool) (x : Option Box) (K : Option Box → Option R) : Option R := match x with
 | some bx => handRsF ν bx.rows fun rows => natF bx.size fun sz => boolF old fun old => K (some ⟨true, sz, rows, old⟩)
 | none => K none
theorem backBF_eq (ν : Nat → Option Nat) (old : Bool) (x : Option Box) (K : Option Box → Option R) : backBF ν old x K = K (backB ν old x) := by
 cases x with
 | none => rfl
 | some x => simp only [backBF, backB, handRsF_eq, natF_eq, boolF_eq]
def newOF (ν : Nat → Option Nat) : List (Option Box) → (List (Option Box) → Option R) → Option R
 | [], K => K []
 | x :: l, K => backBF ν false x fun x => newOF ν l fun l => K (x :: l)
theorem newOF_eq (ν : Nat → Option Nat) (l : List (Option Box)) (K : List (Option Box) → Option R) : newOF ν l K = K (newO ν l) := by
 induction l generalizing K with
 | nil => rfl
 | cons x xs ih => simp only [newOF, newO, backBF_eq]; rw [ih]
def backOF (ν : Nat → Option Nat) : List Nat → List (Option Box) → List (Option Box) → (List (Option Box) → Option R) → Option R
 | [], l, b, K => newOF ν l fun l => listF (b ++ l) K
 | k :: ks, x :: l, b, K => backBF ν (oldB b k) x fun x => setF b k x fun b => backOF ν ks l b K
 | _ :: _, [], b, K => K b
theorem backOF_eq (ν : Nat → Option Nat) : ∀ (ks : List Nat) (l b : List (Option Box)) (K : List (Option Box) → Option R), backOF ν ks l b K = K (backO ν ks l b)
 | [], l, b, K => by simp only [backOF, backO, newOF_eq, listF_eq]
 | k :: ks, x :: l, b, K => by simp only [backOF, backO, backBF_eq, setF_eq]; exact backOF_eq ν ks l _ K
 | _ :: _, [], b, K => rfl
def resDF (ν : Nat → Option Nat) (r : DV) (K : DV → Option R) : Option R := if r.plain then K r else handDF ν r K
theorem resDF_eq (ν : Nat → Option Nat) (r : DV) (K : DV → Option R) : resDF ν r K = K (resD ν r) := by
 unfold resDF resD; split <;> first | simp only [handDF_eq] | rfl
def byB : List UInt8 → List UInt8 → Bool
 | [], [] => true
 | a :: l, b :: m => decide (a = b) && byB l m
 | _, _ => false
theorem byB_ok : ∀ {l m : List UInt8}, byB l m = true → l = m
 | [], [], _ => rfl
 | a :: l, b :: m, h => by simp only [byB, Bool.and_eq_true, decide_eq_true_eq] at h; rw [h.1, byB_ok h.2]
 | [], _ :: _, h => by simp [byB] at h
 | _ :: _, [], h => by simp [byB] at h
def atB (a b : Value) : Bool := match a, b with
 | .pointer none, .pointer none => true
 | _, _ => false
theorem atB_ok {a b : Value} (h : atB a b = true) : a = b := by
 unfold atB at h
 split at h
 ·rfl
 ·cases h
mutual
def pvB : PV → PV → Bool
 | .int k n, .int k' n' => decide (k = k') && decide (n = n')
 | .bool a, .bool b => decide (a = b)
 | .str s, .str t => byB s.data.toList t.data.toList
 | .agg a, .agg b => pvsB a b
 | .sl n x a, .sl n' x' b => decide (n = n') && (decide (x = x') && pvsB a b)
 | .fn f a, .fn g b => decide (f = g) && pvsB a b
 | .ptr a o, .ptr b o' => decide (o = o') && pvsB a b
 | .atom v, .atom u => atB v u
 | _, _ => false
def pvsB : List PV → List PV → Bool
 | [], [] => true
 | a :: l, b :: m => pvB a b && pvsB l m
 | _, _ => false
end
mutual
theorem pvB_ok : ∀ {a b : PV}, pvB a b = true → a = b
 | .int k n, b, h => by cases b <;> simp [pvB] at h; rw [h.1, h.2]
 | .bool x, b, h => by cases b <;> simp [pvB] at h; rw [h]
 | .str s, b, h => by
  cases b <;> simp only [pvB, Bool.false_eq_true] at h
  rw [ba_ext (byB_ok h)]
 | .agg l, b, h => by cases b <;> simp only [pvB, Bool.false_eq_true] at h; rw [pvsB_ok h]
 | .sl n x l, b, h => by
  cases b <;> simp only [pvB, Bool.false_eq_true, Bool.and_eq_true, decide_eq_true_eq] at h
  rw [h.1, h.2.1, pvsB_ok h.2.2]
 | .fn f l, b, h => by
  cases b <;> simp only [pvB, Bool.false_eq_true, Bool.and_eq_true, decide_eq_true_eq] at h
  rw [h.1, pvsB_ok h.2]
 | .ptr l o, b, h => by
  cases b <;> simp only [pvB, Bool.false_eq_true, Bool.and_eq_true, decide_eq_true_eq] at h
  rw [h.1, pvsB_ok h.2]
 | .atom v, b, h => by
  cases b <;> simp only [pvB, Bool.false_eq_true] at h
  rw [atB_ok h]
theorem pvsB_ok : ∀ {l m : List PV}, pvsB l m = true → l = m
 | [], [], _ => rfl
 | a :: l, b :: m, h => by simp only [pvsB, Bool.and_eq_true] at h; rw [pvB_ok h.1, pvsB_ok h.2]
 | [], _ :: _, h => by simp [pvsB] at h
 | _ :: _, [], h => by simp [pvsB] at h
end
def allB {α : Type} (f : α → α → Bool) : List α → List α → Bool
 | [], [] => true
 | a :: l, b :: m => f a b && allB f l m
 | _, _ => false
theorem allB_ok {α : Type} {f : α → α → Bool} (hf : ∀ a b, f a b = true → a = b) : ∀ {l m : List α}, allB f l m = true → l = m
 | [], [], _ => rfl
 | a :: l, b :: m, h => by simp only [allB, Bool.and_eq_true] at h; rw [hf _ _ h.1, allB_ok hf h.2]
 | [], _ :: _, h => by simp [allB] at h
 | _ :: _, [], h => by simp [allB] at h
def capB : CapV → CapV → Bool
 | .p x, .p y => pvB x y
 | .addr k z r o, .addr k' z' r' o' => decide (k = k') && (decide (z = z') && (decide (r = r') && decide (o = o')))
 | _, _ => false
theorem capB_ok (a b : CapV) (h : capB a b = true) : a = b := by
 cases a <;> cases b <;> simp only [capB, Bool.false_eq_true, Bool.and_eq_true, decide_eq_true_eq] at h
 ·rw [pvB_ok h]
 ·rw [h.1, h.2.1, h.2.2.1, h.2.2.2]
def tvB : TV → TV → Bool
 | .p x, .p y => pvB x y
 | .ow n x l, .ow n' x' m => decide (n = n') && (decide (x = x') && pvsB l m)
 | _, _ => false
theorem tvB_ok (a b : TV) (h : tvB a b = true) : a = b := by
 cases a <;> cases b <;> simp only [tvB, Bool.false_eq_true, Bool.and_eq_true, decide_eq_true_eq] at h
 ·rw [pvB_ok h]
 ·rw [h.1, h.2.1, pvsB_ok h.2.2]
def rfB : RfV → RfV → Bool
 | .p x, .p y => pvB x y
 | .addr k z r o, .addr k' z' r' o' => decide (k = k') && (decide (z = z') && (decide (r = r') && decide (o = o')))
 | .bs k z g l n, .bs k' z' g' l' n' => decide (k = k') && (decide (z = z') && (decide (g = g') && (decide (l = l') && decide (n = n'))))
 | .mh k, .mh k' => decide (k = k')
 | _, _ => false
theorem rfB_ok (a b : RfV) (h : rfB a b = true) : a = b := by
 cases a <;> cases b <;> simp only [rfB, Bool.false_eq_true, Bool.and_eq_true, decide_eq_true_eq] at h
 ·rw [pvB_ok h]
 ·rw [h.1, h.2.1, h.2.2.1, h.2.2.2]
 ·rw [h.1, h.2.1, h.2.2.1, h.2.2.2.1, h.2.2.2.2]
 ·rw [h]
def obB : Ob → Ob → Bool
 | .ch c l, .ch c' m => decide (c = c') && pvsB l m
 | _, _ => false
theorem obB_ok (a b : Ob) (h : obB a b = true) : a = b := by
 cases a <;> cases b <;> simp only [obB, Bool.false_eq_true, Bool.and_eq_true, decide_eq_true_eq] at h
 rw [h.1, pvsB_ok h.2]
def dvB : DV → DV → Bool
 | .top, .top => true
 | .p x, .p y => pvB x y
 | .ow n x l, .ow n' x' m => decide (n = n') && (decide (x = x') && pvsB l m)
 | .tup l, .tup m => allB tvB l m
 | .addr k z r o, .addr k' z' r' o' => decide (k = k') && (decide (z = z') && (decide (r = r') && decide (o = o')))
 | .bs k z g l n, .bs k' z' g' l' n' => decide (k = k') && (decide (z = z') && (decide (g = g') && (decide (l = l') && decide (n = n'))))
 | .fn f l, .fn g m => decide (f = g) && allB capB l m
 | .mh k, .mh k' => decide (k = k')
 | .agd l, .agd m => allB rfB l m
 | .ob x, .ob y => obB x y
 | _, _ => false
theorem dvB_ok (a b : DV) (h : dvB a b = true) : a = b := by
 cases a <;> cases b <;> simp only [dvB, Bool.false_eq_true, Bool.and_eq_true, decide_eq_true_eq] at h
 ·rfl
 ·rw [pvB_ok h]
 ·rw [h.1, h.2.1, pvsB_ok h.2.2]
 ·rw [allB_ok tvB_ok h]
 ·rw [h.1, h.2.1, h.2.2.1, h.2.2.2]
 ·rw [h.1, h.2.1, h.2.2.1, h.2.2.2.1, h.2.2.2.2]
 ·rw [h.1, allB_ok capB_ok h.2]
 ·rw [h]
 ·rw [obB_ok _ _ h]
 ·rw [allB_ok rfB_ok h]
def boxB : Option Box → Option Box → Bool
 | none, none => true
 | some x, some y => decide (x.live = y.live) && (decide (x.size = y.size) && (decide (x.old = y.old) && allB (allB dvB) x.rows y.rows))
 | _, _ => false
theorem boxB_ok (a b : Option Box) (h : boxB a b = true) : a = b := by
 cases a <;> cases b <;> simp only [boxB, Bool.false_eq_true, Bool.and_eq_true, decide_eq_true_eq] at h
 ·rfl
 ·rename_i x y
  cases x; cases y
  simp only at h
  rw [h.1, h.2.1, h.2.2.1, allB_ok (fun _ _ h => allB_ok dvB_ok h) h.2.2.2]
def callR (E : Env) (f : FuncId) (gr : Bool) (xs : List DV) (b : List (Option Box)) (K : DV → List (Option Box) → Option R) : Option R :=
 reachF b 4000 (rootsO b xs) [] fun ks => argsF b (nuO ks) xs fun args => handOF b (nuO ks) ks fun bs => match E.callO f args bs with
  | some (bs', r) => if gr || Nat.beq bs'.length ks.length then natF b.length fun L => natF bs'.length fun m => backOF (nuB ks L m) ks bs' b fun b' => resDF (nuB ks L m) r fun r' => K r' b' else none
  | none => none
theorem callR_ok {E : Env} (hc : E.OK P) {f : FuncId} {gr : Bool} {xs : List DV} {b : List (Option Box)} {K : DV → List (Option Box) → Option R} {r : R} (h : callR E f gr xs b K = some r) : callO P f gr xs b fun v b' => K v b' = some r := by
 unfold callR at h
 rw [reachF_eq] at h
 obtain ⟨args, h1, h2⟩ := argsF_ok h
 rw [handOF_eq] at h2
 unfold callO ksO
 rw [h1]
 simp only
 split at h2
 ·rename_i bs' r' hE
  split at h2
  ·rename_i hg
   simp only [natF_eq, backOF_eq, resDF_eq] at h2
   refine ⟨bs', r', hc.callO _ _ _ _ _ hE, ?_, h2⟩
   simp only [Bool.or_eq_true] at hg
   rcases hg with hg | hg
   ·exact .inl hg
   ·exact .inr (Nat.eq_of_beq_eq_true hg)
  ·cases h2
 ·cases h2
def dvsF : List DV → (List DV → Option R) → Option R
 | [], K => K []
 | x :: xs, K => dvF x fun x => dvsF xs fun l => K (x :: l)
theorem dvsF_eq (l : List DV) (K : List DV → Option R) : dvsF l K = K l := by
 induction l generalizing K with
 | nil => rfl
 | cons x xs ih => simp only [dvsF, dvF_eq]; rw [ih]
def rowsDF : List (List DV) → (List (List DV) → Option R) → Option R
 | [], K => K []
 | x :: xs, K => dvsF x fun x => rowsDF xs fun l => K (x :: l)
theorem rowsDF_eq (l : List (List DV)) (K : List (List DV) → Option R) : rowsDF l K = K l := by
 induction l generalizing K with
 | nil => rfl
 | cons x xs ih => simp only [rowsDF, dvsF_eq]; rw [ih]
def semRO (E : Env) (κ : KO) (vs : List DV) (b : List (Option Box)) (K : DV → List (Option Box) → Option R) : Option R :=
 match κ with
 | .ldo _ _ => none
 | .callo f gr => callR E f gr vs b K
 | .callr f => callR E f false vs b fun v b' => bif allB boxB b' b then K v b else none
 | .callvo gr => match vs with
  | .fn f caps :: xs => callR E f gr (xs ++ capsD caps) b K
  | _ => none
 | .bldo zero offs => dvsF vs fun vs => match fillR (rfsOf zero) offs vs with
  | some cs => listF cs fun cs => K (.agd cs) b
  | none => none
 | .eqp neq => match vs with
  | [.addr _ _ _ _, .p (.atom (.pointer none))] => K (.p (.bool neq)) b
  | [.p (.atom (.pointer none)), .p (.atom (.pointer none))] => K (.p (.bool (!neq))) b
  | [.p (.ptr _ _), .p (.atom (.pointer none))] => K (.p (.bool neq)) b
  | _ => none
 | .appd size bytes ag => match vs with
  | [.p (.sl sz true []), y] => match appRows b size y with
   | some new => whenR (sz = size) (whenR (new.length * bytes ≤ 140737488355328) (whenR (new.length ≤ 140737488355328) (match new with
    | [] => K (.p (.sl size true [])) b
    | _ :: _ => natF b.length fun L => natF new.length fun n => rowsDF new fun rows => K (.bs L size ag 0 n) (b ++ [some ⟨true, size, rows, false⟩]))))
   | none => none
  | [.bs k sz _ lo n, y] => match appRows b size y with
   | some new => match getB b k with
    | some bx => whenR (bx.live = true) (whenR (sz = size) (whenR (bx.size = size) (whenR (lo = 0) (whenR (n = bx.rows.length) (whenR ((bx.rows.length + new.length) * bytes ≤ 140737488355328) (whenR (bx.rows.length + new.length ≤ 140737488355328)
      (natF b.length fun L => natF (bx.rows.length + new.length) fun n => rowsDF (copiesR bx.rows ++ new) fun rows => K (.bs L size ag 0 n) (setL b k none ++ [some ⟨true, size, rows, false⟩])))))))) 
    | none => none
   | none => none
  | _ => none
 | .bsld size n ag => whenR (size = 1) (whenR (vs.length = n) (whenR (n ≠ 0) (whenR ((vs.all DV.isRef) = true) (whenR ((vs.all (ltD b.length)) = true) (natF b.length fun L => rowsDF (vs.map fun x => [x]) fun rows => K (.bs L 1 ag 0 n) (b ++ [some ⟨true, 1, rows, false⟩]))))))
 | .slx size => match vs with
  | [.bs k sz ag lo n, .p (.int _ h)] => whenR (sz = size) (whenR (lo = 0) (whenR (0 ≤ h) (whenR (h ≤ n) (match getB b k with
   | some bx => whenR (sz = bx.size) (whenR (bx.live = true) (whenR (h ≤ bx.rows.length) (boxF (some { bx with rows := bx.rows.take h.toNat }) fun bx => natF h.toNat fun n => K (.bs k sz ag 0 n) (setL b k bx))))
   | none => none))))
  | [.p (.sl sz nl rows), .p (.int _ h)] => whenR (sz = size ∨ rows.isEmpty = true) (whenR (0 ≤ h) (whenR (h ≤ rows.length) (K (.p (.sl sz nl (rows.take h.toNat))) b)))
  | _ => none
 | .lookx q zero ok => match vs with
  | [.mh k, .p x] => whenR (keyP q x = true) (match getM b k with
   | some bx => match findX q x bx.rows with
    | some (some d) => if ok then match d with
      | .p v => K (.tup [.p v, .p (.bool true)]) b
      | _ => none
     else K d.copy b
    | some none => K (if ok then .tup [.p zero, .p (.bool false)] else .p zero) b
    | none => none
   | none => none)
  | _ => none
 | .mupx q => match vs with
  | [.mh k, .p x, d] => whenR (keyP q x = true) (dvF d fun d => whenR ((d.isRef || d.isP) = true) (match getM b k with
   | some bx => match updX q x d bx.rows with
    | some rows => rowsDF rows fun rows => K .top (setL b k (some { bx with rows := rows }))
    | none => none
   | none => none))
  | _ => none
 | .mdel q => match vs with
  | [.mh k, .p x] => whenR (keyP q x = true) (match getM b k with
   | some bx => match delX q x bx.rows with
    | some rows => rowsDF (copiesR rows) fun rows => K .top (setL b k (some { bx with rows := rows }))
    | none => none
   | none => none)
  | _ => none
 | .mpe _ => none
 | .ents => none
 | .lda _ => none
 | .mlen => match vs with
  | [.mh k] => match getM b k with
   | some bx => K (.p (.int .i64 bx.rows.length)) b
   | none => none
  | _ => none
theorem semRO_ok {E : Env} (hc : E.OK P) {κ : KO} {vs : List DV} {b : List (Option Box)} {K : DV → List (Option Box) → Option R} {r : R}
  (h : semRO E κ vs b K = some r) : semO P κ vs b fun v b' => K v b' = some r := by
 cases κ with
 | ldo j ag => cases h
 | callo f gr => exact callR_ok hc h
 | callr f =>
  show callO P f false vs b fun v b' => b' = b ∧ K v b = some r
  refine callO_mono (fun v b' hb => ?_) (callR_ok hc h)
  cases he : allB boxB b' b with
  | false => rw [he] at hb; cases hb
  | true => rw [he] at hb; exact ⟨allB_ok boxB_ok he, hb⟩
 | callvo gr =>
  simp only [semRO] at h; split at h
  ·exact callR_ok hc h
  ·cases h
 | bldo zero offs =>
  simp only [semRO, dvsF_eq] at h
  simp only [semO]
  split at h
  ·rename_i hf; rw [hf]; rw [listF_eq] at h; exact h
  ·cases h
 | eqp neq =>
  simp only [semRO] at h; split at h
  ·exact h
  ·exact h
  ·exact h
  ·cases h
 | appd size bytes ag =>
  simp only [semRO] at h; split at h
  ·split at h
   ·rename_i new hn
    obtain ⟨h1, h⟩ := whenR_ok h; obtain ⟨h2, h⟩ := whenR_ok h; obtain ⟨h3, h⟩ := whenR_ok h
    simp only [semO, hn]
    have h3' := Nat.le_trans h3 (by decide : 140737488355328 ≤ maxLen)
    split at h
    ·exact ⟨h1, h2, h3', fun _ => h, fun e => absurd rfl e⟩
    ·simp only [natF_eq, rowsDF_eq] at h
     exact ⟨h1, h2, h3', fun e => (by cases e), fun _ => h⟩
   ·cases h
  ·split at h
   ·rename_i new hn
    split at h
    ·rename_i bx hb
     obtain ⟨h1, h⟩ := whenR_ok h; obtain ⟨h2, h⟩ := whenR_ok h; obtain ⟨h3, h⟩ := whenR_ok h; obtain ⟨h4, h⟩ := whenR_ok h; obtain ⟨h5, h⟩ := whenR_ok h; obtain ⟨h6, h⟩ := whenR_ok h; obtain ⟨h7, h⟩ := whenR_ok h
     simp only [natF_eq, rowsDF_eq] at h
     simp only [semO, hn, hb]
     exact ⟨h1, h2, h3, h4, h5, h6, Nat.le_trans h7 (by decide : 140737488355328 ≤ maxLen), h⟩
    ·cases h
   ·cases h
  ·cases h
 | bsld size n ag =>
  simp only [semRO] at h
  obtain ⟨h1, h⟩ := whenR_ok h; obtain ⟨h2, h⟩ := whenR_ok h; obtain ⟨h3, h⟩ := whenR_ok h; obtain ⟨h4, h⟩ := whenR_ok h; obtain ⟨h5, h⟩ := whenR_ok h
  simp only [natF_eq, rowsDF_eq] at h
  simp only [semO]
  exact ⟨h1, h2, h3, h4, h5, h⟩
 | slx size =>
  simp only [semRO] at h; split at h
  ·obtain ⟨h1, h⟩ := whenR_ok h; obtain ⟨h2, h⟩ := whenR_ok h; obtain ⟨h3, h⟩ := whenR_ok h; obtain ⟨h4, h⟩ := whenR_ok h
   split at h
   ·rename_i bx hb
    obtain ⟨h5, h⟩ := whenR_ok h; obtain ⟨h6, h⟩ := whenR_ok h; obtain ⟨h7, h⟩ := whenR_ok h
    simp only [natF_eq, boxF_eq] at h
    simp only [semO, hb]
    exact ⟨h1, h2, h3, h4, h5, h6, h7, h⟩
   ·cases h
  ·obtain ⟨h1, h⟩ := whenR_ok h; obtain ⟨h2, h⟩ := whenR_ok h; obtain ⟨h3, h⟩ := whenR_ok h
   simp only [semO]
   exact ⟨by simpa using h1, h2, h3, h⟩
  ·cases h
 | lookx q zero ok =>
  simp only [semRO] at h; split at h
  ·obtain ⟨h1, h⟩ := whenR_ok h
   simp only [semO]
   refine ⟨h1, ?_⟩
   split at h
   ·rename_i hb; simp only [hb]
    split at h
    ·rename_i hf; simp only [hf]
     split at h
     ·rename_i ho
      rw [if_pos ho]
      split at h
      ·exact ⟨_, rfl, h⟩
      ·cases h
     ·rename_i ho; rw [if_neg ho]; exact h
    ·rename_i hf; simp only [hf]; exact h
    ·cases h
   ·cases h
  ·cases h
 | mupx q =>
  simp only [semRO] at h; split at h
  ·obtain ⟨h1, h⟩ := whenR_ok h
   rw [dvF_eq] at h
   obtain ⟨h2, h⟩ := whenR_ok h
   simp only [semO]
   refine ⟨h1, h2, ?_⟩
   split at h
   ·rename_i hb; simp only [hb]
    split at h
    ·rename_i hf; simp only [hf]; rw [rowsDF_eq] at h; exact h
    ·cases h
   ·cases h
  ·cases h
 | mdel q =>
  simp only [semRO] at h; split at h
  ·obtain ⟨h1, h⟩ := whenR_ok h
   simp only [semO]
   refine ⟨h1, ?_⟩
   split at h
   ·rename_i hb; simp only [hb]
    split at h
    ·rename_i hf; simp only [hf]; rw [rowsDF_eq] at h; exact h
    ·cases h
   ·cases h
  ·cases h
 | mpe q => cases h
 | ents => cases h
 | lda n => cases h
 | mlen =>
  simp only [semRO] at h; split at h
  ·simp only [semO]
   split at h
   ·rename_i hb; simp only [hb]; exact h
   ·cases h
  ·cases h
def semR (E : Env) (κ : Kd) (vs : List DV) (b : List (Option Box)) (K : DV → List (Option Box) → Option R) : Option R :=
 match κ with
 | .mov take => match vs with
  | [x] => K (if take then x else x.copy) b
  | _ => none
 | .pick => match vs with
  | [.p (.bool c), x, y] => if c then K x.copy b else K y.copy b
  | _ => none
 | .box k size => match vs with
  | [x] => match cellsOfD x with
   | some cs => whenR (cs.length = size) (whenR (x.ment k = false) (boxF (some ⟨true, size, [copies cs], false⟩) fun bx => K (.addr k size 0 0) (setL b k bx)))
   | none => none
  | _ => none
 | .alloc k size zero => match vs with
  | [] => whenR (zero.length = size) (K (.addr k size 0 0) (setL b k (some ⟨true, size, [zero], false⟩)))
  | _ => none
 | .build zero offs => match pvsOf vs with
  | some ps => match fillL zero offs ps with
   | some cs => K (.p (.agg cs)) b
   | none => none
  | none => none
 | .bsl size n => match pvsOf vs with
  | some rows => whenR (rows.length = n) (whenR (∀ r, r ∈ rows → (rowCells r).length = size) (K (.ow size false rows) b))
  | none => none
 | .load n isAgg take => match vs with
  | [.addr k sz r off] => match getB b k with
   | some bx => whenR (sz = bx.size) (match bx.rows[r]? with
    | some row => whenR (off + n ≤ row.length) (
     if isAgg then match pvsOf (takeD row off n) with
      | some cs => K (.p (.agg cs)) b
      | none => none
     else match row[off]? with
      | some d => if take then boxF (some { bx with rows := setL bx.rows r (setL row off d.copy) }) fun bx => K d (setL b k bx) else K d.copy b
      | none => none)
    | none => none)
   | none => none
  | [.p (.ptr cells off)] => loadR cells off n isAgg fun x => K (.p x) b
  | _ => none
 | .loadp n isAgg => match vs with
  | [.p (.ptr cells off)] => loadR cells off n isAgg fun x => K (.p x) b
  | _ => none
 | .store n => match vs with
  | [.addr k sz r off, v] => match getB b k, cellsOfD v with
   | some bx, some cs => whenR (sz = bx.size) (whenR (bx.live = true) (whenR (cs.length = n) (match bx.rows[r]? with
    | some row => whenR (off + n ≤ row.length) (boxF (some { bx with rows := setL bx.rows r (storeD row off cs) }) fun bx => K .top (setL b k bx))
    | none => none)))
   | _, _ => none
  | _ => none
 | .bin op => match vs with
  | [.p x, .p y] => binR op x y fun z => K (.p z) b
  | _ => none
 | .eqnil neq => match vs with
  | [.p (.sl _ n _), .ow _ true []] => K (.p (.bool (if neq then !n else n))) b
  | [.ow _ n _, .ow _ true []] => K (.p (.bool (if neq then !n else n))) b
  | _ => none
 | .un op => match vs with
  | [.p (.bool x)] => match op with
   | .not => K (.p (.bool !x)) b
   | _ => none
  | [.p (.int k x)] => match op with
   | .neg => K (.p (.int k (wrapR k (0 - x)))) b
   | _ => none
  | _ => none
 | .conv k => match vs with
  | [.p (.int _ n)] => K (.p (.int k (wrapR k n))) b
  | _ => none
 | .fad off => match vs with
  | [.addr k size r o] => K (.addr k size r (o + off)) b
  | [.p (.ptr cells o)] => K (.p (.ptr cells (o + off))) b
  | _ => none
 | .fld off n isAgg => match vs with
  | [.p (.agg cs)] => loadR cs off n isAgg fun x => K (.p x) b
  | _ => none
 | .iad size => match vs with
  | [.p (.sl sz _ rows), .p (.int _ i)] => whenR (sz = size) (whenR (0 ≤ i) (match rows[i.toNat]? with
   | some row => K (.p (.ptr (rowCells row) 0)) b
   | none => none))
  | [.ow sz _ rows, .p (.int _ i)] => whenR (sz = size) (whenR (0 ≤ i) (match rows[i.toNat]? with
   | some row => K (.p (.ptr (rowCells row) 0)) b
   | none => none))
  | [.bs k sz _ lo n, .p (.int _ i)] => whenR (sz = size) (whenR (0 ≤ i) (whenR (i < n) (K (.addr k sz (lo + i.toNat) 0) b)))
  | _ => none
 | .sidx => match vs with
  | [.p (.str s), .p (.int _ i)] => whenR (0 ≤ i) (match s.data.toList[i.toNat]? with
   | some c => K (.p (.int .u8 c.toNat)) b
   | none => none)
  | _ => none
 | .len => match vs with
  | [x] => match sliceLen x with
   | some n => K (.p (.int .i64 n)) b
   | none => none
  | _ => none
 | .lenD => match vs with
  | [x] => match sliceLen x with
   | some n => K (.p (.int .i64 n)) b
   | none => none
  | _ => none
 | .slen => match vs with
  | [.p (.str z)] => K (.p (.int .i64 z.size)) b
  | _ => none
 | .app size bytes => match vs with
  | [.ow sz nl rows, y] => match y.frz b with
   | some (.sl sz2 _ rows2) => whenR (sz = size ∨ (nl = true ∧ rows.isEmpty = true)) (whenR (sz2 = size ∨ rows2.isEmpty = true) (whenR ((rows.length + rows2.length) * bytes ≤ 140737488355328) (whenR (rows.length + rows2.length ≤ 140737488355328)
     (K (.ow size (nl && rows2.isEmpty) (rows ++ rows2)) b))))
   | _ => none
  | [.p (.sl sz true rows), y] => whenR (rows.isEmpty = true) (match y.frz b with
   | some (.sl sz2 _ rows2) => whenR (sz = size) (whenR (sz2 = size ∨ rows2.isEmpty = true) (whenR (rows2.length * bytes ≤ 140737488355328) (whenR (rows2.length ≤ 140737488355328)
     (K (.ow size rows2.isEmpty rows2) b))))
   | _ => none)
  | _ => none
 | .ext j => match vs with
  | [.tup ds] => match ds[j]? with
   | some d => K d.dv b
   | none => none
  | _ => none
 | .extp j => match vs with
  | [.tup ds] => match ds[j]? with
   | some d => K d.dv.copy b
   | none => none
  | _ => none
 | .call f => match frzs b vs with
  | some args => match E.call f args with
   | some r => K r b
   | none => none
  | none => none
 | .callv => match vs with
  | fx :: xs => match fx.frz b, frzs b xs with
   | some (.fn f caps), some args => match E.call f (args ++ caps) with
    | some r => K r b
    | none => none
   | _, _ => none
  | _ => none
 | .mkfn f => match frzs b vs with
  | some caps => K (.p (.fn f caps)) b
  | none => none
 | .mksl k size bytes isAgg zero => match vs with
  | [.p (.int _ n), .p (.int _ m)] => whenR (n = m) (whenR (0 ≤ n) (whenR (n * bytes ≤ 140737488355328) (whenR (n ≤ 140737488355328) (whenR (zero.length = size)
    (boxF (some ⟨true, size, List.replicate n.toNat zero, false⟩) fun bx => K (.bs k size isAgg 0 n.toNat) (setL b k bx))))))
  | _ => none
 | .slc size lo hi => match vs with
  | .p (.sl sz nl rows) :: ys => whenR (sz = size ∨ rows.isEmpty = true) (match lo, hi, ys with
   | true, true, [.p (.int _ l), .p (.int _ h)] => whenR (0 ≤ l) (whenR (l ≤ h) (whenR (h ≤ rows.length) (K (.p (.sl sz nl ((rows.take h.toNat).drop l.toNat))) b)))
   | true, false, [.p (.int _ l)] => whenR (0 ≤ l) (whenR (l ≤ rows.length) (K (.p (.sl sz nl (rows.drop l.toNat))) b))
   | false, true, [.p (.int _ h)] => whenR (0 ≤ h) (whenR (h ≤ rows.length) (K (.p (.sl sz nl (rows.take h.toNat))) b))
   | _, _, _ => none)
  | _ => none
 | .nilchk => match vs with
  | [.addr k s r o] => K (.addr k s r o) b
  | [.p (.ptr c o)] => K (.p (.ptr c o)) b
  | [.p (.fn f c)] => K (.p (.fn f c)) b
  | _ => none
 | .mn => match vs with
  | [.p (.int k x), .p (.int k' y)] => whenR (k = k') (K (.p (.int k (if y < x then y else x))) b)
  | _ => none
 | .mx => match vs with
  | [.p (.int k x), .p (.int k' y)] => whenR (k = k') (K (.p (.int k (if y > x then y else x))) b)
  | _ => none
 | .ssl lo hi => match vs with
  | .p (.str z) :: ys => match lo, hi, ys with
   | true, true, [.p (.int _ l), .p (.int _ h)] => whenR (0 ≤ l) (whenR (l ≤ h) (whenR (h ≤ z.size) (K (.p (.str (z.extract l.toNat h.toNat))) b)))
   | true, false, [.p (.int _ l)] => whenR (0 ≤ l) (whenR (l ≤ z.size) (K (.p (.str (z.extract l.toNat z.size))) b))
   | false, true, [.p (.int _ h)] => whenR (0 ≤ h) (whenR (h ≤ z.size) (K (.p (.str (z.extract 0 h.toNat))) b))
   | _, _, _ => none
  | _ => none
 | .slb k size => match vs with
  | [.bs k' sz ag lo n, .p (.int _ h)] => whenR (k' = k) (whenR (sz = size) (whenR (lo = 0) (whenR (0 ≤ h) (whenR (h ≤ n) (match getB b k with
   | some bx => whenR (h ≤ bx.rows.length) (boxF (some { bx with rows := bx.rows.take h.toNat }) fun bx => K (.bs k sz ag 0 h.toNat) (setL b k bx))
   | none => none)))))
  | _ => none
 | .callm f k => match getB b k, argsM k b vs with
  | some bx, some args => whenR (bx.live = true) (whenR (allPR bx.rows = true) (match E.callM f bx.size args bx.rows with
   | some (rows', r) => boxF (some { bx with rows := rows' }) fun bx => K r (setL b k bx)
   | none => none))
  | _, _ => none
 | .stk => none
 | .eqat neq => match vs with
  | [.p (.atom .nilIface), .p (.atom .nilIface)] => K (.p (.bool (!neq))) b
  | _ => none
 | .eqs n neq => match vs with
  | [.p (.agg xs), .p (.agg ys)] => whenR (xs.length = n) (match eqsP xs ys with
   | some r => K (.p (.bool (if neq then !r else r))) b
   | none => none)
  | _ => none
 | .eqb neq => match vs with
  | [.p (.bool x), .p (.bool y)] => K (.p (.bool (if neq then !(x == y) else x == y))) b
  | _ => none
 | .mkz size bytes row => match vs with
  | [.p (.int _ n), .p (.int _ m)] => whenR (n = m) (whenR (0 ≤ n) (whenR (n * bytes ≤ 140737488355328) (whenR (n ≤ 140737488355328) (whenR ((rowCells row).length = size)
    (K (.ow size false (List.replicate n.toNat row)) b)))))
  | _ => none
 | .s2b => match vs with
  | [.p (.str z)] => whenR (z.size ≤ 140737488355328) (K (.p (.sl 1 false (z.data.toList.map fun c => .int .u8 c.toNat))) b)
  | _ => none
 | .mkmap k => match vs with
  | [] => K (.mh k) (setL b k (some ⟨true, 0, [], false⟩))
  | _ => none
 | .look q zero => match vs with
  | [.mh k, .p (.int q' x)] => whenR (q' = q) (match getM b k with
   | some bx => match findM q x bx.rows with
    | some (some v) => K (.p v) b
    | some none => K (.p zero) b
    | none => none
   | none => none)
  | _ => none
 | .mupd q => match vs with
  | [.mh k, .p (.int q' x), .p v] => whenR (q' = q) (whenR (v.one = true) (match getM b k with
   | some bx => match updM q x v bx.rows with
    | some rows => boxF (some { bx with rows := rows }) fun bx => K .top (setL b k bx)
    | none => none
   | none => none))
  | _ => none
 | .at _ _ => none
 | .pl _ => none
 | .ob κ => semRO E κ vs b K
theorem isEmpty_iff' {α : Type} {l : List α} : l.isEmpty = true ↔ l = [] := by cases l <;> simp
theorem maxLen_ge : 140737488355328 ≤ maxLen := by decide
theorem semR_ok {E : Env} (hc : E.OK P) {κ : Kd} {vs : List DV} {b : List (Option Box)} {K : DV → List (Option Box) → Option R} {r : R}
  (h : semR E κ vs b K = some r) : semI P κ vs b fun v b' => K v b' = some r := by
 cases κ with
 | mov take =>
  simp only [semR] at h; split at h <;> first | (cases h; done) | exact h
 | pick =>
  simp only [semR] at h; split at h
  ·split at h
   ·rename_i hc; exact ⟨fun _ => h, fun e => by rw [hc] at e; cases e⟩
   ·rename_i hc; exact ⟨fun e => absurd e hc, fun _ => h⟩
  ·cases h
 | box k size =>
  simp only [semR] at h; split at h
  ·simp only [semI]
   split at h
   ·rename_i heq; simp only [heq]; obtain ⟨h1, h⟩ := whenR_ok h; obtain ⟨h2, h⟩ := whenR_ok h; rw [boxF_eq] at h; exact ⟨h1, h2, h⟩
   ·cases h
  ·cases h
 | alloc k size zero =>
  simp only [semR] at h; split at h
  ·exact whenR_ok h
  ·cases h
 | build zero offs =>
  simp only [semR] at h; simp only [semI]; split at h
  ·rename_i heq; simp only [heq]
   split at h
   ·rename_i heq; simp only [heq]; exact h
   ·cases h
  ·cases h
 | bsl size n =>
  simp only [semR] at h; simp only [semI]; split at h
  ·rename_i heq; simp only [heq]; obtain ⟨h1, h⟩ := whenR_ok h; obtain ⟨h2, h⟩ := whenR_ok h; exact ⟨h1, h2, h⟩
  ·cases h
 | load n isAgg take =>
  simp only [semR] at h; split at h
  ·simp only [semI]; split at h
   ·rename_i heq; simp only [heq]
    obtain ⟨h1, h⟩ := whenR_ok h
    split at h
    ·rename_i hrow
     obtain ⟨h2, h⟩ := whenR_ok h
     refine ⟨h1, _, hrow, h2, ?_⟩
     split at h
     ·rename_i hi
      rw [if_pos hi]
      split at h
      ·rename_i heq; simp only [heq]; exact h
      ·cases h
     ·rename_i hi
      rw [if_neg hi]
      split at h
      ·rename_i hd
       refine ⟨_, hd, ?_⟩
       split at h
       ·rename_i ht; rw [boxF_eq] at h; rw [if_pos ht, if_pos ht]; exact h
       ·rename_i ht; rw [if_neg ht, if_neg ht]; exact h
      ·cases h
    ·cases h
   ·cases h
  ·exact loadR_ok h
  ·cases h
 | loadp n isAgg =>
  simp only [semR] at h; split at h
  ·exact loadR_ok h
  ·cases h
 | store n =>
  simp only [semR] at h; split at h
  ·simp only [semI]; split at h
   ·rename_i heq1 heq2; simp only [heq1, heq2]
    obtain ⟨h1, h⟩ := whenR_ok h; obtain ⟨h2, h⟩ := whenR_ok h; obtain ⟨h3, h⟩ := whenR_ok h
    split at h
    ·rename_i hrow
     obtain ⟨h4, h⟩ := whenR_ok h
     rw [boxF_eq] at h
     exact ⟨h1, h2, h3, _, hrow, h4, h⟩
    ·cases h
   ·cases h
  ·cases h
 | bin op =>
  simp only [semR] at h; split at h
  ·exact binR_ok h
  ·cases h
 | eqnil neq =>
  simp only [semR] at h; split at h
  ·exact h
  ·exact h
  ·cases h
 | un op =>
  simp only [semR] at h; split at h
  ·cases op <;> simp only [semI] <;> first | exact h | (cases h; done)
  ·cases op <;> simp only [semI, wrapR_eq] at h ⊢ <;> first | exact h | (cases h; done)
  ·cases h
 | conv k =>
  simp only [semR] at h; split at h
  ·rw [wrapR_eq] at h; exact h
  ·cases h
 | fad off =>
  simp only [semR] at h; split at h <;> first | exact h | (cases h; done)
 | fld off n isAgg =>
  simp only [semR] at h; split at h
  ·exact loadR_ok h
  ·cases h
 | iad size =>
  simp only [semR] at h; split at h
  ·obtain ⟨h1, h⟩ := whenR_ok h; obtain ⟨h2, h⟩ := whenR_ok h
   split at h
   ·exact ⟨h1, h2, _, by assumption, h⟩
   ·cases h
  ·obtain ⟨h1, h⟩ := whenR_ok h; obtain ⟨h2, h⟩ := whenR_ok h
   split at h
   ·exact ⟨h1, h2, _, by assumption, h⟩
   ·cases h
  ·obtain ⟨h1, h⟩ := whenR_ok h; obtain ⟨h2, h⟩ := whenR_ok h; obtain ⟨h3, h⟩ := whenR_ok h
   exact ⟨h1, h2, h3, h⟩
  ·cases h
 | sidx =>
  simp only [semR] at h; split at h
  ·obtain ⟨h1, h⟩ := whenR_ok h
   split at h
   ·exact ⟨h1, _, by assumption, h⟩
   ·cases h
  ·cases h
 | len =>
  simp only [semR] at h; split at h
  ·simp only [semI]; split at h
   ·rename_i heq; simp only [heq]; exact fun _ => h
   ·cases h
  ·cases h
 | lenD =>
  simp only [semR] at h; split at h
  ·simp only [semI]; split at h
   ·rename_i heq; simp only [heq]; exact h
   ·cases h
  ·cases h
 | slen =>
  simp only [semR] at h; split at h <;> first | exact h | (cases h; done)
 | app size bytes =>
  simp only [semR] at h; split at h
  ·simp only [semI]; split at h
   ·rename_i heq; simp only [heq]
    simp only [isEmpty_iff'] at h
    obtain ⟨h1, h⟩ := whenR_ok h; obtain ⟨h2, h⟩ := whenR_ok h; obtain ⟨h3, h⟩ := whenR_ok h; obtain ⟨h4, h⟩ := whenR_ok h
    exact ⟨h1, h2, h3, Nat.le_trans h4 maxLen_ge, h⟩
   ·cases h
  ·replace h := whenR_ok h
   obtain ⟨h0, h⟩ := h
   rw [List.isEmpty_iff] at h0
   subst h0
   simp only [semI]; split at h
   ·rename_i heq; simp only [heq]
    simp only [isEmpty_iff'] at h
    obtain ⟨h1, h⟩ := whenR_ok h; obtain ⟨h2, h⟩ := whenR_ok h; obtain ⟨h3, h⟩ := whenR_ok h; obtain ⟨h4, h⟩ := whenR_ok h
    exact ⟨h1, h2, h3, Nat.le_trans h4 maxLen_ge, h⟩
   ·cases h
  ·cases h
 | ext j =>
  simp only [semR] at h; split at h
  ·simp only [semI]; split at h <;> first | (cases h; done) | (rename_i heq; simp only [heq]; exact h)
  ·cases h
 | extp j =>
  simp only [semR] at h; split at h
  ·simp only [semI]; split at h <;> first | (cases h; done) | (rename_i heq; simp only [heq]; exact h)
  ·cases h
 | call f =>
  simp only [semR] at h; simp only [semI]; split at h
  ·rename_i heq; simp only [heq]
   split at h
   ·rename_i hcall; exact ⟨_, hc.call _ _ _ hcall, h⟩
   ·cases h
  ·cases h
 | callv =>
  simp only [semR] at h; split at h
  ·simp only [semI]; split at h
   ·rename_i heq1 heq2; simp only [heq1, heq2]
    split at h
    ·rename_i hcall; exact ⟨_, hc.call _ _ _ hcall, h⟩
    ·cases h
   ·cases h
  ·cases h
 | mkfn f =>
  simp only [semR] at h; simp only [semI]; split at h <;> first | (cases h; done) | (rename_i heq; simp only [heq]; exact h)
 | mksl k size bytes isAgg zero =>
  simp only [semR] at h; split at h
  ·obtain ⟨h1, h⟩ := whenR_ok h; obtain ⟨h2, h⟩ := whenR_ok h; obtain ⟨h3, h⟩ := whenR_ok h; obtain ⟨h4, h⟩ := whenR_ok h; obtain ⟨h5, h⟩ := whenR_ok h
   rw [boxF_eq] at h
   have := maxLen_ge
   exact ⟨h1, h2, h3, by omega, h5, h⟩
  ·cases h
 | slc size lo hi =>
  simp only [semR] at h; split at h
  ·simp only [isEmpty_iff'] at h
   obtain ⟨h1, h⟩ := whenR_ok h
   refine ⟨h1, ?_⟩
   split at h
   ·obtain ⟨h1, h⟩ := whenR_ok h; obtain ⟨h2, h⟩ := whenR_ok h; obtain ⟨h3, h⟩ := whenR_ok h; exact ⟨h1, h2, h3, h⟩
   ·obtain ⟨h1, h⟩ := whenR_ok h; obtain ⟨h2, h⟩ := whenR_ok h; exact ⟨h1, h2, h⟩
   ·obtain ⟨h1, h⟩ := whenR_ok h; obtain ⟨h2, h⟩ := whenR_ok h; exact ⟨h1, h2, h⟩
   ·cases h
  ·cases h
 | nilchk =>
  simp only [semR] at h; split at h <;> first | exact h | (cases h; done)
 | mn =>
  simp only [semR] at h; split at h
  ·exact whenR_ok h
  ·cases h
 | mx =>
  simp only [semR] at h; split at h
  ·exact whenR_ok h
  ·cases h
 | ssl lo hi =>
  simp only [semR] at h; split at h
  ·split at h
   ·obtain ⟨h1, h⟩ := whenR_ok h; obtain ⟨h2, h⟩ := whenR_ok h; obtain ⟨h3, h⟩ := whenR_ok h; exact ⟨h1, h2, h3, h⟩
   ·obtain ⟨h1, h⟩ := whenR_ok h; obtain ⟨h2, h⟩ := whenR_ok h; exact ⟨h1, h2, h⟩
   ·obtain ⟨h1, h⟩ := whenR_ok h; obtain ⟨h2, h⟩ := whenR_ok h; exact ⟨h1, h2, h⟩
   ·cases h
  ·cases h
 | slb k size =>
  simp only [semR] at h; split at h
  ·obtain ⟨h1, h⟩ := whenR_ok h; obtain ⟨h2, h⟩ := whenR_ok h; obtain ⟨h3, h⟩ := whenR_ok h; obtain ⟨h4, h⟩ := whenR_ok h; obtain ⟨h5, h⟩ := whenR_ok h
   simp only [semI]
   refine ⟨h1, h2, h3, h4, h5, ?_⟩
   split at h
   ·rename_i heq; simp only [heq]
    obtain ⟨h6, h⟩ := whenR_ok h
    rw [boxF_eq] at h
    exact ⟨h6, h⟩
   ·cases h
  ·cases h
 | callm f k =>
  simp only [semR] at h; simp only [semI]; split at h
  ·rename_i heq1 heq2; simp only [heq1, heq2]
   obtain ⟨h1, h⟩ := whenR_ok h; obtain ⟨h2, h⟩ := whenR_ok h
   refine ⟨h1, h2, ?_⟩
   split at h
   ·rename_i hcall
    rw [boxF_eq] at h
    exact ⟨_, _, hc.callM _ _ _ _ _ _ hcall, h⟩
   ·cases h
  ·cases h
 | stk => simp [semR] at h
 | eqat neq =>
  simp only [semR] at h; split at h
  ·exact h
  ·cases h
 | eqs n neq =>
  simp only [semR] at h; split at h
  ·obtain ⟨h1, h⟩ := whenR_ok h
   simp only [semI]
   refine ⟨h1, ?_⟩
   split at h
   ·rename_i heq; simp only [heq]; exact h
   ·cases h
  ·cases h
 | eqb neq =>
  simp only [semR] at h; split at h
  ·exact h
  ·cases h
 | mkz size bytes row =>
  simp only [semR] at h; split at h
  ·obtain ⟨h1, h⟩ := whenR_ok h; obtain ⟨h2, h⟩ := whenR_ok h; obtain ⟨h3, h⟩ := whenR_ok h; obtain ⟨h4, h⟩ := whenR_ok h; obtain ⟨h5, h⟩ := whenR_ok h
   have := maxLen_ge
   exact ⟨h1, h2, h3, by omega, h5, h⟩
  ·cases h
 | s2b =>
  simp only [semR] at h; split at h
  ·obtain ⟨h1, h⟩ := whenR_ok h; exact ⟨Nat.le_trans h1 maxLen_ge, h⟩
  ·cases h
 | mkmap k =>
  simp only [semR] at h; split at h
  ·exact h
  ·cases h
 | look q zero =>
  simp only [semR] at h; split at h
  ·obtain ⟨h1, h⟩ := whenR_ok h
   simp only [semI]
   refine ⟨h1, ?_⟩
   split at h
   ·rename_i heq; simp only [heq]
    split at h
    ·rename_i heq; simp only [heq]; exact h
    ·rename_i heq; simp only [heq]; exact h
    ·cases h
   ·cases h
  ·cases h
 | mupd q =>
  simp only [semR] at h; split at h
  ·obtain ⟨h1, h⟩ := whenR_ok h; obtain ⟨h2, h⟩ := whenR_ok h
   simp only [semI]
   refine ⟨h1, h2, ?_⟩
   split at h
   ·rename_i heq; simp only [heq]
    split at h
    ·rename_i heq; simp only [heq]; rw [boxF_eq] at h; exact h
    ·cases h
   ·cases h
  ·cases h
 | «at» k κ => simp [semR] at h
 | pl κ => simp [semR] at h
 | ob κ => exact semRO_ok hc h
def semRJ (E : Env) (κ : Kd) (vs : List DV) (b : List (Option Box)) (K : DV → List (Option Box) → Option R) : Option R :=
 match κ with
 | .at k κ' => match vs with
  | .addr k' _ _ _ :: _ => whenR (k' = k) (semR E κ' vs b K)
  | _ => none
 | .pl κ' => whenR ((pvsOf vs).isSome = true) (semR E κ' vs b K)
 | κ' => semR E κ' vs b K
theorem semRJ_ok {E : Env} (hc : E.OK P) {κ : Kd} {vs : List DV} {b : List (Option Box)} {K : DV → List (Option Box) → Option R} {r : R}
  (h : semRJ E κ vs b K = some r) : semJ P κ vs b fun v b' => K v b' = some r := by
 unfold semRJ at h
 split at h
 ·simp only [semJ]
  split at h
  ·obtain ⟨h1, h⟩ := whenR_ok h
   exact ⟨h1, semR_ok hc h⟩
  ·cases h
 ·obtain ⟨h1, h⟩ := whenR_ok h
  exact ⟨h1, semR_ok hc h⟩
 ·rename_i h1 h2
  unfold semJ
  split
  ·exact (h1 _ _ rfl).elim
  ·exact (h2 _ rfl).elim
  ·exact semR_ok hc h
def putF (t : List DV) (d : Option Nat) (v : DV) (K : List DV → Option R) : Option R :=
 match d with
 | some i => dvF v fun v => setF t i v K
 | none => K t
theorem putF_eq (t : List DV) (d : Option Nat) (v : DV) (K : List DV → Option R) : putF t d v K = K (putD t d v) := by
 cases d with
 | none => rfl
 | some i => simp only [putF, putD, dvF_eq, setF_eq]
def degF (κ : Kd) (xs : List O) (t : List DV) (K : List DV → Option R) : Option R :=
 match κ with
 | .mov true | .app _ _ | .store _ | .ext _ => listF (degr κ xs t) K
 | _ => K (degr κ xs t)
theorem degF_eq (κ : Kd) (xs : List O) (t : List DV) (K : List DV → Option R) : degF κ xs t K = K (degr κ xs t) := by
 unfold degF; split <;> simp only [listF_eq]
def exR (E : Env) (i : Ins) (s : St) (K : St → Option R) : Option R :=
 whenR (freshB i s = true) (semRJ E i.k (i.xs.map (O.val s.t)) s.b fun v b' => degF i.k.core i.xs s.t fun t => putF t i.d v fun t => listF b' fun b' => K ⟨t, b'⟩)
theorem exR_ok {E : Env} (hc : E.OK P) {i : Ins} {s : St} {K : St → Option R} {r : R} (h : exR E i s K = some r) : exec P i s fun s' => K s' = some r := by
 unfold exR at h
 simp only [degF_eq, putF_eq, listF_eq] at h
 obtain ⟨h1, h⟩ := whenR_ok h
 exact ⟨(freshB_eq i s).mp h1, semRJ_ok hc h⟩
def exGR (E : Env) (i : Ins) (s : St) (K : St → Option R) : Option R :=
 match i.g with
 | none => exR E i s K
 | some (j, want) => match getT s.t j with
  | .p (.bool c) => if c = want then setF s.t j (.p (.bool want)) fun t => exR E i ⟨t, s.b⟩ K else setF s.t j (.p (.bool (!want))) fun t => putF t i.d (.tup []) fun t => K ⟨t, s.b⟩
  | .tup [] => putF s.t i.d (.tup []) fun t => K ⟨t, s.b⟩
  | _ => none
theorem exGR_ok {E : Env} (hc : E.OK P) {i : Ins} {s : St} {K : St → Option R} {r : R} (h : exGR E i s K = some r) : execG P i s fun s' => K s' = some r := by
 unfold exGR at h
 unfold execG
 split at h
 ·rename_i hg; rw [hg]; exact exR_ok hc h
 ·rename_i j want hg
  rw [hg]
  simp only
  split at h
  ·rename_i c ht
   rw [ht]
   simp only [setF_eq, putF_eq] at h ⊢
   split at h
   ·rename_i e; exact ⟨fun _ => exR_ok hc h, fun e' => by subst e; cases c <;> cases e'⟩
   ·rename_i e; exact ⟨fun e' => absurd e' e, fun _ => h⟩
  ·rename_i ht
   rw [ht]
   simp only [putF_eq] at h ⊢
   exact h
  ·cases h
theorem execs_mono {is : List Ins} : ∀ {s : St} {A B : St → Prop}, (∀ s, A s → B s) → execs P is s A → execs P is s B := by
 induction is with
 | nil => exact fun hab h => hab _ h
 | cons i is ih => exact fun hab h => execG_mono (fun s hs => ih hab hs) h
def exsR (E : Env) : List Ins → St → (St → Option R) → Option R
 | [], s, K => K s
 | i :: is, s, K => exGR E i s fun s' => exsR E is s' K
theorem exsR_ok {E : Env} (hc : E.OK P) {is : List Ins} : ∀ {s : St} {K : St → Option R} {r : R}, exsR E is s K = some r → execs P is s fun s' => K s' = some r := by
 induction is with
 | nil => exact fun h => h
 | cons i is ih => exact fun h => execG_mono (fun s hs => ih hs) (exGR_ok hc h)
def forgetF : List DV → List Nat → (List DV → Option R) → Option R
 | t, [], K => K t
 | t, n :: ns, K => setF t n .top fun t => forgetF t ns K
theorem forgetF_eq (t : List DV) (ns : List Nat) (K : List DV → Option R) : forgetF t ns K = K (forget t ns) := by
 induction ns generalizing t with
 | nil => rfl
 | cons n ns ih => simp only [forgetF, forget, setF_eq, ih]
def dropF : List (Option Box) → List Nat → (List (Option Box) → Option R) → Option R
 | t, [], K => K t
 | t, n :: ns, K => setF t n none fun t => dropF t ns K
theorem dropF_eq (t : List (Option Box)) (ns : List Nat) (K : List (Option Box) → Option R) : dropF t ns K = K (dropB t ns) := by
 induction ns generalizing t with
 | nil => rfl
 | cons n ns ih => simp only [dropF, dropB, setF_eq, ih]
def fixR (b : List (Option Box)) (zs : List Nat) (K : List (Option Box) → Option R) : Option R :=
 match zs with
 | [] => K b
 | k :: ks => match getB b k with
  | some bx => whenR (allPR (copiesR bx.rows) = true) (boxF (some ⟨false, bx.size, copiesR bx.rows, bx.old⟩) fun x => fixR (setL b k x) ks K)
  | none => fixR b ks K
theorem fixR_ok {zs : List Nat} : ∀ {b : List (Option Box)} {K : List (Option Box) → Option R} {r : R}, fixR b zs K = some r → fixB b zs fun b => K b = some r := by
 induction zs with
 | nil => exact fun h => h
 | cons k ks ih =>
  intro b K r h
  simp only [fixR] at h
  simp only [fixB]
  split at h
  ·rename_i heq; simp only [heq]
   obtain ⟨h1, h⟩ := whenR_ok h
   rw [boxF_eq] at h
   exact ⟨h1, ih h⟩
  ·rename_i heq; simp only [heq]; exact ih h
theorem fixB_mono {zs : List Nat} : ∀ {b : List (Option Box)} {A B : List (Option Box) → Prop}, (∀ b, A b → B b) → fixB b zs A → fixB b zs B := by
 induction zs with
 | nil => exact fun hab h => hab _ h
 | cons k ks ih =>
  intro b A B hab h
  simp only [fixB] at h ⊢
  split at h
  ·exact ⟨h.1, ih hab h.2⟩
  ·exact ih hab h
def forgetS : Nat → List DV → List Nat → (List DV → Option R) → Option R
 | _, [], _, K => K []
 | _, d :: t, [], K => K (d :: t)
 | i, d :: t, f :: fs, K => if Nat.beq i f then forgetS (i + 1) t fs fun r => K (.top :: r) else forgetS (i + 1) t (f :: fs) fun r => K (d :: r)
def ascB : Nat → List Nat → Bool
 | _, [] => true
 | i, f :: fs => Nat.ble i f && ascB (f + 1) fs
def forgotten : Nat → List DV → List Nat → List DV
 | _, [], _ => []
 | _, d :: t, [] => d :: t
 | i, d :: t, f :: fs => if Nat.beq i f then .top :: forgotten (i + 1) t fs else d :: forgotten (i + 1) t (f :: fs)
theorem forgetS_eq (i : Nat) (t : List DV) (fs : List Nat) (K : List DV → Option R) : forgetS i t fs K = K (forgotten i t fs) := by
 induction t generalizing i fs K with
 | nil => simp [forgetS, forgotten]
 | cons d t ih => cases fs with
  | nil => rfl
  | cons f fs =>
   simp only [forgetS, forgotten]
   split <;> rw [ih]
theorem ascB_mem {fs : List Nat} : ∀ {i : Nat}, ascB i fs = true → ∀ f, f ∈ fs → i ≤ f := by
 induction fs with
 | nil => intro i _ f hf; simp at hf
 | cons g fs ih =>
  intro i h f hf
  simp only [ascB, Bool.and_eq_true, Nat.ble_eq] at h
  rcases List.mem_cons.1 hf with rfl | hf
  ·exact h.1
  ·have := ih h.2 f hf; omega
theorem forgotten_get : ∀ (t : List DV) (i : Nat) (fs : List Nat), ascB i fs = true → ∀ j : Nat, (forgotten i t fs)[j]? = if (i + j) ∈ fs then t[j]?.map (fun _ => DV.top) else t[j]? := by
 intro t
 induction t with
 | nil => intro i fs _ j; simp [forgotten]
 | cons d t ih =>
  intro i fs ha j
  cases fs with
  | nil => simp [forgotten]
  | cons f fs =>
   simp only [forgotten]
   have ha' := ha
   simp only [ascB, Bool.and_eq_true, Nat.ble_eq] at ha'
   split
   ·rename_i he
    have he := Nat.eq_of_beq_eq_true he
    subst he
    cases j with
    | zero => simp
    | succ j =>
     rw [List.getElem?_cons_succ, ih (i + 1) fs ha'.2 j, List.getElem?_cons_succ]
     have : i + 1 + j = i + (j + 1) := by omega
     rw [this]
     have hne : i + (j + 1) ≠ i := by omega
     simp [hne]
   ·rename_i he
    have he : i ≠ f := fun e => he (by rw [e]; exact Nat.beq_refl f)
    have ha2 : ascB (i + 1) (f :: fs) = true := by
     simp only [ascB, Bool.and_eq_true, Nat.ble_eq]
     exact ⟨by omega, ha'.2⟩
    cases j with
    | zero =>
     have : ¬ (i + 0) ∈ f :: fs := fun hm => by
      have := ascB_mem ha2 _ hm; omega
     rw [if_neg this]; rfl
    | succ j =>
     rw [List.getElem?_cons_succ, ih (i + 1) (f :: fs) ha2 j, List.getElem?_cons_succ]
     have : i + 1 + j = i + (j + 1) := by omega
     rw [this]
theorem forget_get : ∀ (fs : List Nat) (t : List DV) (j : Nat), (forget t fs)[j]? = if j ∈ fs then t[j]?.map (fun _ => DV.top) else t[j]? := by
 intro fs
 induction fs with
 | nil => intro t j; simp [forget]
 | cons f fs ih =>
  intro t j
  simp only [forget]
  rw [ih, getElem?_setL]
  by_cases h1 : j = f
  ·subst h1
   by_cases h2 : j ∈ fs
   ·simp [h2]; cases t[j]? <;> rfl
   ·simp [h2]
  ·by_cases h2 : j ∈ fs <;> simp [h1, h2]
theorem forgotten_eq {t : List DV} {fs : List Nat} (h : ascB 0 fs = true) : forgotten 0 t fs = forget t fs := by
 apply List.ext_getElem?
 intro j
 rw [forgotten_get t 0 fs h j, forget_get, Nat.zero_add]
def forgetQ (t : List DV) (fs : List Nat) (K : List DV → Option R) : Option R := if ascB 0 fs then forgetS 0 t fs K else forgetF t fs K
theorem forgetQ_eq (t : List DV) (fs : List Nat) (K : List DV → Option R) : forgetQ t fs K = K (forget t fs) := by
 unfold forgetQ
 split
 ·rename_i h; rw [forgetS_eq, forgotten_eq h]
 ·rw [forgetF_eq]
def iterR (f : St → (St → Option R) → Option R) : Nat → St → Option R
 | 0, _ => none
 | n + 1, s => f s (iterR f n)
def steB (s s' : St) : Bool := allB dvB s.t s'.t && allB boxB s.b s'.b
theorem steB_ok {s s' : St} (h : steB s s' = true) : s = s' := by
 simp only [steB, Bool.and_eq_true] at h
 cases s; cases s'
 simp only at h
 rw [allB_ok dvB_ok h.1, allB_ok boxB_ok h.2]
def anyLR (f : OpT → Option Unit) (rem : List OpT) : List OpT → Option Unit
 | [] => some ()
 | p :: ps => bif readyT rem p.2.2 then (match f p with
  | some _ => anyLR f rem ps
  | none => none) else anyLR f rem ps
def anyR (E : Env) : Nat → List OpT → St → (St → Option Unit) → Option Unit
 | 0, _, _, _ => none
 | n + 1, rem, s, K => match rem with
  | [] => K s
  | p :: rem' => anyLR (fun q => exGR E q.2.1 s fun s' => anyR E n (dropT q.1 (p :: rem')) s' K) (p :: rem') (p :: rem')
theorem anyR_ok {E : Env} (hc : E.OK P) {K : St → Option Unit} {A : St → Prop} (hK : ∀ s, K s = some () → A s) : ∀ {n : Nat} {rem : List OpT} {s : St}, anyR E n rem s K = some () → anyT P n rem s A := by
 intro n
 induction n with
 | zero => intro rem s h; cases h
 | succ n ih =>
  intro rem s h
  cases rem with
  | nil => rw [anyT]; exact hK _ h
  | cons p rem' =>
   rw [anyT]
   simp only [anyR] at h
   suffices ∀ ps, anyLR (fun q => exGR E q.2.1 s fun s' => anyR E n (dropT q.1 (p :: rem')) s' K) (p :: rem') ps = some () → anyS P n (p :: rem') ps s A from this _ h
   intro ps
   induction ps with
   | nil => intro _; rw [anyS]; trivial
   | cons q ps ihp =>
    intro h
    rw [anyS]
    simp only [anyLR] at h
    cases hr : readyT (p :: rem') q.2.2 with
    | false => rw [hr] at h; exact ⟨fun e => (by cases e), ihp h⟩
    | true =>
     rw [hr] at h
     simp only [cond_true] at h
     split at h
     ·rename_i u hu
      exact ⟨fun _ => execG_mono (fun s' hs' => ih hs') (exGR_ok hc hu), ihp h⟩
     ·cases h
def runC (E : Env) (fuel : Nat) : C → St → (St → Option R) → (Nat → St → Option R) → (St → Option R) → Option R
 | .stuck, _, _, _, _ => none
 | .skip, s, n, _, _ => n s
 | .reg ops, s, n, _, _ => exsR E ops s n
 | .regd ops, s, n, _, _ => exsR E ops s n
 | .rega ops, s, n, _, _ => whenR (invB ops s = true) (exsR E ops s n)
 | .regm ops, s, n, _, _ => whenR (invM ops s = true) (exsR E ops s n)
 | .seq a b, s, n, x, r => runC E fuel a s (fun s' => runC E fuel b s' n x r) x r
 | .cond c a b, s, n, x, r => match c, c.val s.t with
  | .t j, .p (.bool t) => if t then setF s.t j (.p (.bool true)) fun t => runC E fuel a ⟨t, s.b⟩ n x r else setF s.t j (.p (.bool false)) fun t => runC E fuel b ⟨t, s.b⟩ n x r
  | .c _, .p (.bool t) => if t then runC E fuel a s n x r else runC E fuel b s n x r
  | _, _ => none
 | .block id c, s, n, x, r => runC E fuel c s n (fun j s' => if j = id then n s' else x j s') r
 | .loop fs ds c, s, _, x, r => forgetQ s.t fs fun t => dropF s.b ds fun b => iterR (fun s' N => runC E fuel c s' (fun s2 => forgetQ s2.t fs fun t => dropF s2.b ds fun b => N ⟨t, b⟩) x r) fuel ⟨t, b⟩
 | .exit id, s, _, x, _ => x id s
 | .ret, s, _, _, r => r s
 | .gh _ _, _, _, _, _ => none
 | .gp c g, s, n, x, r => match g with
  | .lay _ _ => runC E fuel c s n x r
  | _ => none
 | .pre fs zs ds c, s, n, x, r => fixR s.b zs fun b => forgetQ s.t fs fun t => dropF b ds fun b => runC E fuel c ⟨t, b⟩ n x r
 | .own i k ag c, s, n, x, r => match getT s.t i with
  | .ow size _ rows => whenR ((decide (size ≠ 0) && (decide (k < s.b.length) && (noRefT k s.t && (noRefB k 0 s.b && (scalT i 0 s.t && scalB k 0 s.b))))) = true) (whenR (rows.isEmpty = false) (whenR (scalR (ownRows rows) = true)
    (natF rows.length fun m => setF s.t i (.bs k size ag 0 m) fun t => boxF (some ⟨true, size, ownRows rows, false⟩) fun bx => setF s.b k bx fun b => runC E fuel c ⟨t, b⟩ n x r)))
  | _ => none
 | .regx ops, s, n, _, _ => match exsR E (fsts ops) s some with
  | some s1 => match anyR E (ops.length + 1) (idxX 0 ops) s (fun s2 => bif steB s2 s1 then some () else none) with
   | some _ => n s1
   | none => none
  | none => none
theorem runC_ok {E : Env} (hc : E.OK P) {fuel : Nat} : ∀ {c : C} {s : St} {n : St → Option R} {x : Nat → St → Option R} {r : St → Option R} {d : R}
  {N : St → Prop} {Xp : Nat → St → Prop} {Rp : St → Prop}, (∀ s, n s = some d → N s) → (∀ j s, x j s = some d → Xp j s) → (∀ s, r s = some d → Rp s) →
  runC E fuel c s n x r = some d → vc P c s N Xp Rp := by
 intro c
 induction c with
 | stuck => exact fun _ _ _ h => by cases h
 | gh g c _ => exact fun _ _ _ h => by cases h
 | gp c g ih =>
  intro s n x r d N Xp Rp hn hx hr h
  cases g with
  | lay k m =>
   show vc P c s (fun s' => ghK P (.lay k m) s' N) Xp Rp
   exact ih (fun s hs => by show layK s k m N; rw [layK_eq]; exact hn s hs) hx hr h
  | _ => cases h
 | skip => exact fun hn _ _ h => hn _ h
 | reg ops => exact fun hn _ _ h => execs_mono hn (exsR_ok hc h)
 | regd ops => exact fun hn _ _ h => execs_mono hn (exsR_ok hc h)
 | rega ops =>
  intro s n x r d N Xp Rp hn _ _ h
  obtain ⟨h1, h⟩ := whenR_ok h
  exact ⟨h1, execs_mono hn (exsR_ok hc h)⟩
 | regm ops =>
  intro s n x r d N Xp Rp hn _ _ h
  obtain ⟨h1, h⟩ := whenR_ok h
  exact ⟨h1, execs_mono hn (exsR_ok hc h)⟩
 | seq a b iha ihb => exact fun hn hx hr h => iha (fun s hs => ihb hn hx hr hs) hx hr h
 | cond c a b iha ihb =>
  intro s n x r d N Xp Rp hn hx hr h
  cases c with
  | t j =>
   simp only [runC] at h
   simp only [vc]
   generalize (O.t j).val s.t = dv at *
   cases dv with
   | p z =>
    cases z with
    | bool t =>
     simp only [setF_eq] at h
     cases t with
     | true => exact ⟨fun _ => iha hn hx hr h, fun e => by cases e⟩
     | false => exact ⟨(fun e => by cases e), fun _ => ihb hn hx hr h⟩
    | _ => cases h
   | _ => cases h
  | c d0 =>
   simp only [runC] at h
   simp only [vc]
   generalize (O.c d0).val s.t = dv at *
   cases dv with
   | p z =>
    cases z with
    | bool t =>
     cases t with
     | true => exact ⟨fun _ => iha hn hx hr h, fun e => by cases e⟩
     | false => exact ⟨(fun e => by cases e), fun _ => ihb hn hx hr h⟩
    | _ => cases h
   | _ => cases h
 | block id c ih =>
  intro s n x r d N Xp Rp hn hx hr h
  refine ih hn (fun j s hs => ?_) hr h
  split at hs
  ·rename_i e; rw [if_pos e]; exact hn _ hs
  ·rename_i e; rw [if_neg e]; exact hx _ _ hs
 | loop fs ds c ih =>
  intro s n x r d N Xp Rp hn hx hr h
  simp only [runC, forgetQ_eq, dropF_eq] at h
  refine ⟨fuel, ?_⟩
  generalize (⟨forget s.t fs, dropB s.b ds⟩ : St) = s0 at *
  suffices ∀ k s0, iterR (fun s' N => runC E fuel c s' (fun s2 => N ⟨forget s2.t fs, dropB s2.b ds⟩) x r) k s0 = some d → iter (fun s' N => vc P c s' (fun s2 => N ⟨forget s2.t fs, dropB s2.b ds⟩) Xp Rp) k s0 from this fuel s0 h
  intro k
  induction k with
  | zero => exact fun s0 h => by cases h
  | succ k ihk => exact fun s0 h => ih (fun s hs => ihk _ hs) hx hr h
 | exit id => exact fun _ hx _ h => hx _ _ h
 | ret => exact fun _ _ hr h => hr _ h
 | pre fs zs ds c ih =>
  intro s n x r d N Xp Rp hn hx hr h
  simp only [runC, forgetQ_eq, dropF_eq] at h
  exact fixB_mono (fun b hb => ih hn hx hr hb) (fixR_ok h)
 | regx ops =>
  intro s n x r d N Xp Rp hn _ _ h
  simp only [runC] at h
  split at h
  ·rename_i s1 _
   split at h
   ·rename_i u hu
    refine anyR_ok hc (fun s2 hs2 => ?_) hu
    cases he : steB s2 s1 with
    | false => rw [he] at hs2; cases hs2
    | true => rw [steB_ok he]; exact hn _ h
   ·cases h
  ·cases h
 | own i k ag c ih =>
  intro s n x r d N Xp Rp hn hx hr h
  simp only [runC, natF_eq, setF_eq, boxF_eq] at h
  simp only [vc]
  split at h
  ·rename_i size nl rows hg
   obtain ⟨h1, h⟩ := whenR_ok h; obtain ⟨h2, h⟩ := whenR_ok h; obtain ⟨h3, h⟩ := whenR_ok h
   rw [hg]
   exact ⟨h1, (fun e => by subst e; cases h2), h3, ih hn hx hr h⟩
  ·cases h
def dvTR (b : List (Option Box)) (K : TV → Option R) : DV → Option R
 | .p x => K (.p x)
 | .ow size n rows => K (.ow size n rows)
 | d => match d.frz b with
  | some x => K (.p x)
  | none => none
def ret1R (s : St) (K : TV → Option R) : RV → Option R
 | .tmp t => dvTR s.b K (getT s.t t)
 | .cell t n => match getT s.t t with
  | .addr k sz r off => match getB s.b k with
   | some bx => whenR (sz = bx.size) (match bx.rows[r]? with
    | some row => whenR (off + n ≤ row.length) (match pvsOf (takeD row off n) with
     | some cs => K (.p (.agg cs))
     | none => none)
    | none => none)
   | none => none
  | _ => none
def retsR (s : St) : List RV → (List TV → Option R) → Option R
 | [], K => K []
 | r :: rs, K => ret1R s (fun x => retsR s rs fun xs => K (x :: xs)) r
theorem dvTR_ok {b : List (Option Box)} {K : TV → Option R} {v : DV} {d : R} {N : TV → Prop} (hn : ∀ x, K x = some d → N x) (h : dvTR b K v = some d) : dvT b N v := by
 have other : ∀ {v : DV}, (match v.frz b with | some x => K (.p x) | none => none) = some d → (match v.frz b with | some x => N (.p x) | none => False) := by
  intro v h
  split at h
  ·exact hn _ h
  ·cases h
 cases v with
 | p x => exact hn _ h
 | ow a b c => exact hn _ h
 | top => exact other (v := .top) h
 | tup ds => exact other (v := .tup ds) h
 | addr a1 a2 a3 a4 => exact other (v := .addr a1 a2 a3 a4) h
 | bs a1 a2 a3 a4 a5 => exact other (v := .bs a1 a2 a3 a4 a5) h
 | fn a1 a2 => exact other (v := .fn a1 a2) h
 | mh a1 => exact other (v := .mh a1) h
 | ob a1 => exact other (v := .ob a1) h
 | pk a1 => exact other (v := .pk a1) h
 | agd a1 => exact other (v := .agd a1) h
theorem ret1R_ok {s : St} {K : TV → Option R} {rv : RV} {d : R} {N : TV → Prop} (hn : ∀ x, K x = some d → N x) (h : ret1R s K rv = some d) : ret1 s N rv := by
 cases rv with
 | tmp t => exact dvTR_ok hn h
 | cell t n =>
  simp only [ret1R] at h
  simp only [ret1]
  split at h
  ·rename_i heq; simp only [heq]
   split at h
   ·rename_i heq; simp only [heq]
    obtain ⟨h1, h⟩ := whenR_ok h
    split at h
    ·rename_i hrow
     obtain ⟨h2, h⟩ := whenR_ok h
     refine ⟨h1, _, hrow, h2, ?_⟩
     split at h
     ·rename_i heq; simp only [heq]; exact hn _ h
     ·cases h
    ·cases h
   ·cases h
  ·cases h
theorem retsR_ok {s : St} {rvs : List RV} : ∀ {K : List TV → Option R} {d : R} {N : List TV → Prop}, (∀ x, K x = some d → N x) → retsR s rvs K = some d → rets s rvs N := by
 induction rvs with
 | nil => exact fun hn h => hn _ h
 | cons r rs ih => exact fun hn h => ret1R_ok (fun x hx => ih (fun xs hxs => hn _ hxs) hx) h
def plainR (v : Option DV) : Option DV := match v with
 | some v => if v.plain then some v else none
 | none => none
abbrev Tbl := List (Nat × Fn)
def Tbl.get : Tbl → Nat → Option Fn
 | [], _ => none
 | (k, F) :: l, f => if Nat.beq k f then some F else Tbl.get l f
theorem dvT_mono {b : List (Option Box)} {A B : TV → Prop} (hab : ∀ x, A x → B x) {d : DV} (h : dvT b A d) : dvT b B d := by
 unfold dvT at h ⊢
 split at h
 ·exact hab _ h
 ·exact hab _ h
 ·split at h
  ·exact hab _ h
  ·exact h
theorem ret1_mono {s : St} {A B : TV → Prop} (hab : ∀ x, A x → B x) {r : RV} (h : ret1 s A r) : ret1 s B r := by
 unfold ret1 at h ⊢
 split at h
 ·exact dvT_mono hab h
 ·split at h
  ·split at h
   ·obtain ⟨h1, row, h2, h3, h4⟩ := h
    refine ⟨h1, row, h2, h3, ?_⟩
    split at h4
    ·exact hab _ h4
    ·exact h4
   ·exact h
  ·exact h
theorem rets_mono {s : St} : ∀ {rs : List RV} {A B : List TV → Prop}, (∀ x, A x → B x) → rets s rs A → rets s rs B
 | [], _, _, hab, h => hab _ h
 | _ :: _, _, _, hab, h => ret1_mono (fun x hx => rets_mono (fun xs h => hab _ h) hx) h
theorem ret1_const {s : St} {A : Prop} {r : RV} (h : ret1 s (fun _ => A) r) : A := by
 unfold ret1 dvT at h
 split at h
 ·split at h
  ·exact h
  ·exact h
  ·split at h
   ·exact h
   ·exact h.elim
 ·split at h
  ·split at h
   ·obtain ⟨h1, row, h2, h3, h4⟩ := h
    split at h4
    ·exact h4
    ·exact h4.elim
   ·exact h.elim
  ·exact h.elim
theorem rets_const {s : St} {A : Prop} : ∀ {rs : List RV}, rets s rs (fun _ => A) → A
 | [], h => h
 | _ :: _, h => rets_const (ret1_const (ret1_mono (B := fun _ => rets s _ fun _ => A) (fun _ h => h) h))
def postMR (nb : Nat) (size : Nat) (rv : List RV) (s : St) : Option (List (List DV) × DV) :=
 match getB s.b nb with
 | some ⟨true, sz, rows, true⟩ => whenR (sz = size) (retsR s rv fun xs => dvF (resOf xs) fun v => some (rows, v))
 | _ => none
def plainRM (v : Option (List (List DV) × DV)) : Option (List (List DV) × DV) := match v with
 | some (rows, v) => if v.plain && allPR rows then some (rows, v) else none
 | none => none
def shBF (nb : Nat) : List Box → (List (Option Box) → Option R) → Option R
 | [], K => K []
 | bx :: l, K => handRsF (fun i => some (nb + i)) bx.rows fun rows => natF bx.size fun sz => shBF nb l fun l => K (some ⟨true, sz, rows, true⟩ :: l)
theorem shBF_eq (nb : Nat) (l : List Box) (K : List (Option Box) → Option R) : shBF nb l K = K (shB nb l) := by
 induction l generalizing K with
 | nil => rfl
 | cons x xs ih => simp only [shBF, shB, handRsF_eq, natF_eq]; rw [ih]
def stOF (n nb : Nat) (args : List DV) (bs : List Box) (K : St → Option R) : Option R :=
 handRF (fun i => some (nb + i)) args fun xs => listF (xs ++ List.replicate (n - args.length) .top) fun t => shBF nb bs fun l => listF (List.replicate nb none ++ l) fun b => K ⟨t, b⟩
theorem stOF_eq (n nb : Nat) (args : List DV) (bs : List Box) (K : St → Option R) : stOF n nb args bs K = K (StO n nb args bs) := by
 simp only [stOF, handRF_eq, listF_eq, shBF_eq, StO]
def retsOR (s : St) (rvs : List RV) (K : DV → Option R) : Option R :=
 match rvs with
 | [.tmp t] => if refR s.b (getT s.t t) = true then K (getT s.t t) else retsR s [.tmp t] fun xs => K (resOf xs)
 | rvs => retsR s rvs fun xs => K (resOf xs)
theorem retsOR_ok {s : St} {rvs : List RV} {K : DV → Option R} {d : R} {N : DV → Prop} (hn : ∀ x, K x = some d → N x) (h : retsOR s rvs K = some d) : retsO s rvs N := by
 have gen : ∀ {l : List RV}, (retsR s l fun xs => K (resOf xs)) = some d → rets s l fun xs => N (resOf xs) := fun h => retsR_ok (fun xs hx => hn _ hx) h
 match rvs, h with
 | [.tmp t], h =>
  simp only [retsOR] at h
  simp only [retsO]
  split at h
  ·rename_i hr; rw [if_pos hr]; exact hn _ h
  ·rename_i hr; rw [if_neg hr]; exact gen h
 | [], h => exact gen h
 | [.cell t n], h => exact gen h
 | .tmp _ :: _ :: _, h => exact gen h
 | .cell _ _ :: _ :: _, h => exact gen h
def finBsF (b : List (Option Box)) (nb m : Nat) (ν : Nat → Option Nat) : List Nat → (List (Option Box) → Option R) → Option R
 | [], K => K []
 | k :: ks, K => if aliveO b nb m k then match getR b k with
   | some bx => handRsF ν bx.rows fun rows => natF bx.size fun sz => finBsF b nb m ν ks fun l => K (some ⟨true, sz, rows, false⟩ :: l)
   | none => finBsF b nb m ν ks fun l => K (none :: l)
  else finBsF b nb m ν ks fun l => K (none :: l)
theorem finBsF_eq (b : List (Option Box)) (nb m : Nat) (ν : Nat → Option Nat) (l : List Nat) (K : List (Option Box) → Option R) : finBsF b nb m ν l K = K (finBs b nb m ν l) := by
 induction l generalizing K with
 | nil => rfl
 | cons x xs ih =>
  simp only [finBsF, finBs, finB]
  split
  ·split <;> (rename_i heq; simp only [heq, handRsF_eq, natF_eq]; rw [ih])
  ·rw [ih]
def finOF (b : List (Option Box)) (nb m : Nat) (r : DV) (K : List (Option Box) → DV → Option R) : Option R :=
 natsF (refsH b (rangeO nb m) (refsD r [])) fun ws => natsF (rangeO nb m) fun rs => reachF b 4000 ws rs fun all => finBsF b nb m (nuF b nb m all) all fun bs => resDF (nuF b nb m all) r fun r => K bs r
theorem finOF_eq (b : List (Option Box)) (nb m : Nat) (r : DV) (K : List (Option Box) → DV → Option R) : finOF b nb m r K = K (finO b nb m r).1 (finO b nb m r).2 := by
 simp only [finOF, natsF_eq, reachF_eq, finBsF_eq, resDF_eq, finO, allO]
def postOR (nb m : Nat) (rv : List RV) (s : St) : Option (List (Option Box) × DV) := retsOR s rv fun r0 => dvF r0 fun r0 => finOF s.b nb m r0 fun bs r => some (bs, r)
def plainRO (m : Nat) (v : Option (List (Option Box) × DV)) : Option (List (Option Box) × DV) := match v with
 | some (bs', r) => if (r.plain || r.isRef) && Nat.ble m bs'.length then some (bs', r) else none
 | none => none
def runE (ext : FuncId → List PV → Option DV) (extO : FuncId → List DV → List Box → Option (List (Option Box) × DV)) (tbl : Tbl) : Nat → Env
 | 0 => ⟨fun _ _ => none, fun _ _ _ _ => none, fun _ _ _ => none⟩
 | n + 1 =>
  ⟨fun f args => match tbl.get f with
   | some F => plainR (runC (runE ext extO tbl n) (n + 1) F.c (St0 F.n F.nb args) (fun s => retsR s F.rv fun xs => dvF (resOf xs) some) (fun _ _ => none) (fun s => retsR s F.rv fun xs => dvF (resOf xs) some))
   | none => ext f args,
   fun f size args rows => match tbl.get f with
   | some F => if (decide (size ≠ 0)) && (allPR rows && args.all DV.arg) then plainRM (runC (runE ext extO tbl n) (n + 1) F.c (St1 F.n F.nb args size rows) (postMR F.nb size F.rv) (fun _ _ => none) (postMR F.nb size F.rv)) else none
   | none => none,
   fun f args bs => match tbl.get f with
   | some F => if liveO bs then plainRO bs.length (stOF F.n F.nb args bs fun s => runC (runE ext extO tbl n) (n + 1) F.c s (postOR F.nb bs.length F.rv) (fun _ _ => none) (postOR F.nb bs.length F.rv)) else none
   | none => extO f args bs⟩
structure TblOK (P : Program) (tbl : Tbl) : Prop where
 all : ∀ f F, tbl.get f = some F → chkF P f F = true
theorem TblOK.nil : TblOK P [] := ⟨fun f F h => by cases h⟩
theorem TblOK.cons {k : Nat} {F : Fn} {l : Tbl} (h : chkF P k F = true) (hl : TblOK P l) : TblOK P ((k, F) :: l) := by
 refine ⟨fun f G hf => ?_⟩
 simp only [Tbl.get] at hf
 split at hf
 ·rename_i e
  have : k = f := Nat.eq_of_beq_eq_true e
  subst this
  injection hf with hf
  subst hf
  exact h
 ·exact hl.all f G hf
theorem runE_ok {ext : FuncId → List PV → Option DV} {extO : FuncId → List DV → List Box → Option (List (Option Box) × DV)} (he : ∀ f a d, ext f a = some d → PureCall P f a d) (heO : ∀ f a bs bs' d, extO f a bs = some (bs', d) → OCall P f a bs bs' d)
  {tbl : Tbl} (ht : TblOK P tbl) : ∀ {n : Nat}, (runE ext extO tbl n).OK P := by
 intro n
 induction n with
 | zero => exact ⟨(fun f a d h => by cases h), (fun f n a r r' d h => by cases h), (fun f a bs bs' d h => by cases h)⟩
 | succ n ih =>
  refine ⟨fun f args d h => ?_, fun f size args rows rows' d h => ?_, fun f args bs bs' d h => ?_⟩
  ·simp only [runE] at h
   split at h
   ·rename_i F hF
    unfold plainR at h
    split at h
    ·rename_i v hv
     split at h
     ·rename_i hp
      injection h with h
      subst h
      have hpost : ∀ s : St, (retsR s F.rv fun xs => dvF (resOf xs) some) = some v → F.post v s := fun s hs => retsR_ok (fun xs hx => by rw [dvF_eq] at hx; injection hx) hs
      exact Fn.pure (ht.all _ _ hF) hp (runC_ok ih hpost (fun _ _ h => by cases h) hpost hv)
     ·cases h
    ·cases h
   ·exact he _ _ _ h
  ·simp only [runE] at h
   split at h
   ·rename_i F hF
    split at h
    ·rename_i hpre
     simp only [Bool.and_eq_true, decide_eq_true_eq] at hpre
     unfold plainRM at h
     split at h
     ·rename_i rws v hv
      split at h
      ·rename_i hp
       simp only [Bool.and_eq_true] at hp
       injection h with h
       injection h with h1 h2
       subst h1; subst h2
       have hpost : ∀ s : St, postMR F.nb size F.rv s = some (rws, v) → F.postM size rws v s := fun s hs => by
        unfold postMR at hs
        split at hs
        ·rename_i sz rows0 hg
         obtain ⟨hsz, hs2⟩ := whenR_ok hs
         subst hsz
         have := retsR_ok (N := fun xs => rows0 = rws ∧ resOf xs = v) (fun xs hx => by
          rw [dvF_eq] at hx
          injection hx with hx
          injection hx with hx1 hx2
          exact ⟨hx1, hx2⟩) hs2
         refine ⟨?_, rets_mono (fun xs h => h.2) this⟩
         have e : rows0 = rws := rets_const (rets_mono (fun xs h => h.1) this)
         rw [hg, e]
        ·cases hs
       exact Fn.mcall (ht.all _ _ hF) hp.1 hpre.2.1 hp.2 hpre.2.2 hpre.1 (runC_ok ih hpost (fun _ _ h => by cases h) hpost hv)
      ·cases h
     ·cases h
    ·cases h
   ·cases h
  ·simp only [runE] at h
   split at h
   ·rename_i F hF
    split at h
    ·rename_i hlv
     unfold plainRO at h
     split at h
     ·rename_i bs2 r2 hv
      split at h
      ·rename_i hp
       simp only [Bool.and_eq_true] at hp
       injection h with h
       injection h with h1 h2
       subst h1; subst h2
       rw [stOF_eq] at hv
       have hpost : ∀ s : St, postOR F.nb bs.length F.rv s = some (bs2, r2) → F.postO bs.length bs2 r2 s := fun s hs => by
        unfold postOR at hs
        refine retsOR_ok (fun x hx => ?_) hs
        simp only [dvF_eq, finOF_eq, Option.some.injEq] at hx
        exact hx
       exact Fn.ocall (ht.all _ _ hF) hp.1 hlv hp.2 (runC_ok ih hpost (fun _ _ h => by cases h) hpost hv)
      ·cases h
     ·cases h
    ·cases h
   ·exact heO _ _ _ _ _ h
end Go.Proofs.YtnjphclbpgajpaaGreatDoor.Vc
namespace Go.Proofs.YtnjphclbpgajpaaGreatDoor
open Go.Shelf
def Tryz.lays156_ren : Go.Shelf.Ren := ⟨fun | 156 => 259 | 165 => 268 | 166 => 269 | 169 => 270 | 240 => 276 | 241 => 277 | 276 => 297 | 277 => 298 | n => n, fun | 31 => 315 | 9 => 9 | 3 => 3 | 4 => 4 | 0 => 0 | 20 => 20 | 72 => 328 | 76 => 331 | 70 => 325 | 37 => 326 | 75 => 330 | 127 => 338 | 164 => 352 | 5 => 5 | 80 => 333 | n => n, fun | n => n⟩
theorem Tryz.lays156 : Go.Proofs.Lays.n156 Tryz.prog Tryz.lays156_ren := {
 mixed := by kernel_rfl
 f156 := Tryz.func259.trans (congrArg some (by kernel_rfl))
 f165 := Tryz.func268.trans (congrArg some (by kernel_rfl))
 f166 := Tryz.func269.trans (congrArg some (by kernel_rfl))
 f169 := Tryz.func270.trans (congrArg some (by kernel_rfl))
 f240 := Tryz.func276.trans (congrArg some (by kernel_rfl))
 f241 := Tryz.func277.trans (congrArg some (by kernel_rfl))
 f276 := Tryz.func297.trans (congrArg some (by kernel_rfl))
 f277 := Tryz.func298.trans (congrArg some (by kernel_rfl))
 t0 := Tryz.underlying0
 a0 := Tryz.isAgg0
 z0 := Tryz.sizeOf0
 v0 := Tryz.zeroValue0
 t3 := Tryz.underlying3
 a3 := Tryz.isAgg3
 z3 := Tryz.sizeOf3
 v3 := Tryz.zeroValue3
 t4 := Tryz.underlying4
 a4 := Tryz.isAgg4
 z4 := Tryz.sizeOf4
 v4 := Tryz.zeroValue4
 t9 := Tryz.underlying9
 a9 := Tryz.isAgg9
 z9 := Tryz.sizeOf9
 v9 := Tryz.zeroValue9
 t20 := Tryz.underlying20
 a20 := Tryz.isAgg20
 z20 := Tryz.sizeOf20
 v20 := Tryz.zeroValue20
 t31 := Tryz.underlying315
 a31 := Tryz.isAgg315
 z31 := Tryz.sizeOf315
 v31 := Tryz.zeroValue315
 t37 := Tryz.underlying326
 a37 := Tryz.isAgg326
 z37 := Tryz.sizeOf326
 v37 := Tryz.zeroValue326
 t70 := Tryz.underlying325
 a70 := Tryz.isAgg325
 z70 := Tryz.sizeOf325
 v70 := Tryz.zeroValue325
 t72 := Tryz.underlying328
 a72 := Tryz.isAgg328
 z72 := Tryz.sizeOf328
 v72 := Tryz.zeroValue328
 t75 := Tryz.underlying330
 a75 := Tryz.isAgg330
 z75 := Tryz.sizeOf330
 v75 := Tryz.zeroValue330
 t76 := Tryz.underlying331
 a76 := Tryz.isAgg331
 z76 := Tryz.sizeOf331
 v76 := Tryz.zeroValue331
 t127 := Tryz.underlying338
 a127 := Tryz.isAgg338
 z127 := Tryz.sizeOf338
 v127 := Tryz.zeroValue338
 t164 := Tryz.underlying352
 a164 := Tryz.isAgg352
 z164 := Tryz.sizeOf352
 v164 := Tryz.zeroValue352 }
theorem Tryz.Builder_Extra_156 : Builder.Extra Tryz.prog Tryz.lays156_ren := {
 sizeBuilder := by kernel_rfl
 liesBuilder := by kernel_rfl
 t5 := Tryz.underlying5
 a5 := Tryz.isAgg5
 z5 := Tryz.sizeOf5
 v5 := Tryz.zeroValue5
 infoByte := by kernel_rfl
 cellsByte := by kernel_rfl
 sizeByte := by kernel_rfl
 neB5 := by decide }
open Go.RowKit in
theorem Tryz.strings_Join_none (a : Option Addr) (c : Nat) (sep : ByteArray) (w : World) :
  Calls Tryz.prog 259 #[.slice a 0 c, .string sep] w fun e w' => e = .returned (.string ⟨#[]⟩) ∧ w' = w := Any.strings_Join_none Tryz.lays156 Tryz.Builder_Extra_156 a c sep w
open Go.RowKit in
theorem Tryz.strings_Join (bk o c : Nat) (xs : List ByteArray) (sep : ByteArray) (w : World) (hcells : ∀ (j : Nat) x, xs[j]? = some x → w.cell? ⟨bk, o + j, none⟩ = some (.string x)) (hbk : bk < w.heap.size) (hN : xs.length ≤ 140737488355328) (hcap : xs.length ≤ c) (hlen : (Lib.join (xs.map (·.data.toList)) sep.data.toList).length ≤ 140737488355328) :
  Calls Tryz.prog 259 #[.slice (some ⟨bk, o, none⟩) xs.length c, .string sep] w fun e w' => e = .returned (.string ⟨(Lib.join (xs.map (·.data.toList)) sep.data.toList).toArray⟩) ∧ Below w.heap.size w w' := Any.strings_Join Tryz.lays156 Tryz.Builder_Extra_156 bk o c xs sep w hcells hbk hN hcap hlen
end Go.Proofs.YtnjphclbpgajpaaGreatDoor
namespace Go.Proofs.YtnjphclbpgajpaaGreatDoor.Vc
open Go.RowKit
variable {P : Program}
theorem pure_native {f : FuncId} {args : List PV} {r : PV} {v : Value} {cs : Array Value} (hr : ∀ M w, Flat M w r v) (hcs : ∀ (M0 : Nat → Nat → Prop) (w : World) (cargs : Array Value), cargs.size = args.length →
  (∀ (j : Nat) x u, args[j]? = some x → cargs[j]? = some u → Flat M0 w x u) → cargs = cs) (h : ∀ w, (callFunc f cs).run P w = .ok (.value v) w) : PureCall P f args (.p r) := by
 refine ⟨rfl, fun M0 w cargs hs ha => .inr ⟨v, ⟨fun _ => none, fun _ => none, M0, w, fun _ => none⟩, ?_, hr _ _, fun _ _ _ => Iff.rfl, ⟨rfl, rfl, rfl, Nat.le_refl _, fun _ _ => rfl⟩⟩⟩
 rw [hcs M0 w cargs hs ha]
 exact h w
theorem arg_str {M : Nat → Nat → Prop} {w : World} {s : ByteArray} {v : Value} (h : Flat M w (.str s) v) : v = .string s := by cases h; rfl
theorem arg_int {M : Nat → Nat → Prop} {w : World} {k : IntKind} {n : Int} {v : Value} (h : Flat M w (.int k n) v) : v = .int k n := by cases h; rfl
theorem args_str_int {s : ByteArray} {k : IntKind} {n : Int} (M0 : Nat → Nat → Prop) (w : World) (cargs : Array Value) (hs : cargs.size = [PV.str s, PV.int k n].length)
  (ha : ∀ (j : Nat) x u, [PV.str s, PV.int k n][j]? = some x → cargs[j]? = some u → Flat M0 w x u) : cargs = #[.string s, .int k n] := by
 obtain ⟨l⟩ := cargs
 match l, hs with
 | [a, b], _ =>
  have h0 := arg_str (ha 0 _ a rfl rfl)
  have h1 := arg_int (ha 1 _ b rfl rfl)
  rw [h0, h1]
theorem pure225 (s : ByteArray) (c : Int) : PureCall Tryz.prog 324 [.str s, .int .u8 c] (.p (.int .i64 (Lib.indexByte s.data.toList c.toNat.toUInt8))) := by
 refine pure_native (fun _ _ => .int _ _) args_str_int fun w => ?_
 rw [run_callFunc_extern Tryz.func324 (by decide) rfl rfl (e := Extern.BytealgIndexByte.indexByte) rfl]
 rw [Lib.run_indexByteString]
 rfl
theorem pure200 (s : ByteArray) (c : Int) : PureCall Tryz.prog 301 [.str s, .int .u8 c] (.p (.int .i64 (Lib.countByte s.data.toList c.toNat.toUInt8))) := by
 refine pure_native (fun _ _ => .int _ _) args_str_int fun w => ?_
 rw [run_callFunc_extern Tryz.func301 (by decide) rfl rfl (e := Extern.BytealgCount.count) rfl]
 rw [Lib.run_countString]
 rfl
theorem pure210 (x y c : Int) (hx : 0 ≤ x) (hy : 0 ≤ y) (hc0 : 0 ≤ c) (hc : c ≤ 1) : PureCall Tryz.prog 243 [.int .u64 x, .int .u64 y, .int .u64 c]
  (.tup [.p (.int .u64 ((x + y + c) % 18446744073709551616)), .p (.int .u64 ((x + y + c) / 18446744073709551616))]) := by
 refine ⟨rfl, fun M0 w cargs hs ha => .inr ⟨.tuple #[.int .u64 ((x + y + c) % 18446744073709551616), .int .u64 ((x + y + c) / 18446744073709551616)],
  ⟨fun _ => none, fun _ => none, M0, w, fun _ => none⟩, ?_, ⟨_, rfl, rfl, ?_⟩, fun _ _ _ => Iff.rfl, ⟨rfl, rfl, rfl, Nat.le_refl _, fun _ _ => rfl⟩⟩⟩
 ·obtain ⟨l⟩ := cargs
  match l, hs with
  | [p, q, r], _ =>
   have h0 := arg_int (ha 0 _ p rfl rfl)
   have h1 := arg_int (ha 1 _ q rfl rfl)
   have h2 := arg_int (ha 2 _ r rfl rfl)
   rw [h0, h1, h2]
   rw [run_callFunc_extern Tryz.func243 (by decide) rfl rfl (e := add64Entry) rfl]
   have := run_add64 (P := Tryz.prog) x y c hx hy hc0 hc w
   rw [this]
   rfl
 ·intro j d u hj hu
  match j with
  | 0 => cases hj; cases hu; exact .int _ _
  | 1 => cases hj; cases hu; exact .int _ _
  | j + 2 => simp at hj
def strsOf : List PV → Option (List ByteArray)
 | [] => some []
 | .str s :: l => match strsOf l with
  | some xs => some (s :: xs)
  | none => none
 | _ => none
theorem strsOf_map {l : List PV} : ∀ {xs : List ByteArray}, strsOf l = some xs → l = xs.map .str := by
 induction l with
 | nil => intro xs h; cases h; rfl
 | cons a l ih =>
  intro xs h
  unfold strsOf at h
  split at h
  ·rename_i heq; cases heq
  ·rename_i heq
   injection heq with e1 e2
   subst e1; subst e2
   split at h
   ·rename_i hx; injection h with h; subst h; rw [ih hx]; rfl
   ·cases h
  ·cases h
theorem pure148 (size : Nat) (nl : Bool) (xs : List ByteArray) (sep : ByteArray) (hN : xs.length ≤ 140737488355328)
  (hlen : (Lib.join (xs.map (·.data.toList)) sep.data.toList).length ≤ 140737488355328) (hsz : size = 1) :
  PureCall Tryz.prog 259 [.sl size nl (xs.map .str), .str sep] (.p (.str ⟨(Lib.join (xs.map (·.data.toList)) sep.data.toList).toArray⟩)) := by
 subst hsz
 refine ⟨rfl, fun M0 w cargs hs ha => .inl ⟨⟨_, Tryz.func259, rfl, by decide⟩, ?_⟩⟩
 obtain ⟨l⟩ := cargs
 match l, hs with
 | [a, b], _ =>
  have h0 := ha 0 _ a rfl rfl
  have h1 := arg_str (ha 1 _ b rfl rfl)
  subst h1
  cases xs with
  | nil =>
   have : ∃ ad c, a = .slice ad 0 c := by
    cases h0 with
    | nilsl => exact ⟨_, _, rfl⟩
    | sl0 => exact ⟨_, _, rfl⟩
    | sl => exact ⟨_, _, rfl⟩
   obtain ⟨ad, c, rfl⟩ := this
   refine (Tryz.strings_Join_none ad c sep w).mono fun e w' h => ?_
   obtain ⟨h1, h2⟩ := h
   subst h2
   exact ⟨_, ⟨fun _ => none, fun _ => none, M0, w', fun _ => none⟩, h1, rfl, .str _, fun _ _ _ => Iff.rfl, ⟨rfl, rfl, rfl, Nat.le_refl _, fun _ _ => rfl⟩⟩
  | cons x0 xs =>
   cases h0 with
   | sl _ _ bk off cap cv hcap hmax hc hrs h1 hr =>
    have hcell : ∀ (j : Nat) x, (x0 :: xs)[j]? = some x → w.cell? ⟨bk, off + j, none⟩ = some (.string x) := by
     intro j x hj
     have hjl : j < (x0 :: xs).length := (List.getElem?_eq_some_iff.1 hj).1
     have hf := hr j 0 (.str x) (.str x) (by rw [List.getElem?_map, hj]; rfl) rfl
     have := (hc j (by simp only [List.length_map, Nat.mul_one]; exact hjl)).1
     rw [this]
     simp only [Nat.mul_one, Nat.add_zero] at hf
     rw [arg_str hf]
    have hbk : bk < w.heap.size := by
     have := hcell 0 x0 rfl
     unfold World.cell? at this
     by_cases hb : bk < w.heap.size
     ·exact hb
     ·have e : w.heap[bk]? = none := Array.getElem?_eq_none (by omega)
      simp [e] at this
    have hcap' : (x0 :: xs).length ≤ cap := by simpa using hcap
    have hlm : ((x0 :: xs).map PV.str).length = (x0 :: xs).length := List.length_map _
    rw [hlm]
    refine (Tryz.strings_Join bk off cap (x0 :: xs) sep w hcell hbk hN hcap' hlen).mono fun e w' h => ?_
    obtain ⟨h1, h2⟩ := h
    exact ⟨_, ⟨fun _ => none, fun _ => none, M0, w', fun _ => none⟩, h1, rfl, .str _, fun _ _ _ => Iff.rfl, h2⟩
def extE (f : FuncId) (args : List PV) : Option DV :=
 match args with
 | [.str s, .int .u8 c] => if Nat.beq f 324 then some (.p (.int .i64 (Lib.indexByte s.data.toList c.toNat.toUInt8)))
  else if Nat.beq f 301 then some (.p (.int .i64 (Lib.countByte s.data.toList c.toNat.toUInt8))) else none
 | [.int .u64 x, .int .u64 y, .int .u64 c] => if Nat.beq f 243 && (decide (0 ≤ x) && (decide (0 ≤ y) && (decide (0 ≤ c) && decide (c ≤ 1)))) then
  some (.tup [.p (.int .u64 ((x + y + c) % 18446744073709551616)), .p (.int .u64 ((x + y + c) / 18446744073709551616))]) else none
 | [.sl size _ rows, .str sep] => if Nat.beq f 259 then match strsOf rows with
  | some xs => if Nat.beq size 1 && (Nat.ble xs.length 1000 && Nat.ble (Lib.join (xs.map (·.data.toList)) sep.data.toList).length 100000) then some (.p (.str ⟨(Lib.join (xs.map (·.data.toList)) sep.data.toList).toArray⟩)) else none
  | none => none
  else none
 | _ => none
theorem extE_ok (f : FuncId) (args : List PV) (d : DV) (h : extE f args = some d) : PureCall Tryz.prog f args d := by
 unfold extE at h
 split at h
 ·split at h
  ·rename_i e
   have := Nat.eq_of_beq_eq_true e
   subst this
   injection h with h; subst h
   exact pure225 _ _
  ·split at h
   ·rename_i e
    have := Nat.eq_of_beq_eq_true e
    subst this
    injection h with h; subst h
    exact pure200 _ _
   ·cases h
 ·split at h
  ·rename_i e
   simp only [Bool.and_eq_true, decide_eq_true_eq] at e
   obtain ⟨e, h1, h2, h3, h4⟩ := e
   have := Nat.eq_of_beq_eq_true e
   subst this
   injection h with h; subst h
   exact pure210 _ _ _ h1 h2 h3 h4
  ·cases h
 ·split at h
  ·rename_i e
   have := Nat.eq_of_beq_eq_true e
   subst this
   split at h
   ·rename_i hx
    split at h
    ·rename_i hh
     simp only [Bool.and_eq_true, Nat.ble_eq] at hh
     injection h with h; subst h
     rw [strsOf_map hx]
     exact pure148 _ _ _ _ (by omega) (by omega) (Nat.eq_of_beq_eq_true hh.1)
    ·cases h
   ·cases h
  ·cases h
 ·cases h
end Go.Proofs.YtnjphclbpgajpaaGreatDoor.Vc
namespace Go.Proofs.YtnjphclbpgajpaaGreatDoor.Vc
open Go.RowKit Ma
def timeC (l : List Ld) : Nat → Int → Option (Int × Bool)
 | 0, _ => none
 | n + 1, t => if 20000 < t then some (0, false) else intF (asked l t) fun a => if a = t then some (t, true) else timeC l n a
theorem timeC_ok {l : List Ld} : ∀ {n : Nat} {t : Int} {r : Int × Bool}, Seek l t → timeC l n t = some r → timeV l = r := by
 intro n
 induction n with
 | zero => intro t r _ h; cases h
 | succ n ih =>
  intro t r hs h
  simp only [timeC, intF_eq] at h
  split at h
  ·rename_i ht
   injection h with h; subst h
   exact hs.never (by omega)
  ·rename_i ht
   split at h
   ·rename_i he
    injection h with h; subst h
    exact hs.found (by omega) he
   ·rename_i he
    exact ih (hs.next (by omega) he).1 h
def dueC (l : List Ld) : Nat → Bool
 | 0 => true
 | n + 1 => decide (dueL l ((n : Int) + 1) ≤ (n : Int) + 1) && dueC l n
theorem dueC_iff {l : List Ld} {n : Nat} : dueC l n = true ↔ ∀ t : Int, 1 ≤ t → t ≤ n → dueL l t ≤ t := by
 induction n with
 | zero => simp only [dueC, true_iff]; intro t h1 h2; omega
 | succ n ih =>
  simp only [dueC, Bool.and_eq_true, decide_eq_true_eq, ih]
  constructor
  ·rintro ⟨h1, h2⟩ t h3 h4
   by_cases e : t = (n : Int) + 1
   ·subst e; exact h1
   ·exact h2 t h3 (by omega)
  ·intro h
   exact ⟨h _ (by omega) (by omega), fun t h1 h2 => h t h1 (by omega)⟩
def fitsC (l : List Ld) (n : Nat) : Option Bool :=
 if mayL l = false then some false else if l.isEmpty then some true else match timeC l n 1 with
 | some (e, true) => some (dueC l e.toNat)
 | some (_, false) => some false
 | none => none
theorem fitsC_ok {l : List Ld} {n : Nat} {b : Bool} (h : fitsC l n = some b) : fitsB l = b := by
 unfold fitsC at h
 split at h
 ·rename_i hm
  injection h with h; subst h
  rw [fitsB_false]; intro hf; rw [hf.1] at hm; cases hm
 ·rename_i hm
  have hm : mayL l = true := by simpa using hm
  split at h
  ·rename_i he
   injection h with h; subst h
   exact fitsB_iff.2 ⟨hm, .inl (List.isEmpty_iff.1 he)⟩
  ·rename_i he
   have hn : l ≠ [] := fun e => he (by rw [e]; rfl)
   split at h
   ·rename_i e heq
    injection h with h; subst h
    have ht := timeC_ok (Seek.start hm hn) heq
    have hb := (timeV_ok (by rw [ht])).2
    rcases hb with ⟨h0, _⟩ | ⟨_, hb⟩
    ·exact absurd h0 hn
    ·rw [ht] at hb
     have he1 := hb.lo
     rw [Bool.eq_iff_iff, fitsB_iff, dueC_iff]
     constructor
     ·rintro ⟨_, h0 | ⟨e2, hb2, hd⟩⟩
      ·exact absurd h0 hn
      ·have := hb2.uniq hb
       subst this
       intro t h1 h2
       exact hd t h1 (by simp only at h2 he1; omega)
     ·intro hd
      exact ⟨hm, .inr ⟨e, hb, fun t h1 h2 => hd t h1 (by simp only at he1; omega)⟩⟩
   ·rename_i e heq
    injection h with h; subst h
    have ht := timeC_ok (Seek.start hm hn) heq
    rw [fitsB_false]
    rintro ⟨_, h0 | ⟨e2, hb2, _⟩⟩
    ·exact hn h0
    ·rw [timeV_busy hm hn hb2] at ht
     cases ht
   ·cases h
def mostDownC (l : List Ld) (d t : Int) (f : Nat) : Nat → Option Int
 | 0 => some 0
 | n + 1 => match fitsC (l ++ [⟨(n + 1 : Int), d, t⟩]) f with
  | some true => some (n + 1 : Int)
  | some false => mostDownC l d t f n
  | none => none
theorem mostDownC_ok {l : List Ld} {d t : Int} {f : Nat} : ∀ {n : Nat} {r : Int}, mostDownC l d t f n = some r → mostDown l d t n = r := by
 intro n
 induction n with
 | zero => intro r h; injection h
 | succ n ih =>
  intro r h
  simp only [mostDownC] at h
  simp only [mostDown]
  split at h
  ·rename_i heq
   have hw : fitW l (n + 1 : Int) d t = true := fitsC_ok heq
   rw [if_pos hw]; injection h
  ·rename_i heq
   have hw : fitW l (n + 1 : Int) d t = false := fitsC_ok heq
   rw [if_neg (by rw [hw]; decide)]; exact ih h
  ·cases h
def mayC (l : List Ld) (d t : Int) (f : Nat) : Option Bool := match fitsC l f with
 | some b => some (decide (l.length ≤ 23) && (decide (1 ≤ d) && (decide (d ≤ t) && (decide (t ≤ 200) && b))))
 | none => none
def mostC (l : List Ld) (d t m : Int) (f : Nat) : Option Int := match mayC l d t f with
 | some true => mostDownC l d t f (min m d).toNat
 | some false => some 0
 | none => none
theorem mayC_ok {l : List Ld} {d t : Int} {f : Nat} {b : Bool} (h : mayC l d t f = some b) : mayM l d t = b := by
 unfold mayC at h
 split at h
 ·rename_i heq
  injection h with h
  subst h
  rw [← fitsC_ok heq]
  unfold mayM
  simp only [Bool.and_assoc]
 ·cases h
theorem mostC_ok {l : List Ld} {d t m : Int} {f : Nat} {r : Int} (h : mostC l d t m f = some r) : mostV l d t m = r := by
 unfold mostC at h
 unfold mostV
 split at h
 ·rename_i heq
  rw [if_pos (mayC_ok heq)]; exact mostDownC_ok h
 ·rename_i heq
  rw [if_neg (by rw [mayC_ok heq]; decide)]; injection h
 ·cases h
def tightUpC (l : List Ld) (t : Int) (f : Nat) : Nat → Int → Option Int
 | 0, c => some c
 | n + 1, c => match fitsC (l ++ [⟨c + 1, c + 1, t⟩]) f with
  | some true => intF (c + 1) fun c => tightUpC l t f n c
  | some false => some c
  | none => none
theorem tightUpC_ok {l : List Ld} {t : Int} {f : Nat} : ∀ {n : Nat} {c r : Int}, tightUpC l t f n c = some r → tightUp l t n c = r := by
 intro n
 induction n with
 | zero => intro c r h; injection h
 | succ n ih =>
  intro c r h
  simp only [tightUpC, intF_eq] at h
  simp only [tightUp]
  split at h
  ·rename_i heq
   have hw : fitW l (c + 1) (c + 1) t = true := fitsC_ok heq
   rw [if_pos hw]; exact ih h
  ·rename_i heq
   have hw : fitW l (c + 1) (c + 1) t = false := fitsC_ok heq
   rw [if_neg (by rw [hw]; decide)]; injection h
  ·cases h
def tightC (l : List Ld) (t m : Int) (f : Nat) : Option Int := match mayC l t t f with
 | some true => tightUpC l t f (min m t).toNat 0
 | some false => some 0
 | none => none
theorem tightC_ok {l : List Ld} {t m : Int} {f : Nat} {r : Int} (h : tightC l t m f = some r) : tightV l t m = r := by
 unfold tightC at h
 unfold tightV
 split at h
 ·rename_i heq
  rw [if_pos (mayC_ok heq)]; exact tightUpC_ok h
 ·rename_i heq
  rw [if_neg (by rw [mayC_ok heq]; decide)]; injection h
 ·cases h
def ldsOf : List PV → Option (List Ld)
 | [] => some []
 | .agg [.int .i64 c, .int .i64 d, .int .i64 t] :: l => match ldsOf l with
  | some xs => some (⟨c, d, t⟩ :: xs)
  | none => none
 | _ => none
theorem ldsOf_map {l : List PV} : ∀ {xs : List Ld}, ldsOf l = some xs → l = xs.map eL := by
 induction l with
 | nil => intro xs h; cases h; rfl
 | cons a l ih =>
  intro xs h
  unfold ldsOf at h
  split at h
  ·rename_i heq; cases heq
  ·rename_i heq
   injection heq with e1 e2
   subst e1; subst e2
   split at h
   ·rename_i hx; injection h with h; subst h; rw [ih hx]; rfl
   ·cases h
  ·cases h
def extF (f : FuncId) (args : List PV) : Option DV :=
 match args with
 | [.sl size nl rows] => if Nat.beq f 136 && Nat.beq size 3 then match ldsOf rows with
  | some l => match fitsC l 300 with
   | some b => some (.p (.bool b))
   | none => none
  | none => none
  else extE f args
 | [.sl size nl rows, .int .i64 d, .int .i64 t, .int .i64 m] => if Nat.beq f 130 && (Nat.beq size 3 && ((!nl || rows.isEmpty) && (Nat.ble rows.length 1000 && decide (-1000000 ≤ m)))) then match ldsOf rows with
  | some l => match mostC l d t m 300 with
   | some b => some (.p (.int .i64 b))
   | none => none
  | none => none
  else extE f args
 | [.sl size nl rows, .int .i64 t, .int .i64 m] => if Nat.beq f 135 && (Nat.beq size 3 && ((!nl || rows.isEmpty) && Nat.ble rows.length 1000)) then match ldsOf rows with
  | some l => match tightC l t m 300 with
   | some b => some (.p (.int .i64 b))
   | none => none
  | none => none
  else extE f args
 | _ => extE f args
theorem extF_ok (f : FuncId) (args : List PV) (d : DV) (h : extF f args = some d) : PureCall Tryz.prog f args d := by
 unfold extF at h
 split at h
 ·split at h
  ·rename_i e
   simp only [Bool.and_eq_true] at e
   have e1 := Nat.eq_of_beq_eq_true e.1
   have e2 := Nat.eq_of_beq_eq_true e.2
   subst e1; subst e2
   split at h
   ·rename_i hx
    split at h
    ·rename_i hb
     injection h with h; subst h
     rw [ldsOf_map hx, ← fitsC_ok hb]
     exact fits47 _ _
    ·cases h
   ·cases h
  ·exact extE_ok _ _ _ h
 ·split at h
  ·rename_i e
   simp only [Bool.and_eq_true, Bool.or_eq_true, Bool.not_eq_true', decide_eq_true_eq, Nat.ble_eq] at e
   obtain ⟨e1, e2, e3, e4, e5⟩ := e
   have e1 := Nat.eq_of_beq_eq_true e1
   have e2 := Nat.eq_of_beq_eq_true e2
   subst e1; subst e2
   split at h
   ·rename_i l hx
    split at h
    ·rename_i hb
     injection h with h; subst h
     have hr := ldsOf_map hx
     subst hr
     rw [← mostC_ok hb]
     refine fit72 _ l (fun hn => ?_) (by simpa using e4) _ _ _ e5
     rcases e3 with e3 | e3
     ·rw [hn] at e3; cases e3
     ·simpa using e3
    ·cases h
   ·cases h
  ·exact extE_ok _ _ _ h
 ·split at h
  ·rename_i e
   simp only [Bool.and_eq_true, Bool.or_eq_true, Bool.not_eq_true', Nat.ble_eq] at e
   obtain ⟨e1, e2, e3, e4⟩ := e
   have e1 := Nat.eq_of_beq_eq_true e1
   have e2 := Nat.eq_of_beq_eq_true e2
   subst e1; subst e2
   split at h
   ·rename_i l hx
    split at h
    ·rename_i hb
     injection h with h; subst h
     have hr := ldsOf_map hx
     subst hr
     rw [← tightC_ok hb]
     refine tight79 _ l (fun hn => ?_) (by simpa using e4) _ _
     rcases e3 with e3 | e3
     ·rw [hn] at e3; cases e3
     ·simpa using e3
    ·cases h
   ·cases h
  ·exact extE_ok _ _ _ h
 ·exact extE_ok _ _ _ h
end Go.Proofs.YtnjphclbpgajpaaGreatDoor.Vc
namespace Go.Proofs.YtnjphclbpgajpaaGreatDoor.Vc
open Go.RowKit
def tblB : Tbl := [(155, F155), (52, F52), (86, F86), (185, F185), (50, F50), (82, F82), (51, F51), (186, F186), (187, F187), (26, F26), (184, F184), (138, F138), (139, F139), (137, F137), (80, F80), (81, F81), (218, F218), (219, F219), (83, F83), (84, F84), (129, F129), (85, F85), (220, F220), (217, F217), (174, F174), (175, F175), (126, F126), (127, F127), (128, F128), (242, F242), (131, F131), (132, F132), (67, F67), (133, F133), (134, F134), (68, F68), (154, F154), (240, F240), (188, F188), (158, F158), (149, F149), (241, F241), (209, F209), (210, F210), (211, F211), (168, F168), (169, F169), (170, F170), (171, F171), (97, F97), (172, F172), (173, F173), (98, F98), (183, F183), (177, F177), (249, F249), (180, F180), (196, F196), (232, F232), (233, F233), (234, F234), (235, F235), (236, F236), (198, F198), (208, F208), (216, F216), (215, F215), (213, F213), (250, F250), (214, F214), (247, F247), (239, F239), (237, F237), (238, F238), (251, F251), (248, F248), (252, F252), (253, F253), (254, F254), (255, F255), (121, F121), (256, F256), (257, F257), (258, F258), (260, F260), (261, F261), (262, F262), (263, F263), (166, F166), (264, F264), (265, F265), (266, F266), (267, F267), (271, F271), (272, F272), (273, F273), (193, F193), (194, F194), (195, F195), (197, F197), (274, F274), (275, F275), (279, F279), (280, F280), (281, F281), (283, F283), (221, F221), (222, F222), (223, F223), (224, F224), (225, F225), (284, F284), (290, F290), (293, F293), (302, F302), (307, F307), (244, F244), (319, F319)]
theorem tblB_ok : TblOK Tryz.prog tblB := .cons k155 <| .cons k52 <| .cons k86 <| .cons k185 <| .cons k50 <| .cons k82 <| .cons k51 <| .cons k186 <| .cons k187 <| .cons k26 <| .cons k184 <| .cons k138 <| .cons k139 <| .cons k137 <| .cons k80 <| .cons k81 <| .cons k218 <| .cons k219 <| .cons k83 <| .cons k84 <| .cons k129 <| .cons k85 <| .cons k220 <| .cons k217 <| .cons k174 <| .cons k175 <| .cons k126 <| .cons k127 <| .cons k128 <| .cons k242 <| .cons k131 <| .cons k132 <| .cons k67 <| .cons k133 <| .cons k134 <| .cons k68 <| .cons k154 <| .cons k240 <| .cons k188 <| .cons k158 <| .cons k149 <| .cons k241 <| .cons k209 <| .cons k210 <| .cons k211 <| .cons k168 <| .cons k169 <| .cons k170 <| .cons k171 <| .cons k97 <| .cons k172 <| .cons k173 <| .cons k98 <| .cons k183 <| .cons k177 <| .cons k249 <| .cons k180 <| .cons k196 <| .cons k232 <| .cons k233 <| .cons k234 <| .cons k235 <| .cons k236 <| .cons k198 <| .cons k208 <| .cons k216 <| .cons k215 <| .cons k213 <| .cons k250 <| .cons k214 <| .cons k247 <| .cons k239 <| .cons k237 <| .cons k238 <| .cons k251 <| .cons k248 <| .cons k252 <| .cons k253 <| .cons k254 <| .cons k255 <| .cons k121 <| .cons k256 <| .cons k257 <| .cons k258 <| .cons k260 <| .cons k261 <| .cons k262 <| .cons k263 <| .cons k166 <| .cons k264 <| .cons k265 <| .cons k266 <| .cons k267 <| .cons k271 <| .cons k272 <| .cons k273 <| .cons k193 <| .cons k194 <| .cons k195 <| .cons k197 <| .cons k274 <| .cons k275 <| .cons k279 <| .cons k280 <| .cons k281 <| .cons k283 <| .cons k221 <| .cons k222 <| .cons k223 <| .cons k224 <| .cons k225 <| .cons k284 <| .cons k290 <| .cons k293 <| .cons k302 <| .cons k307 <| .cons k244 <| .cons k319 <| .nil
def noO : FuncId → List DV → List Box → Option (List (Option Box) × DV) := fun _ _ _ => none
theorem noO_ok {P : Program} (f : FuncId) (a : List DV) (bs : List Box) (bs' : List (Option Box)) (d : DV) (h : noO f a bs = some (bs', d)) : OCall P f a bs bs' d := by cases h
def envB (n : Nat) : Env := runE extF noO tblB n
theorem envB_ok (n : Nat) : (envB n).OK Tryz.prog := runE_ok extF_ok noO_ok tblB_ok
end Go.Proofs.YtnjphclbpgajpaaGreatDoor.Vc
