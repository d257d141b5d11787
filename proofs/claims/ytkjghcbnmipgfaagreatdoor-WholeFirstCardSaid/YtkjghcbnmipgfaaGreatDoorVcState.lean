/- The abstract state of one running Go function (slots, boxes for its variables in memory) and what it says of the machine. No condition. -/
import Derived.Test.YtkjghcbnmipgfaaGreatDoorVcBase
namespace Go.Proofs.YtkjghcbnmipgfaaGreatDoor.Vc
open Go.RowKit

/-- A part of several results. -/
inductive TV where
  | p (x : PV)
  | ow (size : Nat) (isNil : Bool) (rows : List PV)

/-- What a closure has captured. -/
inductive CapV where
  | p (x : PV)
  | addr (k size r off : Nat)

/-- What a slot holds: nothing that is known, data, a slice whose array is its own, parts, the address of an own variable, a slice of an own variable, a closure. -/
inductive DV where
  | top
  | p (x : PV)
  | ow (size : Nat) (isNil : Bool) (rows : List PV)
  | tup (ds : List TV)
  | addr (k size r off : Nat)
  | bs (k size : Nat) (isAgg : Bool) (lo n : Nat)
  | fn (f : FuncId) (caps : List CapV)
  | mh (k : Nat)

instance : Inhabited DV := ⟨.top⟩

def TV.copy : TV → TV
  | .ow size n rows => .p (.sl size n rows)
  | x => x
def DV.copy : DV → DV
  | .ow size n rows => .p (.sl size n rows)
  | .tup ds => .tup (ds.map TV.copy)
  | x => x

/-- The own variable of number k is spoken of. -/
def DV.ment (k : Nat) : DV → Bool
  | .addr j _ _ _ | .bs j _ _ _ _ | .mh j => j == k
  | .fn _ caps => caps.any fun | .addr j _ _ _ => j == k | _ => false
  | _ => false

def DV.isP : DV → Bool
  | .p _ => true
  | _ => false

structure Box where
  live : Bool
  size : Nat
  rows : List (List DV)
  old : Bool

structure St where
  t : List DV
  b : List (Option Box)

def setL {α : Type} : List α → Nat → α → List α
  | [], _, _ => []
  | _ :: xs, 0, v => v :: xs
  | x :: xs, n + 1, v => x :: setL xs n v
def getT : List DV → Nat → DV
  | [], _ => .top
  | x :: _, 0 => x
  | _ :: xs, n + 1 => getT xs n
/-- A box that is no map. -/
def cellB : Option Box → Option Box
  | some bx => match bx.size with
    | 0 => none
    | _ + 1 => some bx
  | none => none
def mapB : Option Box → Option Box
  | some bx => match bx.size with
    | 0 => some bx
    | _ + 1 => none
  | none => none
def getM : List (Option Box) → Nat → Option Box
  | [], _ => none
  | x :: _, 0 => mapB x
  | _ :: xs, n + 1 => getM xs n
def getB : List (Option Box) → Nat → Option Box
  | [], _ => none
  | x :: _, 0 => cellB x
  | _ :: xs, n + 1 => getB xs n

theorem setL_length {α : Type} (l : List α) (n : Nat) (v : α) : (setL l n v).length = l.length := by
  induction l generalizing n with
  | nil => rfl
  | cons x xs ih => cases n <;> simp [setL, ih]
theorem getElem?_setL {α : Type} (l : List α) (n i : Nat) (v : α) : (setL l n v)[i]? = if i = n then l[i]?.map (fun _ => v) else l[i]? := by
  induction l generalizing n i with
  | nil => simp [setL]
  | cons x xs ih => cases n <;> cases i <;> simp [setL, ih]
theorem getT_eq (l : List DV) (n : Nat) : getT l n = (l[n]?).getD .top := by
  induction l generalizing n with
  | nil => simp [getT]
  | cons x xs ih => cases n <;> simp [getT, ih]
theorem cellB_some {x : Option Box} {bx : Box} (h : cellB x = some bx) : x = some bx ∧ bx.size ≠ 0 := by
  cases x with
  | none => cases h
  | some b =>
    simp only [cellB] at h
    split at h
    · cases h
    · rename_i e; injection h with h; subst h; exact ⟨rfl, by omega⟩
theorem mapB_some {x : Option Box} {bx : Box} (h : mapB x = some bx) : x = some bx ∧ bx.size = 0 := by
  cases x with
  | none => cases h
  | some b =>
    simp only [mapB] at h
    split at h
    · rename_i e; injection h with h; subst h; exact ⟨rfl, e⟩
    · cases h
theorem getB_eq (l : List (Option Box)) (n : Nat) : getB l n = cellB ((l[n]?).getD none) := by
  induction l generalizing n with
  | nil => simp [getB, cellB]
  | cons x xs ih => cases n <;> simp [getB, ih]
theorem getM_eq (l : List (Option Box)) (n : Nat) : getM l n = mapB ((l[n]?).getD none) := by
  induction l generalizing n with
  | nil => simp [getM, mapB]
  | cons x xs ih => cases n <;> simp [getM, ih]
/-- Who owns a block. -/
inductive Loc where
  | tmp (i : Nat)
  | cell (k r o : Nat)
  | box (k : Nat)
  | comp (L : Loc) (j : Nat)

structure Cx where
  ρ : Nat → Option Nat
  own : Nat → Option Loc
  M : Nat → Nat → Prop
  w : World
  ex : Nat → Option Nat

/-- A slice whose array belongs to the place L alone, up to its capacity. -/
def OwRel (X : Cx) (base : Nat) (L : Loc) (size : Nat) (isNil : Bool) (rows : List PV) (v : Value) : Prop :=
  (rows = [] ∧ ((isNil = true ∧ v = .slice none 0 0) ∨ (isNil = false ∧ ∃ b o, v = .slice (some ⟨b, o, none⟩) 0 0))) ∨
  (isNil = false ∧ ∃ g cap cur ty, v = .slice (some ⟨g, 0, none⟩) rows.length cap ∧ X.own g = some L ∧ base ≤ g ∧ X.w.heap[g]? = some (.cells cur ty (0, 0)) ∧
    cur.size = cap * size ∧ Flat X.M X.w (.sl size false rows) v ∧ ∀ o, rows.length * size ≤ o → X.M g o)

def CRel (X : Cx) : CapV → Value → Prop
  | .p x, v => Flat X.M X.w x v
  | .addr k size r off, v => ∃ blk, X.ρ k = some blk ∧ v = .pointer (some ⟨blk, r * size + off, none⟩)

def TRel (X : Cx) (base : Nat) (L : Loc) : TV → Value → Prop
  | .p x, v => Flat X.M X.w x v
  | .ow size n rows, v => OwRel X base L size n rows v

def VRel (X : Cx) (base : Nat) (L : Loc) : DV → Value → Prop
  | .top, _ => True
  | .p x, v => Flat X.M X.w x v
  | .ow size n rows, v => OwRel X base L size n rows v
  | .tup ds, v => ∃ vs : Array Value, v = .tuple vs ∧ vs.size = ds.length ∧ ∀ (j : Nat) d u, ds[j]? = some d → vs[j]? = some u → TRel X base (.comp L j) d u
  | .addr k size r off, v => ∃ blk, X.ρ k = some blk ∧ v = .pointer (some ⟨blk, r * size + off, none⟩)
  | .bs k size _ lo n, v => ∃ blk cap, X.ρ k = some blk ∧ n ≤ cap ∧ cap ≤ maxLen ∧ v = .slice (some ⟨blk, lo * size, none⟩) n cap
  | .fn f caps, v => ∃ vs : Array Value, v = .func (.func f) #[] vs ∧ vs.size = caps.length ∧ ∀ (j : Nat) c u, caps[j]? = some c → vs[j]? = some u → CRel X c u
  | .mh k, v => ∃ blk, X.ρ k = some blk ∧ v = .map (some blk)

structure BoxRel (X : Cx) (base k : Nat) (bx : Box) (blk : Nat) (cs : Array Value) (ty : TypeId) : Prop where
  ρ : X.ρ k = some blk
  own : X.own blk = some (.box k)
  hbase : (bx.old = false ∧ base ≤ blk) ∨ (bx.old = true ∧ X.ex k = some blk)
  heap : X.w.heap[blk]? = some (.cells cs ty (0, 0))
  size : bx.rows.length * bx.size ≤ cs.size
  width : ∀ row, row ∈ bx.rows → row.length = bx.size
  cells : ∀ (r o : Nat) row d u, bx.rows[r]? = some row → row[o]? = some d → cs[r * bx.size + o]? = some u → VRel X base (.cell k r o) d u ∧ u.oneCell' = true
  live : bx.live = true → ∀ o, X.M blk o
  fixed : bx.live = false → (∀ o, o < bx.rows.length * bx.size → ¬ X.M blk o) ∧ ∀ row, row ∈ bx.rows → ∀ d, d ∈ row → d.isP = true

/-- An own map: its rows are key and value, in the order in which they came. -/
def MapRel (X : Cx) (base k : Nat) (bx : Box) : Prop :=
  ∃ blk es clock, X.ρ k = some blk ∧ X.own blk = some (.box k) ∧ ((bx.old = false ∧ base ≤ blk) ∨ (bx.old = true ∧ X.ex k = some blk)) ∧ X.w.heap[blk]? = some (.map es clock) ∧ es.size = bx.rows.length ∧ (∀ o, X.M blk o) ∧
    ∀ (i : Nat) row e, bx.rows[i]? = some row → es[i]? = some e → ∃ q n x, row = [.p (.int q n), .p x] ∧ e.key = .int q n ∧ Flat X.M X.w x e.val
def BX (X : Cx) (base k : Nat) (bx : Box) : Prop :=
  if bx.size = 0 then MapRel X base k bx else ∃ blk cs ty, BoxRel X base k bx blk cs ty
theorem BX.cell {X : Cx} {base k : Nat} {bx : Box} {blk : Nat} {cs : Array Value} {ty : TypeId} (hne : bx.size ≠ 0) (h : BoxRel X base k bx blk cs ty) : BX X base k bx := by
  unfold BX; rw [if_neg hne]; exact ⟨_, _, _, h⟩

/-- Where the call began: the number of blocks, what its caller may write, the world. -/
structure Gl where
  base : Nat
  M0 : Nat → Nat → Prop
  w0 : World
  ex : Nat → Option Nat

/-- Nothing below B has turned but the blocks of ex. -/
structure BelowX (ex : Nat → Option Nat) (B : Nat) (w w' : World) : Prop where
  os : w'.os = w.os
  tape : w'.tape = w.tape
  output : w'.output = w.output
  size : w.heap.size ≤ w'.heap.size
  block : ∀ k, k < B → (∀ j, ex j ≠ some k) → w'.heap[k]? = w.heap[k]?
theorem BelowX.refl (ex : Nat → Option Nat) (B : Nat) (w : World) : BelowX ex B w w := ⟨rfl, rfl, rfl, Nat.le_refl _, fun _ _ _ => rfl⟩
theorem BelowX.trans {ex : Nat → Option Nat} {B : Nat} {a b c : World} (h : BelowX ex B a b) (k : BelowX ex B b c) : BelowX ex B a c :=
  ⟨k.os.trans h.os, k.tape.trans h.tape, k.output.trans h.output, Nat.le_trans h.size k.size, fun i hi hx => (k.block i hi hx).trans (h.block i hi hx)⟩
theorem BelowX.of {ex : Nat → Option Nat} {B : Nat} {a b : World} (h : Below B a b) : BelowX ex B a b := ⟨h.os, h.tape, h.output, h.size, fun i hi _ => h.block i hi⟩
theorem BelowX.below {ex : Nat → Option Nat} {B : Nat} {a b : World} (h : BelowX ex B a b) (hx : ∀ k, ex k = none) : Below B a b := ⟨h.os, h.tape, h.output, h.size, fun i hi => h.block i hi fun j e => by rw [hx j] at e; cases e⟩

structure Rel (G : Gl) (X : Cx) (s : St) (a : Act) : Prop where
  defers : a.defers = []
  size : a.tmps.size = s.t.length
  tmps : ∀ (i : Nat) d, s.t[i]? = some d → VRel X G.base (.tmp i) d (a.tmps.getD i undef)
  boxes : ∀ (k : Nat) bx, s.b[k]? = some (some bx) → BX X G.base k bx
  below : BelowX G.ex G.base G.w0 X.w
  hb : G.base ≤ X.w.heap.size
  mold : X.ex = G.ex ∧ ∀ b, b < G.base → (∀ j, G.ex j ≠ some b) → ∀ o, X.M b o ↔ G.M0 b o

theorem Rel.cbox {G : Gl} {X : Cx} {s : St} {a : Act} (h : Rel G X s a) {k : Nat} {bx : Box} (hb : s.b[k]? = some (some bx)) (hne : bx.size ≠ 0) : ∃ blk cs ty, BoxRel X G.base k bx blk cs ty := by
  have := h.boxes k bx hb
  unfold BX at this; rwa [if_neg hne] at this

/-- Of the places in S nothing has turned. -/
structure Ev (S : Loc → Prop) (X X' : Cx) : Prop where
  keeps : Keeps X.M X.w X'.M X'.w
  own : ∀ g L, X.own g = some L → S L → g < X.w.heap.size → X'.own g = some L ∧ X'.w.heap[g]? = X.w.heap[g]? ∧ ∀ o, X.M g o → X'.M g o
  ex : X'.ex = X.ex

theorem Ev.refl (S : Loc → Prop) (X : Cx) : Ev S X X := ⟨Keeps.refl _ _, fun _ _ h _ _ => ⟨h, rfl, fun _ h => h⟩, rfl⟩

theorem OwRel.mono {S : Loc → Prop} {X X' : Cx} (h : Ev S X X') {base : Nat} {L : Loc} (hS : S L) {size : Nat} {n : Bool} {rows : List PV} {v : Value}
    (hv : OwRel X base L size n rows v) : OwRel X' base L size n rows v := by
  rcases hv with hv | ⟨h0, g, cap, cur, ty, h1, h2, h3, h4, h5, h6, h7⟩
  · exact .inl hv
  · have hlt : g < X.w.heap.size := (Array.getElem?_eq_some_iff.1 h4).1
    obtain ⟨e1, e2, e3⟩ := h.own g L h2 hS hlt
    exact .inr ⟨h0, g, cap, cur, ty, h1, e1, h3, e2.trans h4, h5, h6.mono h.keeps, fun o ho => e3 o (h7 o ho)⟩

theorem CRel.mono {X X' : Cx} (hk : Keeps X.M X.w X'.M X'.w) {c : CapV} {v : Value} (hρ : ∀ k size r off, c = .addr k size r off → X'.ρ k = X.ρ k) (h : CRel X c v) : CRel X' c v := by
  cases c with
  | p x => exact Flat.mono hk h
  | addr k size r off => obtain ⟨blk, h1, h2⟩ := h; exact ⟨blk, (hρ k size r off rfl).trans h1, h2⟩

theorem TRel.mono {S : Loc → Prop} {X X' : Cx} (h : Ev S X X') {base : Nat} {L : Loc} (hS : S L) {d : TV} {v : Value} (hv : TRel X base L d v) : TRel X' base L d v := by
  cases d with
  | p x => exact Flat.mono h.keeps hv
  | ow size n rows => exact OwRel.mono h hS hv

theorem VRel.mono {S : Loc → Prop} (hc : ∀ L j, S L → S (.comp L j)) {X X' : Cx} (h : Ev S X X') {base : Nat} {L : Loc} (hS : S L) {d : DV} {v : Value}
    (hρ : ∀ k, d.ment k = true → X'.ρ k = X.ρ k) (hv : VRel X base L d v) : VRel X' base L d v := by
  cases d with
  | top => trivial
  | p x => exact Flat.mono h.keeps hv
  | ow size n rows => exact OwRel.mono h hS hv
  | tup ds =>
    obtain ⟨vs, h1, h2, h3⟩ := hv
    exact ⟨vs, h1, h2, fun j d u hd hu => TRel.mono h (hc L j hS) (h3 j d u hd hu)⟩
  | addr k size r off => obtain ⟨blk, h1, h2⟩ := hv; exact ⟨blk, (hρ k (by simp [DV.ment])).trans h1, h2⟩
  | bs k size _ lo n => obtain ⟨blk, cap, h1, h2⟩ := hv; exact ⟨blk, cap, (hρ k (by simp [DV.ment])).trans h1, h2⟩
  | mh k => obtain ⟨blk, h1, h2⟩ := hv; exact ⟨blk, (hρ k (by simp [DV.ment])).trans h1, h2⟩
  | fn f caps =>
    obtain ⟨vs, h1, h2, h3⟩ := hv
    refine ⟨vs, h1, h2, fun j c u hj hu => CRel.mono h.keeps (fun k size r off e => hρ k ?_) (h3 j c u hj hu)⟩
    subst e
    simp only [DV.ment, List.any_eq_true]
    exact ⟨_, List.mem_of_getElem? hj, by simp⟩

/-- What is owned may be read as data. -/
theorem OwRel.flat {X : Cx} {base : Nat} {L : Loc} {size : Nat} {n : Bool} {rows : List PV} {v : Value} (h : OwRel X base L size n rows v) : Flat X.M X.w (.sl size n rows) v := by
  rcases h with ⟨rfl, ⟨rfl, rfl⟩ | ⟨rfl, b, o, rfl⟩⟩ | ⟨rfl, g, cap, cur, ty, h1, h2, h3, h4, h5, h6, h7⟩
  · exact .nilsl _
  · exact .sl size [] b o 0 (fun _ => undef) (Nat.le_refl _) (Nat.zero_le _) (fun j hj => by simp at hj) (fun _ h => by simp at h) (fun _ h => by simp at h) (fun _ _ _ _ h => by simp at h)
  · exact h6
theorem TRel.copy {X : Cx} {base : Nat} {L : Loc} {d : TV} {v : Value} (h : TRel X base L d v) (L' : Loc) : TRel X base L' d.copy v := by
  cases d with
  | p x => exact h
  | ow size n rows => exact OwRel.flat h
theorem VRel.copy {X : Cx} {base : Nat} {L : Loc} {d : DV} {v : Value} (h : VRel X base L d v) (L' : Loc) : VRel X base L' d.copy v := by
  cases d with
  | ow size n rows => exact OwRel.flat h
  | tup ds =>
    obtain ⟨vs, h1, h2, h3⟩ := h
    refine ⟨vs, h1, by simp [h2], fun j d u hd hu => ?_⟩
    rw [List.getElem?_map] at hd
    cases hj : ds[j]? with
    | none => rw [hj] at hd; simp at hd
    | some d0 => rw [hj] at hd; simp at hd; subst hd; exact TRel.copy (h3 j d0 u hj hu) _
  | top => trivial
  | p x => exact h
  | addr k size r off => exact h
  | bs k size _ lo n => exact h
  | mh k => exact h
  | fn f caps => exact h

end Go.Proofs.YtkjghcbnmipgfaaGreatDoor.Vc
