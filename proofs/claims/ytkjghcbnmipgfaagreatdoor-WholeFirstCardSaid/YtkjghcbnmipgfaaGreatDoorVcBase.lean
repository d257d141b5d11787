/- Plain data as the abstract side of Go values, and what it means that a machine's value holds such data. No condition. -/
import Derived.WalkKit
import Derived.WalkLawsBesides
import Derived.Below
namespace Go.Proofs.YtkjghcbnmipgfaaGreatDoor.Vc
open Go.RowKit

/-- Immutable data. -/
inductive PV where
  | int (k : IntKind) (n : Int)
  | bool (b : Bool)
  | str (s : ByteArray)
  | atom (v : Value)
  | agg (cs : List PV)
  | sl (size : Nat) (isNil : Bool) (rows : List PV)
  | fn (f : FuncId) (caps : List PV)
  | ptr (cells : List PV) (off : Nat)

instance : Inhabited PV := ⟨.bool false⟩

/-- The cells of a variable that holds it. -/
def rowCells : PV → List PV
  | .agg cs => cs
  | x => [x]

def PV.one : PV → Bool
  | .agg _ => false
  | _ => true

/-- The value 'v' holds the data, read in 'w' through cells outside 'M' alone. -/
inductive Flat (M : Nat → Nat → Prop) (w : World) : PV → Value → Prop
  | int (k : IntKind) (n : Int) : Flat M w (.int k n) (.int k n)
  | bool (b : Bool) : Flat M w (.bool b) (.bool b)
  | str (s : ByteArray) : Flat M w (.str s) (.string s)
  | atom (v : Value) (h : v.oneCell' = true) : Flat M w (.atom v) v
  | agg (cs : List PV) (vs : Array Value) (hl : vs.size = cs.length) (h1 : ∀ c, c ∈ cs → c.one = true)
      (h : ∀ (i : Nat) c v, cs[i]? = some c → vs[i]? = some v → Flat M w c v) : Flat M w (.agg cs) (.agg vs)
  | nilsl (size : Nat) : Flat M w (.sl size true []) (.slice none 0 0)
  | sl (size : Nat) (rows : List PV) (b off cap : Nat) (cv : Nat → Value) (hcap : rows.length ≤ cap) (hmax : cap ≤ maxLen)
      (hc : ∀ j, j < rows.length * size → w.cell? ⟨b, off + j, none⟩ = some (cv j) ∧ ¬ M b (off + j))
      (hs : ∀ row, row ∈ rows → (rowCells row).length = size)
      (h1 : ∀ row, row ∈ rows → ∀ c, c ∈ rowCells row → c.one = true)
      (hr : ∀ (i j : Nat) row c, rows[i]? = some row → (rowCells row)[j]? = some c → Flat M w c (cv (i * size + j))) :
      Flat M w (.sl size false rows) (.slice (some ⟨b, off, none⟩) rows.length cap)
  | sl0 (size : Nat) (a : Addr) : Flat M w (.sl size false []) (.slice (some a) 0 0)
  | fn (f : FuncId) (caps : List PV) (vs : Array Value) (hl : vs.size = caps.length)
      (h : ∀ (i : Nat) c v, caps[i]? = some c → vs[i]? = some v → Flat M w c v) : Flat M w (.fn f caps) (.func (.func f) #[] vs)
  | ptr (cells : List PV) (off b o : Nat) (cv : Nat → Value)
      (hc : ∀ j, j < cells.length → w.cell? ⟨b, o + j, none⟩ = some (cv j) ∧ ¬ M b (o + j))
      (h1 : ∀ c, c ∈ cells → c.one = true)
      (hr : ∀ (j : Nat) c, cells[j]? = some c → Flat M w c (cv j)) : Flat M w (.ptr cells off) (.pointer (some ⟨b, o + off, none⟩))

/-- What could be read outside M reads as it did, and stays outside. -/
def Keeps (M : Nat → Nat → Prop) (w : World) (M' : Nat → Nat → Prop) (w' : World) : Prop :=
  ∀ b o v, ¬ M b o → w.cell? ⟨b, o, none⟩ = some v → w'.cell? ⟨b, o, none⟩ = some v ∧ ¬ M' b o

theorem Keeps.refl (M : Nat → Nat → Prop) (w : World) : Keeps M w M w := fun _ _ _ h1 h2 => ⟨h2, h1⟩
theorem Keeps.trans {M M' M'' : Nat → Nat → Prop} {w w' w'' : World} (h : Keeps M w M' w') (k : Keeps M' w' M'' w'') : Keeps M w M'' w'' :=
  fun b o v h1 h2 => let ⟨a, c⟩ := h b o v h1 h2; k b o v c a

theorem Flat.mono {M M' : Nat → Nat → Prop} {w w' : World} (hk : Keeps M w M' w') {x : PV} {v : Value} (h : Flat M w x v) : Flat M' w' x v := by
  induction h with
  | int k n => exact .int k n
  | bool b => exact .bool b
  | str s => exact .str s
  | atom v h => exact .atom v h
  | agg cs vs hl h1 _ ih => exact .agg cs vs hl h1 ih
  | nilsl size => exact .nilsl size
  | sl0 size a => exact .sl0 size a
  | sl size rows b off cap cv hcap hmax hc hs h1 _ ih =>
    exact .sl size rows b off cap cv hcap hmax (fun j hj => hk _ _ _ (hc j hj).2 (hc j hj).1) hs h1 ih
  | fn f caps vs hl _ ih => exact .fn f caps vs hl ih
  | ptr cells off b o cv hc h1 _ ih => exact .ptr cells off b o cv (fun j hj => hk _ _ _ (hc j hj).2 (hc j hj).1) h1 ih

theorem Flat.oneCell {M : Nat → Nat → Prop} {w : World} {x : PV} {v : Value} (h : Flat M w x v) (hx : x.one = true) : v.oneCell' = true := by
  cases h <;> first | rfl | assumption | (simp [PV.one] at hx)

theorem cells_of_one {v : Value} (h : v.oneCell' = true) : v.cells = #[v] := by
  cases v <;> first | rfl | (simp [Value.oneCell'] at h)

theorem rowCells_of_one {x : PV} (h : x.one = true) : rowCells x = [x] := by
  cases x <;> first | rfl | (simp [PV.one] at h)

/-- The cells of a value that holds data hold the data's cells. -/
theorem Flat.cells {M : Nat → Nat → Prop} {w : World} {x : PV} {v : Value} (h : Flat M w x v) :
    v.cells.size = (rowCells x).length ∧ (∀ (i : Nat) c u, (rowCells x)[i]? = some c → v.cells[i]? = some u → Flat M w c u ∧ c.one = true) := by
  by_cases hx : x.one = true
  · rw [cells_of_one (h.oneCell hx), rowCells_of_one hx]
    refine ⟨rfl, fun i c u hc hu => ?_⟩
    cases i with
    | zero => simp at hc hu; subst hc; subst hu; exact ⟨h, hx⟩
    | succ i => simp at hc
  · cases h with
    | agg cs vs hl h1 h => exact ⟨hl, fun i c u hc hu => ⟨h i c u hc hu, h1 c (List.mem_of_getElem? hc)⟩⟩
    | _ => exact absurd (by first | rfl | assumption) hx

end Go.Proofs.YtkjghcbnmipgfaaGreatDoor.Vc
