/- Part of a proof over a Go program: VcBase, En, VcState, VcSem, VcPure, VcPure2. No condition. -/
import Derived.WalkKit
import Derived.WalkLawsBesides
import Derived.Below
import Derived.ProofKit
set_option linter.unnecessarySimpa false
set_option linter.unusedSectionVars false
set_option linter.unusedSimpArgs false
set_option linter.unusedVariables false
namespace Go.Proofs.YtnjphclbpgajpaaGreatDoor.Vc
open Go.RowKit
inductive PV where
 | int (k : IntKind) (n : Int)
 | bool (b : Bool)
 | str (s : ByteArray)
 | atom (v : Value)
 | agg (cs : List PV)
 | sl (size : Nat) (isNil : Bool) (rows : List PV)
 | fn (f : FuncId) (caps : List PV)
 | ptr (cells : List PV) (off : Nat)
instance : Inhabited PV := ⟨.bool false⟩
inductive Ob where
 | p (x : PV)
 | ptr (cells : List Ob)
 | sl (size : Nat) (isNil : Bool) (rows : List (List Ob))
 | mp (keys : List PV) (vals : List Ob)
 | ch (cap : Nat) (items : List PV)
instance : Inhabited Ob := ⟨.p default⟩
def rowCells : PV → List PV
 | .agg cs => cs
 | x => [x]
def keyV : PV → Value
 | .int q n => .int q n
 | .str s => .string s
 | _ => undef
def PV.one : PV → Bool
 | .agg _ => false
 | _ => true
inductive Flat (M : Nat → Nat → Prop) (w : World) : PV → Value → Prop
 | int (k : IntKind) (n : Int) : Flat M w (.int k n) (.int k n)
 | bool (b : Bool) : Flat M w (.bool b) (.bool b)
 | str (s : ByteArray) : Flat M w (.str s) (.string s)
 | atom (v : Value) (h : v.oneCell' = true) : Flat M w (.atom v) v
 | agg (cs : List PV) (vs : Array Value) (hl : vs.size = cs.length) (h1 : ∀ c, c ∈ cs → c.one = true)
   (h : ∀ (i : Nat) c v, cs[i]? = some c → vs[i]? = some v → Flat M w c v) : Flat M w (.agg cs) (.agg vs)
 | nilsl (size : Nat) : Flat M w (.sl size true []) (.slice none 0 0)
 | sl (size : Nat) (rows : List PV) (b off cap : Nat) (cv : Nat → Value) (hcap : rows.length ≤ cap) (hmax : cap ≤ maxLen)
   (hc : ∀ j, j < rows.length * size → w.cell? ⟨b, off + j, none⟩ = some (cv j) ∧ ¬ M b (off + j))
   (hs : ∀ row, row ∈ rows → (rowCells row).length = size)
   (h1 : ∀ row, row ∈ rows → ∀ c, c ∈ rowCells row → c.one = true)
   (hr : ∀ (i j : Nat) row c, rows[i]? = some row → (rowCells row)[j]? = some c → Flat M w c (cv (i * size + j))) :
   Flat M w (.sl size false rows) (.slice (some ⟨b, off, none⟩) rows.length cap)
 | sl0 (size : Nat) (a : Addr) : Flat M w (.sl size false []) (.slice (some a) 0 0)
 | fn (f : FuncId) (caps : List PV) (vs : Array Value) (hl : vs.size = caps.length)
   (h : ∀ (i : Nat) c v, caps[i]? = some c → vs[i]? = some v → Flat M w c v) : Flat M w (.fn f caps) (.func (.func f) #[] vs)
 | ptr (cells : List PV) (off b o : Nat) (cv : Nat → Value)
   (hc : ∀ j, j < cells.length → w.cell? ⟨b, o + j, none⟩ = some (cv j) ∧ ¬ M b (o + j))
   (h1 : ∀ c, c ∈ cells → c.one = true)
   (hr : ∀ (j : Nat) c, cells[j]? = some c → Flat M w c (cv j)) : Flat M w (.ptr cells off) (.pointer (some ⟨b, o + off, none⟩))
def Keeps (M : Nat → Nat → Prop) (w : World) (M' : Nat → Nat → Prop) (w' : World) : Prop :=
 ∀ b o v, ¬ M b o → w.cell? ⟨b, o, none⟩ = some v → w'.cell? ⟨b, o, none⟩ = some v ∧ ¬ M' b o
theorem Keeps.refl (M : Nat → Nat → Prop) (w : World) : Keeps M w M w := fun _ _ _ h1 h2 => ⟨h2, h1⟩
theorem Keeps.trans {M M' M'' : Nat → Nat → Prop} {w w' w'' : World} (h : Keeps M w M' w') (k : Keeps M' w' M'' w'') : Keeps M w M'' w'' :=
 fun b o v h1 h2 => let ⟨a, c⟩ := h b o v h1 h2; k b o v c a
theorem Flat.mono {M M' : Nat → Nat → Prop} {w w' : World} (hk : Keeps M w M' w') {x : PV} {v : Value} (h : Flat M w x v) : Flat M' w' x v := by
 induction h with
 | int k n => exact .int k n
 | bool b => exact .bool b
 | str s => exact .str s
 | atom v h => exact .atom v h
 | agg cs vs hl h1 _ ih => exact .agg cs vs hl h1 ih
 | nilsl size => exact .nilsl size
 | sl0 size a => exact .sl0 size a
 | sl size rows b off cap cv hcap hmax hc hs h1 _ ih =>
  exact .sl size rows b off cap cv hcap hmax (fun j hj => hk _ _ _ (hc j hj).2 (hc j hj).1) hs h1 ih
 | fn f caps vs hl _ ih => exact .fn f caps vs hl ih
 | ptr cells off b o cv hc h1 _ ih => exact .ptr cells off b o cv (fun j hj => hk _ _ _ (hc j hj).2 (hc j hj).1) h1 ih
theorem Flat.oneCell {M : Nat → Nat → Prop} {w : World} {x : PV} {v : Value} (h : Flat M w x v) (hx : x.one = true) : v.oneCell' = true := by
 cases h <;> first | rfl | assumption | (simp [PV.one] at hx)
theorem cells_of_one {v : Value} (h : v.oneCell' = true) : v.cells = #[v] := by
 cases v <;> first | rfl | (simp [Value.oneCell'] at h)
theorem rowCells_of_one {x : PV} (h : x.one = true) : rowCells x = [x] := by
 cases x <;> first | rfl | (simp [PV.one] at h)
theorem Flat.cells {M : Nat → Nat → Prop} {w : World} {x : PV} {v : Value} (h : Flat M w x v) :
  v.cells.size = (rowCells x).length ∧ (∀ (i : Nat) c u, (rowCells x)[i]? = some c → v.cells[i]? = some u → Flat M w c u ∧ c.one = true) := by
 by_cases hx : x.one = true
 ·rw [cells_of_one (h.oneCell hx), rowCells_of_one hx]
  refine ⟨rfl, fun i c u hc hu => ?_⟩
  cases i with
  | zero => simp at hc hu; subst hc; subst hu; exact ⟨h, hx⟩
  | succ i => simp at hc
 ·cases h with
  | agg cs vs hl h1 h => exact ⟨hl, fun i c u hc hu => ⟨h i c u hc hu, h1 c (List.mem_of_getElem? hc)⟩⟩
  | _ => exact absurd (by first | rfl | assumption) hx
end Go.Proofs.YtnjphclbpgajpaaGreatDoor.Vc
namespace Go.Proofs.YtnjphclbpgajpaaGreatDoor.Vc
open Go.RowKit
variable {P : Program}
abbrev M0 : Nat → Nat → Prop := fun _ _ => False
def isS (P : Program) (t : TypeId) : Bool := match P.underlying t with
 | some (.struct _) => true
 | _ => false
theorem pick {α : Type} [Inhabited α] {n : Nat} {p : Nat → α → Prop} (h : ∀ i, i < n → ∃ a, p i a) : ∃ f : Nat → α, ∀ i, i < n → p i (f i) := by
 classical
 refine ⟨fun i => if hi : i < n then Classical.choose (h i hi) else default, fun i hi => ?_⟩
 simp only [hi, dif_pos]
 exact Classical.choose_spec (h i hi)
section
variable {H : Type} {enc : TypeId × Value → H} {w : World} {sp : Nat → Bool} {hd : Bool}
end
end Go.Proofs.YtnjphclbpgajpaaGreatDoor.Vc
namespace Go.Proofs.YtnjphclbpgajpaaGreatDoor.Vc
open Go.RowKit
inductive TV where
 | p (x : PV)
 | ow (size : Nat) (isNil : Bool) (rows : List PV)
inductive CapV where
 | p (x : PV)
 | addr (k size r off : Nat)
inductive RfV where
 | p (x : PV)
 | addr (k size r off : Nat)
 | bs (k size : Nat) (isAgg : Bool) (lo n : Nat)
 | mh (k : Nat)
inductive DV where
 | top
 | p (x : PV)
 | ow (size : Nat) (isNil : Bool) (rows : List PV)
 | tup (ds : List TV)
 | addr (k size r off : Nat)
 | bs (k size : Nat) (isAgg : Bool) (lo n : Nat)
 | fn (f : FuncId) (caps : List CapV)
 | mh (k : Nat)
 | ob (T : Ob)
 | agd (cs : List RfV)
 | pk (o : Option Nat)
instance : Inhabited DV := ⟨.top⟩
def TV.copy : TV → TV
 | .ow size n rows => .p (.sl size n rows)
 | x => x
def peekV : Ob → DV
 | .sl _ _ rows => .pk (some rows.length)
 | .ptr _ => .pk none
 | _ => .top
def DV.copy : DV → DV
 | .ow size n rows => .p (.sl size n rows)
 | .tup ds => .tup (ds.map TV.copy)
 | .ob T => peekV T
 | x => x
def Ob.dv : Ob → DV
 | .p x => .p x
 | T => .ob T
def dvs : List Ob → List DV
 | [] => []
 | T :: l => T.dv :: dvs l
def dvss : List (List Ob) → List (List DV)
 | [] => []
 | r :: l => dvs r :: dvss l
def zipR : List PV → List Ob → List (List DV)
 | k :: ks, v :: vs => [.p k, v.dv] :: zipR ks vs
 | _, _ => []
def RfV.ment (k : Nat) : RfV → Bool
 | .addr j _ _ _ | .bs j _ _ _ _ | .mh j => j == k
 | _ => false
def RfV.dv : RfV → DV
 | .p x => .p x
 | .addr k sz r o => .addr k sz r o
 | .bs k sz ag lo n => .bs k sz ag lo n
 | .mh k => .mh k
def rfDs : List RfV → List DV
 | [] => []
 | c :: cs => c.dv :: rfDs cs
theorem rfDs_eq (l : List RfV) : rfDs l = l.map RfV.dv := by induction l with | nil => rfl | cons x xs ih => simp [rfDs, ih]
def DV.ment (k : Nat) : DV → Bool
 | .addr j _ _ _ | .bs j _ _ _ _ | .mh j => j == k
 | .fn _ caps => caps.any fun | .addr j _ _ _ => j == k | _ => false
 | .agd cs => cs.any (RfV.ment k)
 | _ => false
def DV.isP : DV → Bool
 | .p _ => true
 | _ => false
structure Box where
 live : Bool
 size : Nat
 rows : List (List DV)
 old : Bool
structure St where
 t : List DV
 b : List (Option Box)
def setL {α : Type} : List α → Nat → α → List α
 | [], _, _ => []
 | _ :: xs, 0, v => v :: xs
 | x :: xs, n + 1, v => x :: setL xs n v
def getT : List DV → Nat → DV
 | [], _ => .top
 | x :: _, 0 => x
 | _ :: xs, n + 1 => getT xs n
def cellB : Option Box → Option Box
 | some bx => match bx.size with
  | 0 => none
  | _ + 1 => some bx
 | none => none
def mapB : Option Box → Option Box
 | some bx => match bx.size with
  | 0 => some bx
  | _ + 1 => none
 | none => none
def getM : List (Option Box) → Nat → Option Box
 | [], _ => none
 | x :: _, 0 => mapB x
 | _ :: xs, n + 1 => getM xs n
def getB : List (Option Box) → Nat → Option Box
 | [], _ => none
 | x :: _, 0 => cellB x
 | _ :: xs, n + 1 => getB xs n
theorem setL_length {α : Type} (l : List α) (n : Nat) (v : α) : (setL l n v).length = l.length := by
 induction l generalizing n with
 | nil => rfl
 | cons x xs ih => cases n <;> simp [setL, ih]
theorem getElem?_setL {α : Type} (l : List α) (n i : Nat) (v : α) : (setL l n v)[i]? = if i = n then l[i]?.map (fun _ => v) else l[i]? := by
 induction l generalizing n i with
 | nil => simp [setL]
 | cons x xs ih => cases n <;> cases i <;> simp [setL, ih]
theorem getT_eq (l : List DV) (n : Nat) : getT l n = (l[n]?).getD .top := by
 induction l generalizing n with
 | nil => simp [getT]
 | cons x xs ih => cases n <;> simp [getT, ih]
theorem cellB_some {x : Option Box} {bx : Box} (h : cellB x = some bx) : x = some bx ∧ bx.size ≠ 0 := by
 cases x with
 | none => cases h
 | some b =>
  simp only [cellB] at h
  split at h
  ·cases h
  ·rename_i e; injection h with h; subst h; exact ⟨rfl, by omega⟩
theorem mapB_some {x : Option Box} {bx : Box} (h : mapB x = some bx) : x = some bx ∧ bx.size = 0 := by
 cases x with
 | none => cases h
 | some b =>
  simp only [mapB] at h
  split at h
  ·rename_i e; injection h with h; subst h; exact ⟨rfl, e⟩
  ·cases h
theorem getB_eq (l : List (Option Box)) (n : Nat) : getB l n = cellB ((l[n]?).getD none) := by
 induction l generalizing n with
 | nil => simp [getB, cellB]
 | cons x xs ih => cases n <;> simp [getB, ih]
theorem getM_eq (l : List (Option Box)) (n : Nat) : getM l n = mapB ((l[n]?).getD none) := by
 induction l generalizing n with
 | nil => simp [getM, mapB]
 | cons x xs ih => cases n <;> simp [getM, ih]
def BornOk (es : Array MapEntry) (clock : Nat) : Prop := (∀ x ∈ es.toList, x.born < clock) ∧ (es.toList.map (·.born)).Nodup
def third : Bool → MapEntry → List DV
 | true, e => [.p (.int .i64 e.born)]
 | false, _ => []
theorem born_nil : BornOk #[] 0 := ⟨by simp, by simp⟩
theorem born_push {es : Array MapEntry} {clock : Nat} (h : BornOk es clock) {key val : Value} : BornOk (es.push { key, val, born := clock }) (clock + 1) := by
 obtain ⟨h1, h2⟩ := h
 refine ⟨fun x hx => ?_, ?_⟩
 ·simp only [Array.toList_push, List.mem_append, List.mem_singleton] at hx
  rcases hx with hx | rfl
  ·exact Nat.lt_succ_of_lt (h1 x hx)
  ·exact Nat.lt_succ_self _
 ·simp only [Array.toList_push, List.map_append, List.map_cons, List.map_nil]
  refine List.nodup_append.2 ⟨h2, by simp, fun a ha b hb => ?_⟩
  simp only [List.mem_singleton] at hb
  subst hb
  obtain ⟨x, hx, rfl⟩ := List.mem_map.1 ha
  exact Nat.ne_of_lt (h1 x hx)
theorem born_modify {es : Array MapEntry} {clock : Nat} (h : BornOk es clock) (i : Nat) (f : MapEntry → MapEntry) (hf : ∀ e, (f e).born = e.born) : BornOk (es.modify i f) clock := by
 have hb : (es.modify i f).toList.map (·.born) = es.toList.map (·.born) := by
  apply List.ext_getElem?
  intro j
  simp only [List.getElem?_map, Array.getElem?_toList, Array.getElem?_modify]
  split
  ·cases es[j]? <;> simp [hf]
  ·rfl
 refine ⟨fun x hx => ?_, by rw [hb]; exact h.2⟩
 have hm : x.born ∈ es.toList.map (·.born) := by rw [← hb]; exact List.mem_map.2 ⟨x, hx, rfl⟩
 obtain ⟨y, hy, e⟩ := List.mem_map.1 hm
 rw [← e]; exact h.1 y hy
theorem born_erase {es : Array MapEntry} {clock : Nat} (h : BornOk es clock) (i : Nat) : BornOk (es.eraseIdxIfInBounds i) clock := by
 have hs : (es.eraseIdxIfInBounds i).toList.Sublist es.toList := by
  unfold Array.eraseIdxIfInBounds
  split
  ·simp only [Array.toList_eraseIdx]; exact List.eraseIdx_sublist _ _
  ·exact List.Sublist.refl _
 exact ⟨fun x hx => h.1 x (hs.subset hx), (hs.map _).nodup h.2⟩
inductive Loc where
 | tmp (i : Nat)
 | cell (k r o : Nat)
 | box (k : Nat)
 | comp (L : Loc) (j : Nat)
deriving DecidableEq
structure Cx where
 ρ : Nat → Option Nat
 own : Nat → Option Loc
 M : Nat → Nat → Prop
 w : World
 ex : Nat → Option Nat
def OwRel (X : Cx) (base : Nat) (L : Loc) (size : Nat) (isNil : Bool) (rows : List PV) (v : Value) : Prop :=
 (rows = [] ∧ ((isNil = true ∧ v = .slice none 0 0) ∨ (isNil = false ∧ ∃ b o, v = .slice (some ⟨b, o, none⟩) 0 0))) ∨
 (isNil = false ∧ ∃ g cap cur ty, v = .slice (some ⟨g, 0, none⟩) rows.length cap ∧ X.own g = some L ∧ base ≤ g ∧ X.w.heap[g]? = some (.cells cur ty (0, 0)) ∧
  cur.size = cap * size ∧ Flat X.M X.w (.sl size false rows) v ∧ ∀ o, rows.length * size ≤ o → X.M g o)
inductive ObRel (X : Cx) (base : Nat) : Loc → Ob → Value → Prop
 | p (L : Loc) (x : PV) (v : Value) (h : Flat X.M X.w x v) : ObRel X base L (.p x) v
 | ptr (L : Loc) (cells : List Ob) (g : Nat) (cs : Array Value) (ty : TypeId) (ho : X.own g = some L) (hb : base ≤ g ∨ ∃ j, X.ex j = some g) (hh : X.w.heap[g]? = some (.cells cs ty (0, 0))) (hM : ∀ o, X.M g o)
   (hs : cells.length ≤ cs.size) (h1 : ∀ (j : Nat) T u, cells[j]? = some T → cs[j]? = some u → u.oneCell' = true)
   (hc : ∀ (j : Nat) T u, cells[j]? = some T → cs[j]? = some u → ObRel X base (.comp L j) T u) : ObRel X base L (.ptr cells) (.pointer (some ⟨g, 0, none⟩))
 | nils (L : Loc) (size : Nat) : ObRel X base L (.sl size true []) (.slice none 0 0)
 | sl (L : Loc) (size : Nat) (rows : List (List Ob)) (g cap : Nat) (cs : Array Value) (ty : TypeId) (ho : X.own g = some L) (hb : base ≤ g ∨ ∃ j, X.ex j = some g) (hh : X.w.heap[g]? = some (.cells cs ty (0, 0))) (hM : ∀ o, X.M g o)
   (hl : rows.length ≤ cap) (hmax : cap ≤ maxLen) (hs : cap * size ≤ cs.size) (hw : ∀ row, row ∈ rows → row.length = size)
   (h1 : ∀ (r o : Nat) row T u, rows[r]? = some row → row[o]? = some T → cs[r * size + o]? = some u → u.oneCell' = true)
   (hc : ∀ (r o : Nat) row T u, rows[r]? = some row → row[o]? = some T → cs[r * size + o]? = some u → ObRel X base (.comp L (r * size + o)) T u) :
   ObRel X base L (.sl size false rows) (.slice (some ⟨g, 0, none⟩) rows.length cap)
 | mp (L : Loc) (keys : List PV) (vals : List Ob) (g : Nat) (es : Array MapEntry) (clock : Nat) (ho : X.own g = some L) (hb : base ≤ g ∨ ∃ j, X.ex j = some g) (hh : X.w.heap[g]? = some (.map es clock)) (hM : ∀ o, X.M g o)
   (hk : keys.length = es.size) (hv : vals.length = es.size) (hkey : ∀ (i : Nat) k e, keys[i]? = some k → es[i]? = some e → e.key = keyV k) (hbn : BornOk es clock)
   (hc : ∀ (i : Nat) T e, vals[i]? = some T → es[i]? = some e → ObRel X base (.comp L (i * 2 + 1)) T e.val) : ObRel X base L (.mp keys vals) (.map (some g))
 | ch (L : Loc) (items : List PV) (g cap sent got : Nat) (buf : Array Value) (ho : X.own g = some L) (hb : base ≤ g ∨ ∃ j, X.ex j = some g) (hh : X.w.heap[g]? = some (.chan cap buf false sent got false)) (hM : ∀ o, X.M g o)
   (hs : buf.size = items.length) (hc : ∀ (i : Nat) x u, items[i]? = some x → buf[i]? = some u → Flat X.M X.w x u) : ObRel X base L (.ch cap items) (.chan (some g))
def CRel (X : Cx) : CapV → Value → Prop
 | .p x, v => Flat X.M X.w x v
 | .addr k size r off, v => ∃ blk, X.ρ k = some blk ∧ v = .pointer (some ⟨blk, r * size + off, none⟩)
def TRel (X : Cx) (base : Nat) (L : Loc) : TV → Value → Prop
 | .p x, v => Flat X.M X.w x v
 | .ow size n rows, v => OwRel X base L size n rows v
def RRel (X : Cx) : RfV → Value → Prop
 | .p x, v => Flat X.M X.w x v
 | .addr k size r off, v => ∃ blk, X.ρ k = some blk ∧ v = .pointer (some ⟨blk, r * size + off, none⟩)
 | .bs k size _ lo n, v => ∃ blk cap, X.ρ k = some blk ∧ n ≤ cap ∧ cap ≤ maxLen ∧ (∃ cs ty, X.w.heap[blk]? = some (.cells cs ty (0, 0)) ∧ (lo + cap) * size ≤ cs.size) ∧ v = .slice (some ⟨blk, lo * size, none⟩) n cap
 | .mh k, v => ∃ blk, X.ρ k = some blk ∧ v = .map (some blk)
def VRel (X : Cx) (base : Nat) (L : Loc) : DV → Value → Prop
 | .top, _ => True
 | .p x, v => Flat X.M X.w x v
 | .ow size n rows, v => OwRel X base L size n rows v
 | .tup ds, v => ∃ vs : Array Value, v = .tuple vs ∧ vs.size = ds.length ∧ ∀ (j : Nat) d u, ds[j]? = some d → vs[j]? = some u → TRel X base (.comp L j) d u
 | .addr k size r off, v => ∃ blk, X.ρ k = some blk ∧ v = .pointer (some ⟨blk, r * size + off, none⟩)
 | .bs k size _ lo n, v => ∃ blk cap, X.ρ k = some blk ∧ n ≤ cap ∧ cap ≤ maxLen ∧ (∃ cs ty, X.w.heap[blk]? = some (.cells cs ty (0, 0)) ∧ (lo + cap) * size ≤ cs.size) ∧ v = .slice (some ⟨blk, lo * size, none⟩) n cap
 | .fn f caps, v => ∃ vs : Array Value, v = .func (.func f) #[] vs ∧ vs.size = caps.length ∧ ∀ (j : Nat) c u, caps[j]? = some c → vs[j]? = some u → CRel X c u
 | .mh k, v => ∃ blk, X.ρ k = some blk ∧ v = .map (some blk)
 | .ob T, v => ObRel X base L T v
 | .agd cs, v => ∃ vs : Array Value, v = .agg vs ∧ vs.size = cs.length ∧ ∀ (j : Nat) c u, cs[j]? = some c → vs[j]? = some u → RRel X c u ∧ u.oneCell' = true
 | .pk (some n), v => n ≤ maxLen ∧ ∃ a c, v = .slice a n c
 | .pk none, v => ∃ b, v = .pointer (some b)
theorem RRel.dv {X : Cx} {c : RfV} {v : Value} (h : RRel X c v) (base : Nat) (L : Loc) : VRel X base L c.dv v := by cases c <;> exact h
structure BoxRel (X : Cx) (base k : Nat) (bx : Box) (blk : Nat) (cs : Array Value) (ty : TypeId) : Prop where
 ρ : X.ρ k = some blk
 own : X.own blk = some (.box k)
 hbase : (base ≤ blk ∨ ∃ j, X.ex j = some blk) ∧ (bx.old = true → X.ex k = some blk)
 heap : X.w.heap[blk]? = some (.cells cs ty (0, 0))
 size : bx.rows.length * bx.size ≤ cs.size
 width : ∀ row, row ∈ bx.rows → row.length = bx.size
 cells : ∀ (r o : Nat) row d u, bx.rows[r]? = some row → row[o]? = some d → cs[r * bx.size + o]? = some u → VRel X base (.cell k r o) d u ∧ u.oneCell' = true
 live : bx.live = true → ∀ o, X.M blk o
 fixed : bx.live = false → (∀ o, o < bx.rows.length * bx.size → ¬ X.M blk o) ∧ ∀ row, row ∈ bx.rows → ∀ d, d ∈ row → d.isP = true
def MapRel (X : Cx) (base k : Nat) (bx : Box) : Prop :=
 ∃ blk es clock, X.ρ k = some blk ∧ X.own blk = some (.box k) ∧ ((base ≤ blk ∨ ∃ j, X.ex j = some blk) ∧ (bx.old = true → X.ex k = some blk)) ∧ X.w.heap[blk]? = some (.map es clock) ∧ es.size = bx.rows.length ∧ (∀ o, X.M blk o) ∧ BornOk es clock ∧
  ∀ (i : Nat) row e, bx.rows[i]? = some row → es[i]? = some e → ∃ (q : PV) (n : Bool) (d : DV), row = .p q :: d :: third n e ∧ e.key = keyV q ∧ VRel X base (.cell k i 1) d e.val
def BX (X : Cx) (base k : Nat) (bx : Box) : Prop :=
 if bx.size = 0 then MapRel X base k bx else ∃ blk cs ty, BoxRel X base k bx blk cs ty
theorem BX.cell {X : Cx} {base k : Nat} {bx : Box} {blk : Nat} {cs : Array Value} {ty : TypeId} (hne : bx.size ≠ 0) (h : BoxRel X base k bx blk cs ty) : BX X base k bx := by
 unfold BX; rw [if_neg hne]; exact ⟨_, _, _, h⟩
def SzAt (w w' : World) (g : Nat) : Prop := ∀ cs ty, w.heap[g]? = some (.cells cs ty (0, 0)) → ∃ cs' ty', w'.heap[g]? = some (.cells cs' ty' (0, 0)) ∧ cs'.size = cs.size
theorem SzAt.of {w w' : World} {g : Nat} (h : w'.heap[g]? = w.heap[g]?) : SzAt w w' g := fun cs ty e => ⟨cs, ty, h.trans e, rfl⟩
theorem SzAt.refl (w : World) (g : Nat) : SzAt w w g := .of rfl
theorem SzAt.trans {w w' w'' : World} {g : Nat} (h : SzAt w w' g) (k : SzAt w' w'' g) : SzAt w w'' g := fun cs ty e => by
 obtain ⟨cs', ty', e1, e2⟩ := h cs ty e
 obtain ⟨cs2, ty2, e3, e4⟩ := k cs' ty' e1
 exact ⟨cs2, ty2, e3, e4.trans e2⟩
theorem SzAt.heap {w w' : World} {cs : Array Value} {ty : TypeId} {g : Nat} {new : Array Value} {ty' : TypeId} (hs : w.heap[g]? = some (.cells cs ty (0, 0))) (hn : w'.heap[g]? = some (.cells new ty' (0, 0))) (hl : new.size = cs.size)
  (ho : ∀ b, b ≠ g → b < w.heap.size → w'.heap[b]? = w.heap[b]?) (b : Nat) : SzAt w w' b := by
 intro cs' ty2 hg
 by_cases e : b = g
 ·subst e; rw [hs] at hg; injection hg with hg; injection hg with hg1 hg2; subst hg1; exact ⟨new, ty', hn, hl⟩
 ·exact ⟨cs', ty2, (ho b e (Array.getElem?_eq_some_iff.1 hg).1).trans hg, rfl⟩
theorem SzAt.below {w w' : World} (h : ∀ b, b < w.heap.size → w'.heap[b]? = w.heap[b]?) (b : Nat) : SzAt w w' b :=
 fun cs' ty2 hg => ⟨cs', ty2, (h b (Array.getElem?_eq_some_iff.1 hg).1).trans hg, rfl⟩
structure Gl where
 base : Nat
 M0 : Nat → Nat → Prop
 w0 : World
 ex : Nat → Option Nat
structure BelowX (ex : Nat → Option Nat) (B : Nat) (w w' : World) : Prop where
 os : w'.os = w.os
 tape : w'.tape = w.tape
 output : w'.output = w.output
 size : w.heap.size ≤ w'.heap.size
 block : ∀ k, k < B → (∀ j, ex j ≠ some k) → w'.heap[k]? = w.heap[k]?
 sz : ∀ k, k < B → SzAt w w' k
theorem BelowX.refl (ex : Nat → Option Nat) (B : Nat) (w : World) : BelowX ex B w w := ⟨rfl, rfl, rfl, Nat.le_refl _, fun _ _ _ => rfl, fun _ _ => .refl _ _⟩
theorem BelowX.trans {ex : Nat → Option Nat} {B : Nat} {a b c : World} (h : BelowX ex B a b) (k : BelowX ex B b c) : BelowX ex B a c :=
 ⟨k.os.trans h.os, k.tape.trans h.tape, k.output.trans h.output, Nat.le_trans h.size k.size, fun i hi hx => (k.block i hi hx).trans (h.block i hi hx), fun i hi => (h.sz i hi).trans (k.sz i hi)⟩
theorem BelowX.of {ex : Nat → Option Nat} {B : Nat} {a b : World} (h : Below B a b) : BelowX ex B a b := ⟨h.os, h.tape, h.output, h.size, fun i hi _ => h.block i hi, fun i hi => .of (h.block i hi)⟩
theorem BelowX.below {ex : Nat → Option Nat} {B : Nat} {a b : World} (h : BelowX ex B a b) (hx : ∀ k, ex k = none) : Below B a b := ⟨h.os, h.tape, h.output, h.size, fun i hi => h.block i hi fun j e => by rw [hx j] at e; cases e⟩
structure Rel (G : Gl) (X : Cx) (s : St) (a : Act) : Prop where
 defers : a.defers = []
 size : a.tmps.size = s.t.length
 tmps : ∀ (i : Nat) d, s.t[i]? = some d → VRel X G.base (.tmp i) d (a.tmps.getD i undef)
 boxes : ∀ (k : Nat) bx, s.b[k]? = some (some bx) → BX X G.base k bx
 below : BelowX G.ex G.base G.w0 X.w
 hb : G.base ≤ X.w.heap.size
 mold : X.ex = G.ex ∧ ∀ b, b < G.base → (∀ j, G.ex j ≠ some b) → ∀ o, X.M b o ↔ G.M0 b o
theorem Rel.cbox {G : Gl} {X : Cx} {s : St} {a : Act} (h : Rel G X s a) {k : Nat} {bx : Box} (hb : s.b[k]? = some (some bx)) (hne : bx.size ≠ 0) : ∃ blk cs ty, BoxRel X G.base k bx blk cs ty := by
 have := h.boxes k bx hb
 unfold BX at this; rwa [if_neg hne] at this
structure Ev (S : Loc → Prop) (X X' : Cx) : Prop where
 keeps : Keeps X.M X.w X'.M X'.w
 own : ∀ g L, X.own g = some L → S L → g < X.w.heap.size → X'.own g = some L ∧ X'.w.heap[g]? = X.w.heap[g]? ∧ ∀ o, X.M g o → X'.M g o
 ex : X'.ex = X.ex
 sz : ∀ g, SzAt X.w X'.w g
theorem Ev.refl (S : Loc → Prop) (X : Cx) : Ev S X X := ⟨Keeps.refl _ _, fun _ _ h _ _ => ⟨h, rfl, fun _ h => h⟩, rfl, fun _ => .refl _ _⟩
theorem ObRel.map {X X' : Cx} {base base' : Nat} (R : Loc → Loc → Prop) (hR : ∀ L L' j, R L L' → R (.comp L j) (.comp L' j)) (hk : Keeps X.M X.w X'.M X'.w)
  (ho : ∀ g L L', R L L' → X.own g = some L → (base ≤ g ∨ ∃ j, X.ex j = some g) → (∀ o, X.M g o) → g < X.w.heap.size →
   X'.own g = some L' ∧ (base' ≤ g ∨ ∃ j, X'.ex j = some g) ∧ X'.w.heap[g]? = X.w.heap[g]? ∧ ∀ o, X'.M g o)
  {L : Loc} {T : Ob} {v : Value} (h : ObRel X base L T v) : ∀ {L' : Loc}, R L L' → ObRel X' base' L' T v := by
 induction h with
 | p L x v h => exact fun _ => .p _ _ _ (h.mono hk)
 | ptr L cells g cs ty h1 h2 h3 h4 h5 h6 _ ih =>
  intro L' hL
  obtain ⟨e1, e2, e3, e4⟩ := ho g L L' hL h1 h2 h4 (Array.getElem?_eq_some_iff.1 h3).1
  exact .ptr _ _ g cs ty e1 e2 (e3.trans h3) e4 h5 h6 fun j T u hT hu => ih j T u hT hu (hR _ _ j hL)
 | nils L size => exact fun _ => .nils _ _
 | sl L size rows g cap cs ty h1 h2 h3 h4 h5 h6 h7 h8 h9 _ ih =>
  intro L' hL
  obtain ⟨e1, e2, e3, e4⟩ := ho g L L' hL h1 h2 h4 (Array.getElem?_eq_some_iff.1 h3).1
  exact .sl _ _ _ g cap cs ty e1 e2 (e3.trans h3) e4 h5 h6 h7 h8 h9 fun r o row T u hr hT hu => ih r o row T u hr hT hu (hR _ _ _ hL)
 | mp L keys vals g es clock h1 h2 h3 h4 h5 h6 h7 hbn _ ih =>
  intro L' hL
  obtain ⟨e1, e2, e3, e4⟩ := ho g L L' hL h1 h2 h4 (Array.getElem?_eq_some_iff.1 h3).1
  exact .mp _ _ _ g es clock e1 e2 (e3.trans h3) e4 h5 h6 h7 hbn fun i T e hT he => ih i T e hT he (hR _ _ _ hL)
 | ch L items g cap sent got buf h1 h2 h3 h4 h5 h6 =>
  intro L' hL
  obtain ⟨e1, e2, e3, e4⟩ := ho g L L' hL h1 h2 h4 (Array.getElem?_eq_some_iff.1 h3).1
  exact .ch _ _ g cap sent got buf e1 e2 (e3.trans h3) e4 h5 fun i x u hx hu => (h6 i x u hx hu).mono hk
theorem ObRel.mono {S : Loc → Prop} (hc : ∀ L j, S L → S (.comp L j)) {X X' : Cx} (h : Ev S X X') {base : Nat} {L : Loc} (hS : S L) {T : Ob} {v : Value} (hv : ObRel X base L T v) : ObRel X' base L T v :=
 hv.map (fun L L' => L = L' ∧ S L) (fun L L' j ⟨e, hs⟩ => ⟨by rw [e], hc _ _ hs⟩) h.keeps (fun g L L' ⟨e, hs⟩ h1 h2 h3 h4 => by
  subst e
  obtain ⟨e1, e2, e3⟩ := h.own g L h1 hs h4
  exact ⟨e1, by rw [h.ex]; exact h2, e2, fun o => e3 o (h3 o)⟩) ⟨rfl, hS⟩
theorem OwRel.mono {S : Loc → Prop} {X X' : Cx} (h : Ev S X X') {base : Nat} {L : Loc} (hS : S L) {size : Nat} {n : Bool} {rows : List PV} {v : Value}
  (hv : OwRel X base L size n rows v) : OwRel X' base L size n rows v := by
 rcases hv with hv | ⟨h0, g, cap, cur, ty, h1, h2, h3, h4, h5, h6, h7⟩
 ·exact .inl hv
 ·have hlt : g < X.w.heap.size := (Array.getElem?_eq_some_iff.1 h4).1
  obtain ⟨e1, e2, e3⟩ := h.own g L h2 hS hlt
  exact .inr ⟨h0, g, cap, cur, ty, h1, e1, h3, e2.trans h4, h5, h6.mono h.keeps, fun o ho => e3 o (h7 o ho)⟩
theorem CRel.mono {X X' : Cx} (hk : Keeps X.M X.w X'.M X'.w) {c : CapV} {v : Value} (hρ : ∀ k size r off, c = .addr k size r off → X'.ρ k = X.ρ k) (h : CRel X c v) : CRel X' c v := by
 cases c with
 | p x => exact Flat.mono hk h
 | addr k size r off => obtain ⟨blk, h1, h2⟩ := h; exact ⟨blk, (hρ k size r off rfl).trans h1, h2⟩
theorem TRel.mono {S : Loc → Prop} {X X' : Cx} (h : Ev S X X') {base : Nat} {L : Loc} (hS : S L) {d : TV} {v : Value} (hv : TRel X base L d v) : TRel X' base L d v := by
 cases d with
 | p x => exact Flat.mono h.keeps hv
 | ow size n rows => exact OwRel.mono h hS hv
theorem RRel.mono {X X' : Cx} (hk : Keeps X.M X.w X'.M X'.w) (hz : ∀ g, SzAt X.w X'.w g) {c : RfV} {v : Value} (hρ : ∀ k, c.ment k = true → X'.ρ k = X.ρ k) (h : RRel X c v) : RRel X' c v := by
 cases c with
 | p x => exact Flat.mono hk h
 | addr k size r off => obtain ⟨blk, h1, h2⟩ := h; exact ⟨blk, (hρ k (by simp [RfV.ment])).trans h1, h2⟩
 | bs k size _ lo n =>
  obtain ⟨blk, cap, h1, h2, h3, ⟨cs, ty, h4, h5⟩, h6⟩ := h
  obtain ⟨cs', ty', e1, e2⟩ := hz blk cs ty h4
  exact ⟨blk, cap, (hρ k (by simp [RfV.ment])).trans h1, h2, h3, ⟨cs', ty', e1, by rw [e2]; exact h5⟩, h6⟩
 | mh k => obtain ⟨blk, h1, h2⟩ := h; exact ⟨blk, (hρ k (by simp [RfV.ment])).trans h1, h2⟩
theorem VRel.mono {S : Loc → Prop} (hc : ∀ L j, S L → S (.comp L j)) {X X' : Cx} (h : Ev S X X') {base : Nat} {L : Loc} (hS : S L) {d : DV} {v : Value}
  (hρ : ∀ k, d.ment k = true → X'.ρ k = X.ρ k) (hv : VRel X base L d v) : VRel X' base L d v := by
 cases d with
 | top => trivial
 | p x => exact Flat.mono h.keeps hv
 | ow size n rows => exact OwRel.mono h hS hv
 | tup ds =>
  obtain ⟨vs, h1, h2, h3⟩ := hv
  exact ⟨vs, h1, h2, fun j d u hd hu => TRel.mono h (hc L j hS) (h3 j d u hd hu)⟩
 | addr k size r off => obtain ⟨blk, h1, h2⟩ := hv; exact ⟨blk, (hρ k (by simp [DV.ment])).trans h1, h2⟩
 | bs k size _ lo n =>
  obtain ⟨blk, cap, h1, h2, h3, ⟨cs, ty, h4, h5⟩, h6⟩ := hv
  obtain ⟨cs', ty', e1, e2⟩ := h.sz blk cs ty h4
  exact ⟨blk, cap, (hρ k (by simp [DV.ment])).trans h1, h2, h3, ⟨cs', ty', e1, by rw [e2]; exact h5⟩, h6⟩
 | mh k => obtain ⟨blk, h1, h2⟩ := hv; exact ⟨blk, (hρ k (by simp [DV.ment])).trans h1, h2⟩
 | ob T => exact ObRel.mono hc h hS hv
 | pk o => cases o <;> exact hv
 | agd cs =>
  obtain ⟨vs, h1, h2, h3⟩ := hv
  refine ⟨vs, h1, h2, fun j c u hj hu => ⟨(h3 j c u hj hu).1.mono h.keeps h.sz fun k hk => hρ k ?_, (h3 j c u hj hu).2⟩⟩
  simp only [DV.ment, List.any_eq_true]
  exact ⟨c, List.mem_of_getElem? hj, hk⟩
 | fn f caps =>
  obtain ⟨vs, h1, h2, h3⟩ := hv
  refine ⟨vs, h1, h2, fun j c u hj hu => CRel.mono h.keeps (fun k size r off e => hρ k ?_) (h3 j c u hj hu)⟩
  subst e
  simp only [DV.ment, List.any_eq_true]
  exact ⟨_, List.mem_of_getElem? hj, by simp⟩
theorem OwRel.flat {X : Cx} {base : Nat} {L : Loc} {size : Nat} {n : Bool} {rows : List PV} {v : Value} (h : OwRel X base L size n rows v) : Flat X.M X.w (.sl size n rows) v := by
 rcases h with ⟨rfl, ⟨rfl, rfl⟩ | ⟨rfl, b, o, rfl⟩⟩ | ⟨rfl, g, cap, cur, ty, h1, h2, h3, h4, h5, h6, h7⟩
 ·exact .nilsl _
 ·exact .sl size [] b o 0 (fun _ => undef) (Nat.le_refl _) (Nat.zero_le _) (fun j hj => by simp at hj) (fun _ h => by simp at h) (fun _ h => by simp at h) (fun _ _ _ _ h => by simp at h)
 ·exact h6
theorem TRel.copy {X : Cx} {base : Nat} {L : Loc} {d : TV} {v : Value} (h : TRel X base L d v) (L' : Loc) : TRel X base L' d.copy v := by
 cases d with
 | p x => exact h
 | ow size n rows => exact OwRel.flat h
theorem VRel.copy {X : Cx} {base : Nat} {L : Loc} {d : DV} {v : Value} (h : VRel X base L d v) (L' : Loc) : VRel X base L' d.copy v := by
 cases d with
 | ow size n rows => exact OwRel.flat h
 | tup ds =>
  obtain ⟨vs, h1, h2, h3⟩ := h
  refine ⟨vs, h1, by simp [h2], fun j d u hd hu => ?_⟩
  rw [List.getElem?_map] at hd
  cases hj : ds[j]? with
  | none => rw [hj] at hd; simp at hd
  | some d0 => rw [hj] at hd; simp at hd; subst hd; exact TRel.copy (h3 j d0 u hj hu) _
 | top => trivial
 | p x => exact h
 | addr k size r off => exact h
 | bs k size _ lo n => exact h
 | mh k => exact h
 | ob T =>
  cases T with
  | p x => trivial
  | mp ks vs => trivial
  | ch c l => trivial
  | ptr cells => cases h with | ptr _ _ g cs ty h1 h2 h3 h4 h5 h6 h7 => exact ⟨_, rfl⟩
  | sl size nl rows => cases h with
   | nils => exact ⟨Nat.zero_le _, _, _, rfl⟩
   | sl _ _ _ g cap cs ty h1 h2 h3 h4 h5 h6 h7 h8 h9 h10 => exact ⟨Nat.le_trans h5 h6, _, _, rfl⟩
 | pk o => cases o <;> exact h
 | agd cs => exact h
 | fn f caps => exact h
end Go.Proofs.YtnjphclbpgajpaaGreatDoor.Vc
namespace Go.Proofs.YtnjphclbpgajpaaGreatDoor.Vc
open Go.RowKit
inductive O where
 | t (n : Nat)
 | c (d : DV)
def O.val (t : List DV) : O → DV
 | .t n => getT t n
 | .c d => d
inductive KO where
 | ldo (j : Nat) (ag : Bool)
 | callo (f : FuncId) (gr : Bool)
 | callvo (gr : Bool)
 | bldo (zero : List PV) (offs : List (Nat × Nat))
 | eqp (neq : Bool)
 | appd (size bytes : Nat) (ag : Bool)
 | bsld (size n : Nat) (ag : Bool)
 | slx (size : Nat)
 | lookx (q : Option IntKind) (zero : PV) (ok : Bool)
 | mupx (q : Option IntKind)
 | mdel (q : Option IntKind)
 | mlen
 | callr (f : FuncId)
 | mpe (q : Option IntKind)
 | ents
 | lda (n : Nat)
inductive Kd where
 | mov (take : Bool)
 | pick
 | box (k size : Nat)
 | alloc (k size : Nat) (zero : List DV)
 | build (zero : List PV) (offs : List (Nat × Nat))
 | bsl (size n : Nat)
 | load (n : Nat) (isAgg take : Bool)
 | loadp (n : Nat) (isAgg : Bool)
 | store (n : Nat)
 | bin (op : BinOp)
 | eqnil (neq : Bool)
 | un (op : UnOp)
 | conv (k : IntKind)
 | fad (off : Nat)
 | fld (off n : Nat) (isAgg : Bool)
 | iad (size : Nat)
 | sidx
 | len
 | lenD
 | slen
 | app (size bytes : Nat)
 | ext (j : Nat)
 | extp (j : Nat)
 | call (f : FuncId)
 | callv
 | mkfn (f : FuncId)
 | mksl (k size bytes : Nat) (isAgg : Bool) (zero : List DV)
 | slc (size : Nat) (lo hi : Bool)
 | ssl (lo hi : Bool)
 | slb (k size : Nat)
 | callm (f : FuncId) (k : Nat)
 | stk
 | eqat (neq : Bool)
 | eqs (n : Nat) (neq : Bool)
 | eqb (neq : Bool)
 | mkz (size bytes : Nat) (row : PV)
 | s2b
 | mkmap (k : Nat)
 | look (q : IntKind) (zero : PV)
 | mupd (q : IntKind)
 | nilchk
 | mn
 | mx
 | «at» (k : Nat) (κ : Kd)
 | pl (κ : Kd)
 | ob (κ : KO)
structure Ins where
 d : Option Nat
 g : Option (Nat × Bool)
 k : Kd
 xs : List O
def pvOf : DV → Option PV
 | .p x => some x
 | .ow size n rows => some (.sl size n rows)
 | _ => none
def pvsOf : List DV → Option (List PV)
 | [] => some []
 | d :: ds => match pvOf d, pvsOf ds with
  | some x, some xs => some (x :: xs)
  | _, _ => none
def cellsP : List DV → Option (List PV)
 | [] => some []
 | .p x :: ds => match cellsP ds with
  | some xs => some (x :: xs)
  | none => none
 | _ :: _ => none
def rowsP (isAgg : Bool) : List (List DV) → Option (List PV)
 | [] => some []
 | row :: rs => match cellsP row, rowsP isAgg rs with
  | some cs, some xs => some ((if isAgg then .agg cs else cs.headD (.bool false)) :: xs)
  | _, _ => none
def CapV.frz (b : List (Option Box)) : CapV → Option PV
 | .p x => some x
 | .addr k size r off => match getB b k with
  | some bx => if bx.live then none else match cellsP bx.rows.flatten with
   | some cs => some (.ptr cs (r * size + off))
   | none => none
  | none => none
def capsF (b : List (Option Box)) : List CapV → Option (List PV)
 | [] => some []
 | c :: cs => match c.frz b, capsF b cs with
  | some x, some xs => some (x :: xs)
  | _, _ => none
def bsF (b : List (Option Box)) (k size : Nat) (isAgg : Bool) (lo n : Nat) : Option PV := match getB b k with
 | some bx => if bx.live = false ∧ (isAgg = true ∨ size = 1) ∧ size = bx.size ∧ lo = 0 ∧ n = bx.rows.length then match rowsP isAgg bx.rows with
  | some rows => some (.sl size false rows)
  | none => none
  else none
 | none => none
def RfV.frz (b : List (Option Box)) : RfV → Option PV
 | .p x => some x
 | .addr k size r off => CapV.frz b (.addr k size r off)
 | .bs k size ag lo n => bsF b k size ag lo n
 | .mh _ => none
def rfsF (b : List (Option Box)) : List RfV → Option (List PV)
 | [] => some []
 | c :: cs => match c.frz b, rfsF b cs with
  | some x, some xs => some (x :: xs)
  | _, _ => none
def DV.frz (b : List (Option Box)) : DV → Option PV
 | .p x => some x
 | .ow size n rows => some (.sl size n rows)
 | .addr k size r off => CapV.frz b (.addr k size r off)
 | .bs k size isAgg lo n => match getB b k with
  | some bx => if bx.live = false ∧ (isAgg = true ∨ size = 1) ∧ size = bx.size ∧ lo = 0 ∧ n = bx.rows.length then match rowsP isAgg bx.rows with
   | some rows => some (.sl size false rows)
   | none => none
   else none
  | none => none
 | .fn f caps => match capsF b caps with
  | some xs => some (.fn f xs)
  | none => none
 | .agd cs => match rfsF b cs with
  | some xs => some (.agg xs)
  | none => none
 | _ => none
def frzs (b : List (Option Box)) : List DV → Option (List PV)
 | [] => some []
 | d :: ds => match d.frz b, frzs b ds with
  | some x, some xs => some (x :: xs)
  | _, _ => none
def DV.plain : DV → Bool
 | .p _ | .ow _ _ _ | .tup _ => true
 | _ => false
def FnOK (P : Program) (f : FuncId) : Prop := ∃ fn, P.funcs[f]? = some fn ∧ fn.body.isSome = true ∧ fn.name ≠ "runtime.NumGoroutine"
def PureCall (P : Program) (f : FuncId) (args : List PV) (r : DV) : Prop :=
 r.plain = true ∧ ∀ (M0 : Nat → Nat → Prop) (w : World) (cargs : Array Value), cargs.size = args.length →
  (∀ (j : Nat) x v, args[j]? = some x → cargs[j]? = some v → Flat M0 w x v) →
  (FnOK P f ∧ Calls P f cargs w fun e w' => ∃ v X, e = .returned v ∧ X.w = w' ∧ VRel X w.heap.size (.tmp 0) r v ∧ (∀ b, b < w.heap.size → ∀ o, X.M b o ↔ M0 b o) ∧
   Below w.heap.size w w') ∨
  ∃ v X, (callFunc f cargs).run P w = .ok (.value v) X.w ∧ VRel X w.heap.size (.tmp 0) r v ∧ (∀ b, b < w.heap.size → ∀ o, X.M b o ↔ M0 b o) ∧ Below w.heap.size w X.w
def allP : List DV → Bool
 | [] => true
 | d :: ds => d.isP && allP ds
def allPR : List (List DV) → Bool
 | [] => true
 | r :: rs => allP r && allPR rs
def mcx (M0 : Nat → Nat → Prop) (w : World) (blk : Nat) : Cx :=
 {ρ := fun i => if i = 0 then some blk else none
  own := fun g => if g = blk then some (.box 0) else none
  M := M0
  w := w
  ex := fun i => if i = 0 then some blk else none }
def MCall (P : Program) (f : FuncId) (size : Nat) (args : List DV) (rows rows' : List (List DV)) (r : DV) : Prop :=
 FnOK P f ∧ r.plain = true ∧ allPR rows' = true ∧ ∀ (M0 : Nat → Nat → Prop) (w : World) (cargs : Array Value) (blk : Nat) (cs : Array Value) (ty : TypeId), cargs.size = args.length →
  BoxRel (mcx M0 w blk) w.heap.size 0 ⟨true, size, rows, true⟩ blk cs ty →
  (∀ (i : Nat) d v, args[i]? = some d → cargs[i]? = some v → VRel (mcx M0 w blk) w.heap.size (.tmp i) d v) →
  Calls P f cargs w fun e w' => ∃ v X cs' ty', e = .returned v ∧ X.w = w' ∧ VRel X w.heap.size (.tmp 0) r v ∧ BoxRel X w.heap.size 0 ⟨true, size, rows', true⟩ blk cs' ty' ∧
   (∀ b, b < w.heap.size → b ≠ blk → ∀ o, X.M b o ↔ M0 b o) ∧ BelowX (fun i => if i = 0 then some blk else none) w.heap.size w w'
def capsH (ν : Nat → Option Nat) : List CapV → Option (List CapV)
 | [] => some []
 | .p x :: cs => match capsH ν cs with
  | some l => some (.p x :: l)
  | none => none
 | .addr k sz r o :: cs => match ν k, capsH ν cs with
  | some k', some l => some (.addr k' sz r o :: l)
  | _, _ => none
def handD (ν : Nat → Option Nat) : DV → DV
 | .p x => .p x
 | .ow size nl rows => .p (.sl size nl rows)
 | .addr k sz r o => match ν k with
  | some k' => .addr k' sz r o
  | none => .top
 | .bs k sz ag lo n => match ν k with
  | some k' => .bs k' sz ag lo n
  | none => .top
 | .mh k => match ν k with
  | some k' => .mh k'
  | none => .top
 | .fn f caps => match capsH ν caps with
  | some l => .fn f l
  | none => .top
 | .ob T => .ob T
 | _ => .top
def handR (ν : Nat → Option Nat) : List DV → List DV
 | [] => []
 | d :: ds => handD ν d :: handR ν ds
def handRs0 (ν : Nat → Option Nat) : List (List DV) → List (List DV)
 | [] => []
 | r :: rs => handR ν r :: handRs0 ν rs
def handRs (ν : Nat → Option Nat) (rows : List (List DV)) : List (List DV) := bif allPR rows then rows else handRs0 ν rows
def resD (ν : Nat → Option Nat) (r : DV) : DV := if r.plain then r else handD ν r
def capRefs : List CapV → List Nat → List Nat
 | [], l => l
 | .addr k _ _ _ :: cs, l => k :: capRefs cs l
 | _ :: cs, l => capRefs cs l
def refsD : DV → List Nat → List Nat
 | .addr k _ _ _, l | .bs k _ _ _ _, l | .mh k, l => k :: l
 | .fn _ caps, l => capRefs caps l
 | _, l => l
def refsR : List DV → List Nat → List Nat
 | [], l => l
 | d :: ds, l => refsD d (refsR ds l)
def refsRs : List (List DV) → List Nat → List Nat
 | [], l => l
 | r :: rs, l => refsR r (refsRs rs l)
def elemN (k : Nat) : List Nat → Bool
 | [] => false
 | q :: l => if Nat.beq k q then true else elemN k l
def getR : List (Option Box) → Nat → Option Box
 | [], _ => none
 | x :: _, 0 => x
 | _ :: xs, n + 1 => getR xs n
def reachO (b : List (Option Box)) : Nat → List Nat → List Nat → List Nat
 | 0, _, ks => ks
 | _ + 1, [], ks => ks
 | n + 1, k :: ws, ks => if elemN k ks then reachO b n ws ks else match getR b k with
  | some bx => if bx.live then reachO b n (bif allPR bx.rows then ws else refsRs bx.rows ws) (ks ++ [k]) else reachO b n ws ks
  | none => reachO b n ws ks
def numO (k : Nat) : List Nat → Nat → Nat
 | [], i => i
 | q :: ks, i => if Nat.beq q k then i else numO k ks (i + 1)
def nuO (ks : List Nat) (k : Nat) : Option Nat := if elemN k ks then some (numO k ks 0) else none
def sigO : List Nat → Nat → Nat → Nat
 | [], L, i => L + i
 | k :: _, _, 0 => k
 | _ :: ks, L, i + 1 => sigO ks L i
def nuB (ks : List Nat) (L m : Nat) (i : Nat) : Option Nat := if Nat.blt i m then some (sigO ks L i) else none
structure Hand (X : Cx) (bs : List Box) : Prop where
 full : ∀ j g, X.ex j = some g → ∀ o, X.M g o
 boxes : ∀ (i : Nat) bx, bs[i]? = some bx → BX X X.w.heap.size i bx
structure Back (X X' : Cx) (m : Nat) (bs' : List (Option Box)) (r : DV) (v : Value) : Prop where
 ex : X'.ex = X.ex
 val : VRel X' X.w.heap.size (.tmp 0) r v
 boxes : ∀ (i : Nat) bx, bs'[i]? = some (some bx) → bx.live = true ∧ BX X' X.w.heap.size i bx
 rho : ∀ i, i < m → X'.ρ i = X.ρ i
 mem : ∀ b, b < X.w.heap.size → (∀ j, X.ex j ≠ some b) → ∀ o, X'.M b o ↔ X.M b o
 below : BelowX X.ex X.w.heap.size X.w X'.w
def DV.isRef : DV → Bool
 | .addr _ _ _ _ | .bs _ _ _ _ _ | .mh _ => true
 | _ => false
def OCall (P : Program) (f : FuncId) (args : List DV) (bs : List Box) (bs' : List (Option Box)) (r : DV) : Prop :=
 FnOK P f ∧ (r.plain = true ∨ r.isRef = true) ∧ bs.length ≤ bs'.length ∧
 ∀ (X : Cx) (cargs : Array Value), cargs.size = args.length → Hand X bs → (∀ (i : Nat) d v, args[i]? = some d → cargs[i]? = some v → VRel X X.w.heap.size (.tmp i) d v) →
  Calls P f cargs X.w fun e w' => ∃ v X', e = .returned v ∧ X'.w = w' ∧ Back X X' bs.length bs' r v
def rootsO (b : List (Option Box)) : List DV → List Nat
 | [] => []
 | d :: ds => match d.frz b with
  | some _ => rootsO b ds
  | none => refsD d (rootsO b ds)
def ksO (b : List (Option Box)) (xs : List DV) : List Nat := reachO b 4000 (rootsO b xs) []
def DV.isRefF : DV → Bool
 | .addr _ _ _ _ | .bs _ _ _ _ _ | .mh _ | .fn _ _ => true
 | _ => false
def argsO (b : List (Option Box)) (ν : Nat → Option Nat) : List DV → Option (List DV)
 | [] => some []
 | d :: ds => match argsO b ν ds with
  | some xs => match d.frz b with
   | some x => some (.p x :: xs)
   | none => if d.isRefF then some (handD ν d :: xs) else none
  | none => none
def handB (b : List (Option Box)) (ν : Nat → Option Nat) (k : Nat) : Box :=
 match getR b k with
 | some bx => ⟨true, bx.size, handRs ν bx.rows, true⟩
 | none => ⟨true, 1, [], true⟩
def handO (b : List (Option Box)) (ν : Nat → Option Nat) : List Nat → List Box
 | [] => []
 | k :: ks => handB b ν k :: handO b ν ks
def oldB (b : List (Option Box)) (k : Nat) : Bool :=
 match getR b k with
 | some bx => bx.old
 | none => false
def backB (ν : Nat → Option Nat) (old : Bool) : Option Box → Option Box
 | some bx => some ⟨true, bx.size, handRs ν bx.rows, old⟩
 | none => none
def newO (ν : Nat → Option Nat) : List (Option Box) → List (Option Box)
 | [] => []
 | x :: l => backB ν false x :: newO ν l
def backO (ν : Nat → Option Nat) : List Nat → List (Option Box) → List (Option Box) → List (Option Box)
 | [], l, b => b ++ newO ν l
 | k :: ks, x :: l, b => backO ν ks l (setL b k (backB ν (oldB b k) x))
 | _ :: _, [], b => b
def capsD : List CapV → List DV
 | [] => []
 | .p x :: cs => .p x :: capsD cs
 | .addr k sz r o :: cs => .addr k sz r o :: capsD cs
def capsLt (n : Nat) : List CapV → Bool
 | [] => true
 | .addr k _ _ _ :: cs => Nat.blt k n && capsLt n cs
 | _ :: cs => capsLt n cs
def ltDs (n : Nat) : List DV → Bool
 | [] => true
 | .addr k _ _ _ :: l | .bs k _ _ _ _ :: l | .mh k :: l => Nat.blt k n && ltDs n l
 | _ :: l => ltDs n l
def ltD (n : Nat) : DV → Bool
 | .addr k _ _ _ | .bs k _ _ _ _ | .mh k => Nat.blt k n
 | .fn _ caps => capsLt n caps
 | .agd cs => ltDs n (rfDs cs)
 | _ => true
def ltT (n : Nat) : List DV → Bool
 | [] => true
 | d :: ds => ltD n d && ltT n ds
def ltRs0 (n : Nat) : List (List DV) → Bool
 | [] => true
 | r :: rs => ltT n r && ltRs0 n rs
def ltRs (n : Nat) (rows : List (List DV)) : Bool := bif allPR rows then true else ltRs0 n rows
def ltB (n : Nat) : List (Option Box) → Bool
 | [] => true
 | some bx :: l => ltRs n bx.rows && ltB n l
 | none :: l => ltB n l
def kdesc : Option IntKind → TypeDesc
 | some q => .int q
 | none => .string
def keyP : Option IntKind → PV → Bool
 | some q, .int q' _ => decide (q' = q)
 | none, .str _ => true
 | _, _ => false
def sameK : PV → PV → Bool
 | .int _ x, .int _ n => decide (n = x)
 | .str s, .str u => decide (u.data.toList = s.data.toList)
 | _, _ => false
def findX (q : Option IntKind) (x : PV) : List (List DV) → Option (Option DV)
 | [] => some none
 | [.p k, d] :: rs => if keyP q k = true then (if sameK x k = true then some (some d) else findX q x rs) else none
 | _ => none
def updX (q : Option IntKind) (x : PV) (v : DV) : List (List DV) → Option (List (List DV))
 | [] => some [[.p x, v]]
 | [.p k, u] :: rs => if keyP q k = true then (if sameK x k = true then some ([.p k, v] :: rs) else match updX q x v rs with
  | some l => some ([.p k, u] :: l)
  | none => none) else none
 | _ => none
def delX (q : Option IntKind) (x : PV) : List (List DV) → Option (List (List DV))
 | [] => some []
 | [.p k, u] :: rs => if keyP q k = true then (if sameK x k = true then some rs else match delX q x rs with
  | some l => some ([.p k, u] :: l)
  | none => none) else none
 | _ => none
def rfOf : DV → Option RfV
 | .p x => some (.p x)
 | .ow sz nl rows => some (.p (.sl sz nl rows))
 | .addr k sz r o => some (.addr k sz r o)
 | .bs k sz ag lo n => some (.bs k sz ag lo n)
 | .mh k => some (.mh k)
 | _ => none
def rfsOfD : List DV → Option (List RfV)
 | [] => some []
 | d :: ds => match rfOf d, rfsOfD ds with
  | some x, some xs => some (x :: xs)
  | _, _ => none
def findE (q : Option IntKind) (x : PV) : List (List DV) → Option (PV × Int)
 | [.p k, .p v, .p (.int .i64 s)] :: rs => if keyP q k = true then (if sameK x k = true then some (v, s) else findE q x rs) else none
 | _ => none
def setE (s : Int) (d : DV) : List (List DV) → Option (List (List DV))
 | [.p k, u, .p (.int .i64 s')] :: rs => if s' = s then some ([.p k, d, .p (.int .i64 s')] :: rs) else match setE s d rs with
  | some l => some ([.p k, u, .p (.int .i64 s')] :: l)
  | none => none
 | _ => none
@[irreducible] def findEI (q : Option IntKind) (x : PV) (rows : List (List DV)) : Option (PV × Int) := findE q x rows
@[irreducible] def setEI (s : Int) (d : DV) (rows : List (List DV)) : Option (List (List DV)) := setE s d rows
def argM (k : Nat) (b : List (Option Box)) : DV → Option DV
 | .bs k' sz ag lo n => if k' = k then some (.bs 0 sz ag lo n) else none
 | .addr k' sz r o => if k' = k then some (.addr 0 sz r o) else none
 | d => match d.frz b with
  | some x => some (.p x)
  | none => none
def argsM (k : Nat) (b : List (Option Box)) : List DV → Option (List DV)
 | [] => some []
 | d :: ds => match argM k b d, argsM k b ds with
  | some x, some xs => some (x :: xs)
  | _, _ => none
def bitsOf (op : BinOp) (k : IntKind) (x y : Int) : Int :=
 let a := BitVec.ofInt k.bits x
 let b := BitVec.ofInt k.bits y
 match op with
 | .and => k.wrap (a &&& b).toNat
 | .or => k.wrap (a ||| b).toNat
 | .xor => k.wrap (a ^^^ b).toNat
 | _ => k.wrap (a &&& ~~~b).toNat
def binPV (op : BinOp) (x y : PV) (K : PV → Prop) : Prop :=
 match x, y with
 | .int k a, .int k' b => match op with
  | .add => k = k' ∧ K (.int k (k.wrap (a + b)))
  | .sub => k = k' ∧ K (.int k (k.wrap (a - b)))
  | .mul => k = k' ∧ K (.int k (k.wrap (a * b)))
  | .quo => k = k' ∧ b ≠ 0 ∧ K (.int k (k.wrap (a.tdiv b)))
  | .rem => k = k' ∧ b ≠ 0 ∧ K (.int k (a.tmod b))
  | .and => k = k' ∧ K (.int k (bitsOf .and k a b))
  | .or => k = k' ∧ K (.int k (bitsOf .or k a b))
  | .xor => k = k' ∧ K (.int k (bitsOf .xor k a b))
  | .andNot => k = k' ∧ K (.int k (bitsOf .andNot k a b))
  | .shl => 0 ≤ b ∧ K (.int k (k.wrap (a * 2 ^ (min b.toNat k.bits))))
  | .shr => 0 ≤ b ∧ K (.int k (a.fdiv (2 ^ (min b.toNat k.bits))))
  | .eql => k = k' ∧ K (.bool (a == b))
  | .neq => k = k' ∧ K (.bool (a != b))
  | .lss => k = k' ∧ K (.bool (decide (a < b)))
  | .leq => k = k' ∧ K (.bool (decide (a ≤ b)))
  | .gtr => k = k' ∧ K (.bool (decide (a > b)))
  | .geq => k = k' ∧ K (.bool (decide (a ≥ b)))
 | .str a, .str b => match op with
  | .eql => K (.bool (a.toList == b.toList))
  | .neq => K (.bool !(a.toList == b.toList))
  | .add => (a.size + b.size ≤ 140737488355328) ∧ K (.str (a ++ b))
  | _ => False
 | _, _ => False
def setsL : List PV → Nat → List PV → List PV
 | l, _, [] => l
 | l, o, c :: cs => setsL (setL l o c) (o + 1) cs
def fillL : List PV → List (Nat × Nat) → List PV → Option (List PV)
 | z, [], [] => some z
 | z, o :: os, x :: xs => if (rowCells x).length = o.2 then fillL (setsL z o.1 (rowCells x)) os xs else none
 | _, _, _ => none
def takeP : List PV → Nat → Nat → List PV
 | _, _, 0 => []
 | [], _, _ => []
 | x :: xs, 0, n + 1 => x :: takeP xs 0 n
 | _ :: xs, o + 1, n + 1 => takeP xs o (n + 1)
def takeD : List DV → Nat → Nat → List DV
 | _, _, 0 => []
 | [], _, _ => []
 | x :: xs, 0, n + 1 => x :: takeD xs 0 n
 | _ :: xs, o + 1, n + 1 => takeD xs o (n + 1)
def storeD : List DV → Nat → List DV → List DV
 | l, _, [] => l
 | l, o, c :: cs => storeD (setL l o c) (o + 1) cs
def copies : List DV → List DV
 | [] => []
 | d :: ds => d.copy :: copies ds
def cellsOfD : DV → Option (List DV)
 | .p x => some ((rowCells x).map .p)
 | .top => none
 | .tup _ => none
 | .ob _ => none
 | .pk _ => none
 | .agd cs => some (rfDs cs)
 | d => some [d]
def findM (q : IntKind) (x : Int) : List (List DV) → Option (Option PV)
 | [] => some none
 | [.p (.int q' n), .p v] :: rs => if q' = q then (if n = x then some (some v) else findM q x rs) else none
 | _ => none
def updM (q : IntKind) (x : Int) (v : PV) : List (List DV) → Option (List (List DV))
 | [] => some [[.p (.int q x), .p v]]
 | [.p (.int q' n), .p u] :: rs => if q' = q then (if n = x then some ([.p (.int q' n), .p v] :: rs) else match updM q x v rs with
  | some l => some ([.p (.int q' n), .p u] :: l)
  | none => none) else none
 | _ => none
def loadP (cells : List PV) (off n : Nat) (isAgg : Bool) (K : PV → Prop) : Prop :=
 if isAgg then off + n ≤ cells.length ∧ K (.agg (takeP cells off n))
 else ∃ c, cells[off]? = some c ∧ K c
def sliceLen : DV → Option Nat
 | .p (.sl _ _ rows) => some rows.length
 | .ow _ _ rows => some rows.length
 | .bs _ _ _ _ n => some n
 | .pk (some n) => some n
 | _ => none
def TV.dv : TV → DV
 | .p x => .p x
 | .ow size n rows => .ow size n rows
def eqsP : List PV → List PV → Option Bool
 | [], [] => some true
 | .int k a :: xs, .int k' b :: ys => if k = k' then match eqsP xs ys with
  | some r => some ((a == b) && r)
  | none => none
  else none
 | _, _ => none
def opnK (j : Nat) (ag : Bool) (T : Ob) (K0 : PV → Prop) (K : DV → Box → Prop) : Prop :=
 match T with
 | .ptr cells => match cells with
  | [] => False
  | _ :: _ => K (.addr j cells.length 0 0) ⟨true, cells.length, [dvs cells], false⟩
 | .sl size nl rows => match size with
  | 0 => False
  | _ + 1 => match nl with
   | true => K0 (.sl size true [])
   | false => K (.bs j size ag 0 rows.length) ⟨true, size, dvss rows, false⟩
 | .mp keys vals => K (.mh j) ⟨true, 0, zipR keys vals, false⟩
 | _ => False
def rowsD : List PV → List (List DV)
 | [] => []
 | x :: xs => (rowCells x).map DV.p :: rowsD xs
def copiesR : List (List DV) → List (List DV)
 | [] => []
 | r :: rs => copies r :: copiesR rs
def appRows (b : List (Option Box)) (size : Nat) : DV → Option (List (List DV))
 | .bs k sz _ lo n => match getB b k with
  | some bx => if bx.live = true ∧ sz = size ∧ bx.size = size ∧ lo = 0 ∧ n = bx.rows.length then some (copiesR bx.rows) else none
  | none => none
 | y => match y.frz b with
  | some (.sl sz _ rows) => if sz = size ∨ rows = [] then some (rowsD rows) else none
  | _ => none
def rfsOf : List PV → List RfV
 | [] => []
 | x :: xs => .p x :: rfsOf xs
def setsR : List RfV → Nat → List RfV → List RfV
 | l, _, [] => l
 | l, o, c :: cs => setsR (setL l o c) (o + 1) cs
def partR : DV → Option (List RfV)
 | .p x => some (rfsOf (rowCells x))
 | .ow size nl rows => some [.p (.sl size nl rows)]
 | .addr k sz r o => some [.addr k sz r o]
 | .bs k sz ag lo n => some [.bs k sz ag lo n]
 | .mh k => some [.mh k]
 | _ => none
def fillR : List RfV → List (Nat × Nat) → List DV → Option (List RfV)
 | z, [], [] => some z
 | z, o :: os, x :: xs => match partR x with
  | some cs => if cs.length = o.2 then fillR (setsR z o.1 cs) os xs else none
  | none => none
 | _, _, _ => none
def callO (P : Program) (f : FuncId) (gr : Bool) (xs : List DV) (b : List (Option Box)) (K : DV → List (Option Box) → Prop) : Prop :=
 match argsO b (nuO (ksO b xs)) xs with
 | some args => ∃ bs' r, OCall P f args (handO b (nuO (ksO b xs)) (ksO b xs)) bs' r ∧ (gr = true ∨ bs'.length = (ksO b xs).length) ∧
   K (resD (nuB (ksO b xs) b.length bs'.length) r) (backO (nuB (ksO b xs) b.length bs'.length) (ksO b xs) bs' b)
 | none => False
def semO (P : Program) (κ : KO) (vs : List DV) (b : List (Option Box)) (K : DV → List (Option Box) → Prop) : Prop :=
 match κ, vs with
 | .ldo j ag, [.addr k sz r off] => match getB b k with
  | some bx => sz = bx.size ∧ ∃ row, bx.rows[r]? = some row ∧ ∃ d, row[off]? = some d ∧ match d with
   | .ob T => bx.live = true ∧ j ≠ k ∧ opnK j ag T (fun x => K (.p x) b) fun d' bx' => K d' (setL (setL b k (some { bx with rows := setL bx.rows r (setL row off d') })) j (some bx'))
   | d => K d.copy b
  | none => False
 | .ldo _ _, [.p (.ptr cells off)] => ∃ c, cells[off]? = some c ∧ K (.p c) b
 | .callo f gr, xs => callO P f gr xs b K
 | .callvo gr, fx :: xs => match fx with
  | .fn f caps => callO P f gr (xs ++ capsD caps) b K
  | _ => False
 | .bldo zero offs, xs => match fillR (rfsOf zero) offs xs with
  | some cs => K (.agd cs) b
  | none => False
 | .eqp neq, [x, .p (.atom (.pointer none))] => match x with
  | .addr _ _ _ _ => K (.p (.bool neq)) b
  | .p (.atom (.pointer none)) => K (.p (.bool (!neq))) b
  | .p (.ptr _ _) => K (.p (.bool neq)) b
  | .pk none => K (.p (.bool neq)) b
  | _ => False
 | .appd size bytes ag, [x, y] => match appRows b size y with
  | some new => match x with
   | .p (.sl sz true []) => sz = size ∧ new.length * bytes ≤ 140737488355328 ∧ new.length ≤ maxLen ∧ (new = [] → K (.p (.sl size true [])) b) ∧
     (new ≠ [] → K (.bs b.length size ag 0 new.length) (b ++ [some ⟨true, size, new, false⟩]))
   | .bs k sz _ lo n => match getB b k with
    | some bx => bx.live = true ∧ sz = size ∧ bx.size = size ∧ lo = 0 ∧ n = bx.rows.length ∧ (bx.rows.length + new.length) * bytes ≤ 140737488355328 ∧ bx.rows.length + new.length ≤ maxLen ∧ 
      K (.bs b.length size ag 0 (bx.rows.length + new.length)) (setL b k none ++ [some ⟨true, size, copiesR bx.rows ++ new, false⟩])
    | none => False
   | _ => False
  | none => False
 | .bsld size n ag, xs => size = 1 ∧ xs.length = n ∧ n ≠ 0 ∧ (xs.all DV.isRef) = true ∧ (xs.all (ltD b.length)) = true ∧ K (.bs b.length 1 ag 0 n) (b ++ [some ⟨true, 1, xs.map fun x => [x], false⟩])
 | .slx size, [.bs k sz ag lo n, .p (.int _ h)] => sz = size ∧ lo = 0 ∧ 0 ≤ h ∧ h ≤ n ∧ match getB b k with
  | some bx => sz = bx.size ∧ bx.live = true ∧ h ≤ bx.rows.length ∧ K (.bs k sz ag 0 h.toNat) (setL b k (some { bx with rows := bx.rows.take h.toNat }))
  | none => False
 | .slx size, [.p (.sl sz nl rows), .p (.int _ h)] => (sz = size ∨ rows = []) ∧ 0 ≤ h ∧ h ≤ rows.length ∧ K (.p (.sl sz nl (rows.take h.toNat))) b
 | .lookx q zero ok, [.mh k, .p x] => keyP q x = true ∧ match getM b k with
  | some bx => match findX q x bx.rows with
   | some (some d) => if ok then ∃ v, d = .p v ∧ K (.tup [.p v, .p (.bool true)]) b else K d.copy b
   | some none => K (if ok then .tup [.p zero, .p (.bool false)] else .p zero) b
   | none => False
  | none => False
 | .mupx q, [.mh k, .p x, d] => keyP q x = true ∧ (d.isRef || d.isP) = true ∧ match getM b k with
  | some bx => match updX q x d bx.rows with
   | some rows => K .top (setL b k (some { bx with rows := rows }))
   | none => False
  | none => False
 | .mdel q, [.mh k, .p x] => keyP q x = true ∧ match getM b k with
  | some bx => match delX q x bx.rows with
   | some rows => K .top (setL b k (some { bx with rows := copiesR rows }))
   | none => False
  | none => False
 | .mlen, [.mh k] => match getM b k with
  | some bx => K (.p (.int .i64 bx.rows.length)) b
  | none => False
 | .callr f, xs => callO P f false xs b fun v b' => b' = b ∧ K v b
 | .mpe q, [.mh k, .p x] => keyP q x = true ∧ match getM b k with
  | some bx => match findEI q x bx.rows with
   | some (v, s) => K (.tup [.p v, .p (.int .i64 s)]) b
   | none => False
  | none => False
 | .lda n, [.addr k sz r off] => match getB b k with
  | some bx => sz = bx.size ∧ ∃ row, bx.rows[r]? = some row ∧ off + n ≤ row.length ∧ match rfsOfD (takeD row off n) with
   | some cs => K (.agd cs) b
   | none => False
  | none => False
 | .ents, [.mh k, .p (.int .i64 s), d] => (d.isRef || d.isP) = true ∧ match getM b k with
  | some bx => match setEI s d bx.rows with
   | some rows => K .top (setL b k (some { bx with rows := rows }))
   | none => False
  | none => False
 | _, _ => False
def semI (P : Program) (κ : Kd) (vs : List DV) (b : List (Option Box)) (K : DV → List (Option Box) → Prop) : Prop :=
 match κ, vs with
 | .mov take, [x] => K (if take then x else x.copy) b
 | .pick, [.p (.bool c), x, y] => (c = true → K x.copy b) ∧ (c = false → K y.copy b)
 | .box k size, [x] => match cellsOfD x with
  | some cs => cs.length = size ∧ x.ment k = false ∧ K (.addr k size 0 0) (setL b k (some ⟨true, size, [copies cs], false⟩))
  | none => False
 | .alloc k size zero, [] => zero.length = size ∧ K (.addr k size 0 0) (setL b k (some ⟨true, size, [zero], false⟩))
 | .build zero offs, xs => match pvsOf xs with
  | some ps => match fillL zero offs ps with
   | some cs => K (.p (.agg cs)) b
   | none => False
  | none => False
 | .bsl size n, xs => match pvsOf xs with
  | some rows => rows.length = n ∧ (∀ r, r ∈ rows → (rowCells r).length = size) ∧ K (.ow size false rows) b
  | none => False
 | .load n isAgg take, [.addr k sz r off] => match getB b k with
  | some bx => sz = bx.size ∧ ∃ row, bx.rows[r]? = some row ∧ off + n ≤ row.length ∧
    if isAgg then match pvsOf (takeD row off n) with
     | some cs => K (.p (.agg cs)) b
     | none => False
    else ∃ d, row[off]? = some d ∧ K (if take then d else d.copy) (if take then setL b k (some { bx with rows := setL bx.rows r (setL row off d.copy) }) else b)
  | none => False
 | .load n isAgg _, [.p (.ptr cells off)] => loadP cells off n isAgg fun x => K (.p x) b
 | .loadp n isAgg, [.p (.ptr cells off)] => loadP cells off n isAgg fun x => K (.p x) b
 | .store n, [.addr k sz r off, v] => match getB b k, cellsOfD v with
  | some bx, some cs => sz = bx.size ∧ bx.live = true ∧ cs.length = n ∧ ∃ row, bx.rows[r]? = some row ∧ off + n ≤ row.length ∧
    K .top (setL b k (some { bx with rows := setL bx.rows r (storeD row off cs) }))
  | _, _ => False
 | .bin op, [.p x, .p y] => binPV op x y fun z => K (.p z) b
 | .eqnil neq, [x, .ow _ true []] => match x with
  | .p (.sl _ n _) => K (.p (.bool (if neq then !n else n))) b
  | .ow _ n _ => K (.p (.bool (if neq then !n else n))) b
  | _ => False
 | .un op, [.p (.bool x)] => match op with
  | .not => K (.p (.bool !x)) b
  | _ => False
 | .un op, [.p (.int k x)] => match op with
  | .neg => K (.p (.int k (k.wrap (0 - x)))) b
  | _ => False
 | .conv k, [.p (.int _ n)] => K (.p (.int k (k.wrap n))) b
 | .fad off, [.addr k size r o] => K (.addr k size r (o + off)) b
 | .fad off, [.p (.ptr cells o)] => K (.p (.ptr cells (o + off))) b
 | .fld off n isAgg, [.p (.agg cs)] => loadP cs off n isAgg fun x => K (.p x) b
 | .iad size, [x, .p (.int _ i)] => match x with
  | .p (.sl sz _ rows) => sz = size ∧ 0 ≤ i ∧ ∃ row, rows[i.toNat]? = some row ∧ K (.p (.ptr (rowCells row) 0)) b
  | .ow sz _ rows => sz = size ∧ 0 ≤ i ∧ ∃ row, rows[i.toNat]? = some row ∧ K (.p (.ptr (rowCells row) 0)) b
  | .bs k sz _ lo n => sz = size ∧ 0 ≤ i ∧ i < n ∧ K (.addr k sz (lo + i.toNat) 0) b
  | _ => False
 | .sidx, [.p (.str s), .p (.int _ i)] => 0 ≤ i ∧ ∃ c, s.data.toList[i.toNat]? = some c ∧ K (.p (.int .u8 c.toNat)) b
 | .len, [x] => match sliceLen x with
  | some n => n ≤ maxLen → K (.p (.int .i64 n)) b
  | none => False
 | .lenD, [x] => match sliceLen x with
  | some n => K (.p (.int .i64 n)) b
  | none => False
 | .slen, [.p (.str z)] => K (.p (.int .i64 z.size)) b
 | .app size bytes, [.ow sz nl rows, y] => match y.frz b with
  | some (.sl sz2 _ rows2) => (sz = size ∨ (nl = true ∧ rows = [])) ∧ (sz2 = size ∨ rows2 = []) ∧ (rows.length + rows2.length) * bytes ≤ 140737488355328 ∧
    rows.length + rows2.length ≤ maxLen ∧ K (.ow size (nl && rows2.isEmpty) (rows ++ rows2)) b
  | _ => False
 | .app size bytes, [.p (.sl sz true []), y] => match y.frz b with
  | some (.sl sz2 _ rows2) => sz = size ∧ (sz2 = size ∨ rows2 = []) ∧ rows2.length * bytes ≤ 140737488355328 ∧ rows2.length ≤ maxLen ∧ K (.ow size rows2.isEmpty rows2) b
  | _ => False
 | .ext j, [.tup ds] => match ds[j]? with
  | some d => K d.dv b
  | none => False
 | .extp j, [.tup ds] => match ds[j]? with
  | some d => K d.dv.copy b
  | none => False
 | .call f, xs => match frzs b xs with
  | some args => ∃ r, PureCall P f args r ∧ K r b
  | none => False
 | .callv, fx :: xs => match fx.frz b, frzs b xs with
  | some (.fn f caps), some args => ∃ r, PureCall P f (args ++ caps) r ∧ K r b
  | _, _ => False
 | .mkfn f, xs => match frzs b xs with
  | some caps => K (.p (.fn f caps)) b
  | none => False
 | .mksl k size bytes isAgg zero, [.p (.int _ n), .p (.int _ m)] => n = m ∧ 0 ≤ n ∧ n * bytes ≤ 140737488355328 ∧ n ≤ maxLen ∧ zero.length = size ∧
   K (.bs k size isAgg 0 n.toNat) (setL b k (some ⟨true, size, List.replicate n.toNat zero, false⟩))
 | .slc size lo hi, x :: ys => match x with
  | .p (.sl sz nl rows) => (sz = size ∨ rows = []) ∧ match lo, hi, ys with
   | true, true, [.p (.int _ l), .p (.int _ h)] => 0 ≤ l ∧ l ≤ h ∧ h ≤ rows.length ∧ K (.p (.sl sz nl ((rows.take h.toNat).drop l.toNat))) b
   | true, false, [.p (.int _ l)] => 0 ≤ l ∧ l ≤ rows.length ∧ K (.p (.sl sz nl (rows.drop l.toNat))) b
   | false, true, [.p (.int _ h)] => 0 ≤ h ∧ h ≤ rows.length ∧ K (.p (.sl sz nl (rows.take h.toNat))) b
   | _, _, _ => False
  | _ => False
 | .ssl lo hi, .p (.str z) :: ys => match lo, hi, ys with
  | true, true, [.p (.int _ l), .p (.int _ h)] => 0 ≤ l ∧ l ≤ h ∧ h ≤ z.size ∧ K (.p (.str (z.extract l.toNat h.toNat))) b
  | true, false, [.p (.int _ l)] => 0 ≤ l ∧ l ≤ z.size ∧ K (.p (.str (z.extract l.toNat z.size))) b
  | false, true, [.p (.int _ h)] => 0 ≤ h ∧ h ≤ z.size ∧ K (.p (.str (z.extract 0 h.toNat))) b
  | _, _, _ => False
 | .slb k size, [.bs k' sz ag lo n, .p (.int _ h)] => k' = k ∧ sz = size ∧ lo = 0 ∧ 0 ≤ h ∧ h ≤ n ∧ match getB b k with
  | some bx => h ≤ bx.rows.length ∧ K (.bs k sz ag 0 h.toNat) (setL b k (some { bx with rows := bx.rows.take h.toNat }))
  | none => False
 | .callm f k, xs => match getB b k, argsM k b xs with
  | some bx, some args => bx.live = true ∧ allPR bx.rows = true ∧ ∃ rows' r, MCall P f bx.size args bx.rows rows' r ∧ K r (setL b k (some { bx with rows := rows' }))
  | _, _ => False
 | .mkmap k, [] => K (.mh k) (setL b k (some ⟨true, 0, [], false⟩))
 | .look q zero, [.mh k, .p (.int q' x)] => q' = q ∧ match getM b k with
  | some bx => match findM q x bx.rows with
   | some (some v) => K (.p v) b
   | some none => K (.p zero) b
   | none => False
  | none => False
 | .mupd q, [.mh k, .p (.int q' x), .p v] => q' = q ∧ v.one = true ∧ match getM b k with
  | some bx => match updM q x v bx.rows with
   | some rows => K .top (setL b k (some { bx with rows := rows }))
   | none => False
  | none => False
 | .eqat neq, [.p (.atom .nilIface), .p (.atom .nilIface)] => K (.p (.bool (!neq))) b
 | .eqs n neq, [.p (.agg xs), .p (.agg ys)] => xs.length = n ∧ match eqsP xs ys with
  | some r => K (.p (.bool (if neq then !r else r))) b
  | none => False
 | .eqb neq, [.p (.bool x), .p (.bool y)] => K (.p (.bool (if neq then !(x == y) else x == y))) b
 | .mkz size bytes row, [.p (.int _ n), .p (.int _ m)] => n = m ∧ 0 ≤ n ∧ n * bytes ≤ 140737488355328 ∧ n ≤ maxLen ∧ (rowCells row).length = size ∧
   K (.ow size false (List.replicate n.toNat row)) b
 | .s2b, [.p (.str z)] => z.size ≤ maxLen ∧ K (.p (.sl 1 false (z.data.toList.map fun c => .int .u8 c.toNat))) b
 | .nilchk, [x] => match x with
  | .addr _ _ _ _ => K x b
  | .p (.ptr _ _) => K x b
  | .p (.fn _ _) => K x b
  | _ => False
 | .mn, [.p (.int k x), .p (.int k' y)] => k = k' ∧ K (.p (.int k (if y < x then y else x))) b
 | .mx, [.p (.int k x), .p (.int k' y)] => k = k' ∧ K (.p (.int k (if y > x then y else x))) b
 | .ob κ, vs => semO P κ vs b K
 | _, _ => False
def semJ (P : Program) (κ : Kd) (vs : List DV) (b : List (Option Box)) (K : DV → List (Option Box) → Prop) : Prop :=
 match κ with
 | .at k κ' => match vs with
  | .addr k' _ _ _ :: _ => k' = k ∧ semI P κ' vs b K
  | _ => False
 | .pl κ' => (pvsOf vs).isSome = true ∧ semI P κ' vs b K
 | κ' => semI P κ' vs b K
def Kd.core : Kd → Kd
 | .at _ κ => κ
 | .pl κ => κ
 | κ => κ
def degr : Kd → List O → List DV → List DV
 | .mov true, [.t n], t => setL t n (getT t n).copy
 | .app _ _, .t n :: _, t => setL t n (getT t n).copy
 | .store _, [_, .t n], t => setL t n (getT t n).copy
 | .ext j, [.t n], t => match getT t n with
  | .tup ds => match ds[j]? with
   | some d => setL t n (.tup (setL ds j d.copy))
   | none => t
  | _ => t
 | _, _, t => t
def putD (t : List DV) (d : Option Nat) (v : DV) : List DV :=
 match d with
 | some i => setL t i v
 | none => t
def noRefT (k : Nat) : List DV → Bool
 | [] => true
 | d :: ds => !d.ment k && noRefT k ds
def noRefR (k : Nat) : List (List DV) → Bool
 | [] => true
 | r :: rs => noRefT k r && noRefR k rs
def noRefB (k : Nat) : Nat → List (Option Box) → Bool
 | _, [] => true
 | i, x :: xs => (i == k || match x with | some bx => noRefR k bx.rows | none => true) && noRefB k (i + 1) xs
def newBox : Kd → Option Nat
 | .box k _ | .alloc k _ _ | .mksl k _ _ _ _ | .mkmap k | .ob (.ldo k _) => some k
 | _ => none
def growB : Kd → Bool
 | .ob (.callo _ true) | .ob (.callvo true) | .ob (.appd _ _ _) | .ob (.bsld _ _ _) => true
 | _ => false
def fresh (i : Ins) (s : St) : Prop :=
 match newBox i.k with
 | some k => k < s.b.length ∧ noRefT k (putD s.t i.d .top) = true ∧ noRefB k 0 s.b = true
 | none => bif growB i.k then (ltT s.b.length (putD s.t i.d .top) && ltB s.b.length s.b) = true else True
def exec (P : Program) (i : Ins) (s : St) (K : St → Prop) : Prop :=
 fresh i s ∧ semJ P i.k (i.xs.map (O.val s.t)) s.b fun v b' => K ⟨putD (degr i.k.core i.xs s.t) i.d v, b'⟩
def execG (P : Program) (i : Ins) (s : St) (K : St → Prop) : Prop :=
 match i.g with
 | none => exec P i s K
 | some (j, want) => match getT s.t j with
  | .p (.bool c) => (c = want → exec P i ⟨setL s.t j (.p (.bool want)), s.b⟩ K) ∧ (c = (!want) → K ⟨putD (setL s.t j (.p (.bool (!want)))) i.d (.tup []), s.b⟩)
  | .tup [] => K ⟨putD s.t i.d (.tup []), s.b⟩
  | _ => False
def execs (P : Program) : List Ins → St → (St → Prop) → Prop
 | [], s, K => K s
 | i :: is, s, K => execG P i s fun s' => execs P is s' K
end Go.Proofs.YtnjphclbpgajpaaGreatDoor.Vc
namespace Go.Proofs.YtnjphclbpgajpaaGreatDoor.Vc
open Go.RowKit
variable {P : Program}
def Post (G : Gl) (K : St → Prop) (a : Act) (w : World) : Prop := ∃ s X, Rel G X s a ∧ X.w = w ∧ K s
theorem Rel.get {G : Gl} {X : Cx} {s : St} {a : Act} (h : Rel G X s a) (n : Nat) : VRel X G.base (.tmp n) (getT s.t n) (a.tmps.getD n undef) := by
 rw [getT_eq]
 cases hn : s.t[n]? with
 | none => trivial
 | some d => exact h.tmps n d hn
theorem put_tmps (a : Act) (d : Option Nat) (u : Value) (i : Nat) : (a.put d u).tmps.getD i undef = if d = some i ∧ i < a.tmps.size then u else a.tmps.getD i undef := by
 cases d with
 | none => simp [Act.put]
 | some j =>
  simp only [Act.put, Option.some.injEq]
  by_cases hij : j = i
  ·subst hij
   by_cases hlt : j < a.tmps.size
   ·simp [Array.getD, hlt]
   ·simp [Array.getD, hlt]
  ·by_cases hlt : i < a.tmps.size
   ·simp [Array.getD, hlt, hij]
   ·simp [Array.getD, hlt]
theorem put_size (a : Act) (d : Option Nat) (u : Value) : (a.put d u).tmps.size = a.tmps.size := by cases d <;> simp [Act.put]
theorem put_defers (a : Act) (d : Option Nat) (u : Value) : (a.put d u).defers = a.defers := by cases d <;> simp [Act.put]
theorem putD_length (t : List DV) (d : Option Nat) (v : DV) : (putD t d v).length = t.length := by cases d <;> simp [putD, setL_length]
theorem putD_get (t : List DV) (d : Option Nat) (v : DV) (i : Nat) : (putD t d v)[i]? = if d = some i then t[i]?.map (fun _ => v) else t[i]? := by
 cases d with
 | none => simp [putD]
 | some j => simp only [putD, getElem?_setL, Option.some.injEq]; by_cases h : i = j <;> simp [h, eq_comm]
theorem Rel.put {G : Gl} {X : Cx} {s : St} {a : Act} (h : Rel G X s a) {d : Option Nat} {v : DV} {u : Value} (hv : ∀ j, d = some j → VRel X G.base (.tmp j) v u) :
  Rel G X ⟨putD s.t d v, s.b⟩ (a.put d u) := by
 refine ⟨by rw [put_defers]; exact h.defers, by rw [put_size]; simp [putD_length, h.size], ?_, h.boxes, h.below, h.hb, h.mold⟩
 intro i e he
 simp only [putD_get] at he
 rw [put_tmps]
 by_cases hd : d = some i
 ·rw [if_pos hd] at he
  cases ht : s.t[i]? with
  | none => rw [ht] at he; simp at he
  | some e0 =>
   rw [ht] at he
   simp at he
   subst he
   have hlt : i < s.t.length := (List.getElem?_eq_some_iff.1 ht).1
   rw [if_pos ⟨hd, by rw [h.size]; exact hlt⟩]
   exact hv i hd
 ·rw [if_neg hd] at he
  rw [if_neg (fun hh => hd hh.1)]
  exact h.tmps i e he
theorem Rel.weak {G : Gl} {X : Cx} {s : St} {a : Act} (h : Rel G X s a) (n : Nat) (v : DV) (hv : VRel X G.base (.tmp n) v (a.tmps.getD n undef)) : Rel G X ⟨setL s.t n v, s.b⟩ a := by
 refine ⟨h.defers, by simp [setL_length, h.size], ?_, h.boxes, h.below, h.hb, h.mold⟩
 intro i e he
 rw [getElem?_setL] at he
 by_cases hi : i = n
 ·subst hi
  rw [if_pos rfl] at he
  cases ht : s.t[i]? with
  | none => rw [ht] at he; simp at he
  | some e0 => rw [ht] at he; simp at he; subst he; exact hv
 ·rw [if_neg hi] at he
  exact h.tmps i e he
inductive OT : Operand → O → Prop
 | tmp (n : Nat) : OT (.tmp n) (.t n)
 | int (k : IntKind) (n : Int) : OT (.const (.int k n)) (.c (.p (.int k n)))
 | bool (b : Bool) : OT (.const (.bool b)) (.c (.p (.bool b)))
 | str (s : ByteArray) : OT (.const (.string s)) (.c (.p (.str s)))
 | nil (n : Nat) : OT (.const (.slice none 0 0)) (.c (.ow n true []))
 | nilp (n : Nat) : OT (.const (.slice none 0 0)) (.c (.p (.sl n true [])))
 | func (f : FuncId) : OT (.func f) (.c (.p (.fn f [])))
 | atom (v : Value) (h : v.oneCell' = true) : OT (.const v) (.c (.p (.atom v)))
 | any (x : Operand) : OT x (.c .top)
theorem VRel.const {X : Cx} {base : Nat} {L : Loc} {a : Act} {t : List DV} {x : Operand} {o : O} (h : OT x o) (hn : ∀ n, o ≠ .t n) : VRel X base L (o.val t) (a.eval x) := by
 cases h with
 | tmp n => exact absurd rfl (hn n)
 | int k n => exact Flat.int k n
 | bool b => exact Flat.bool b
 | str s => exact Flat.str s
 | nil n => exact .inl ⟨rfl, .inl ⟨rfl, rfl⟩⟩
 | nilp n => exact Flat.nilsl n
 | func f => exact Flat.fn f [] #[] rfl (fun i c v h => by simp at h)
 | atom v h => exact Flat.atom v h
 | any x => trivial
theorem Rel.opnd {G : Gl} {X : Cx} {s : St} {a : Act} (h : Rel G X s a) {x : Operand} {o : O} (ho : OT x o) : ∃ L, VRel X G.base L (o.val s.t) (a.eval x) := by
 cases ho with
 | tmp n => exact ⟨.tmp n, h.get n⟩
 | _ => exact ⟨.tmp 0, VRel.const (by first | exact .int _ _ | exact .bool _ | exact .str _ | exact .nil _ | exact .nilp _ | exact .func _ | exact .any _ | (exact .atom _ (by assumption))) (by intro n hn; cases hn)⟩
theorem wp_value {G : Gl} {X : Cx} {s : St} {a : Act} {o : Oper} {K : St → Prop} {Q : Exit → Act → World → Prop} {v : DV} {u : Value}
  (h : Rel G X s a) (hrun : (execOp a.eval o).run P X.w = .ok (.value u) X.w) (hv : ∀ j, o.dst = some j → VRel X G.base (.tmp j) v u)
  (hK : K ⟨putD s.t o.dst v, s.b⟩) : o.wp P a X.w (Post G K) Q := by
 unfold Oper.wp
 rw [hrun, Oper.upon_value]
 exact ⟨_, X, h.put hv, rfl, hK⟩
theorem wp_pv {G : Gl} {X : Cx} {s : St} {a : Act} {o : Oper} {K : St → Prop} {Q : Exit → Act → World → Prop} {z : PV} {u : Value}
  (h : Rel G X s a) (hrun : (execOp a.eval o).run P X.w = .ok (.value u) X.w) (hv : Flat X.M X.w z u)
  (hK : K ⟨putD s.t o.dst (.p z), s.b⟩) : o.wp P a X.w (Post G K) Q := wp_value (v := .p z) h hrun (fun _ _ => hv) hK
theorem pv_of {X : Cx} {base : Nat} {L : Loc} {d : DV} {x : PV} {v : Value} (h : VRel X base L d v) (hx : pvOf d = some x) : Flat X.M X.w x v := by
 cases d <;> simp [pvOf] at hx
 ·subst hx; exact h
 ·subst hx; exact OwRel.flat h
theorem Flat.intv {M : Nat → Nat → Prop} {w : World} {k : IntKind} {n : Int} {v : Value} (h : Flat M w (.int k n) v) : v = .int k n := by cases h; rfl
theorem Flat.boolv {M : Nat → Nat → Prop} {w : World} {b : Bool} {v : Value} (h : Flat M w (.bool b) v) : v = .bool b := by cases h; rfl
theorem Flat.strv {M : Nat → Nat → Prop} {w : World} {s : ByteArray} {v : Value} (h : Flat M w (.str s) v) : v = .string s := by cases h; rfl
theorem run_binPV {G : Gl} {X : Cx} {s : St} {a : Act} {Q : Exit → Act → World → Prop} {o : Oper} {K : St → Prop} (h : Rel G X s a) (op : BinOp) (t t' : TypeId) (x y : Operand) (ho : o.op = .binOp op t x y t')
  {p q : PV} (hx : Flat X.M X.w p (a.eval x)) (hy : Flat X.M X.w q (a.eval y)) (hK : binPV op p q fun z => K ⟨putD s.t o.dst (.p z), s.b⟩) : o.wp P a X.w (Post G K) Q := by
 cases p <;> cases q <;> simp only [binPV] at hK <;> try exact hK.elim
 case int.int k m k' n =>
  have ex := hx.intv
  have ey := hy.intv
  cases op <;> simp only at hK
  case quo | rem =>
   obtain ⟨rfl, hn, hK⟩ := hK
   refine wp_pv (z := .int _ _) h ?_ (Flat.int _ _) hK
   simp [execOp, ho, ex, ey, binOp, Op.intDiv, hn, eqGuard]
  case shl | shr =>
   obtain ⟨hn, hK⟩ := hK
   refine wp_pv (z := .int _ _) h ?_ (Flat.int _ _) hK
   simp [execOp, ho, ex, ey, binOp, Op.shift, Int.not_lt.2 hn, eqGuard]
  all_goals
   obtain ⟨rfl, hK⟩ := hK
   first | refine wp_pv (z := .int _ _) h ?_ (Flat.int _ _) hK | refine wp_pv (z := .bool _) h ?_ (Flat.bool _) hK
   simp [execOp, ho, ex, ey, binOp, Op.intArith, Op.intCmp, Op.intBits, bitsOf, eqGuard]
 case str.str m n =>
  have ex := hx.strv
  have ey := hy.strv
  cases op <;> simp only at hK <;> try exact hK.elim
  case add =>
   obtain ⟨hn, hK⟩ := hK
   refine wp_pv (z := .str _) h ?_ (Flat.str _) hK
   have hn' : ¬ ((m.size + n.size : Nat) : Int) > IntKind.i64.max := by
    have : IntKind.i64.max = 9223372036854775807 := by decide
    rw [this]; omega
   simp only [execOp, ho, ex, ey, binOp, Op.stringOp, eqGuard, if_neg hn']
   simp
  all_goals
   refine wp_pv (z := .bool _) h ?_ (Flat.bool _) hK
   simp [execOp, ho, ex, ey, binOp, Op.stringOp, eqGuard]
end Go.Proofs.YtnjphclbpgajpaaGreatDoor.Vc
namespace Go.Proofs.YtnjphclbpgajpaaGreatDoor.Vc
open Go.RowKit
variable {P : Program}
section
variable {G : Gl} {X : Cx} {s : St} {a : Act} {Q : Exit → Act → World → Prop} {o : Oper} {K : St → Prop}
theorem s_pick (h : Rel G X s a) {c x y : Operand} {oc ox oy : O} (hc : OT c oc) (hx : OT x ox) (hy : OT y oy) (ho : o.op = .pick c x y)
  (hK : semI P .pick [oc.val s.t, ox.val s.t, oy.val s.t] s.b fun v b => K ⟨putD s.t o.dst v, b⟩) : o.wp P a X.w (Post G K) Q := by
 obtain ⟨Lc, rc⟩ := h.opnd hc
 obtain ⟨Lx, rx⟩ := h.opnd hx
 obtain ⟨Ly, ry⟩ := h.opnd hy
 generalize oc.val s.t = vc at *
 cases vc with
 | p z =>
  cases z with
  | bool b =>
   have e := Flat.boolv rc
   simp only [semI] at hK
   cases b with
   | true => exact wp_value h (by simp [execOp, ho, e, asBool]) (fun j _ => rx.copy _) (hK.1 rfl)
   | false => exact wp_value h (by simp [execOp, ho, e, asBool]) (fun j _ => ry.copy _) (hK.2 rfl)
  | _ => simp [semI] at hK
 | _ => simp [semI] at hK
theorem s_un (h : Rel G X s a) {op : UnOp} {t : TypeId} {x : Operand} {ox : O} (hx : OT x ox) (ho : o.op = .unOp op t x)
  (hK : semI P (.un op) [ox.val s.t] s.b fun v b => K ⟨putD s.t o.dst v, b⟩) : o.wp P a X.w (Post G K) Q := by
 obtain ⟨Lx, rx⟩ := h.opnd hx
 generalize ox.val s.t = vx at *
 cases vx with
 | p z =>
  cases z with
  | bool b =>
   have e := Flat.boolv rx
   cases op <;> simp only [semI] at hK <;> try exact hK.elim
   exact wp_pv (z := .bool _) h (by simp [execOp, ho, e, Op.unary]) (.bool _) hK
  | int k n =>
   have e := Flat.intv rx
   cases op <;> simp only [semI] at hK <;> try exact hK.elim
   exact wp_pv (z := .int _ _) h (by simp [execOp, ho, e, Op.unary, Op.intArith]) (.int _ _) hK
  | _ => simp [semI] at hK
 | _ => simp [semI] at hK
theorem s_conv (h : Rel G X s a) {k : IntKind} {src dst : TypeId} {x : Operand} {ox : O} (hx : OT x ox) (ho : o.op = .convert src dst x)
  (hs : ∃ d, P.underlying src = some d) (hd : P.underlying dst = some (.int k))
  (hK : semI P (.conv k) [ox.val s.t] s.b fun v b => K ⟨putD s.t o.dst v, b⟩) : o.wp P a X.w (Post G K) Q := by
 obtain ⟨Lx, rx⟩ := h.opnd hx
 obtain ⟨ds, hs⟩ := hs
 generalize ox.val s.t = vx at *
 cases vx with
 | p z =>
  cases z with
  | int k' n =>
   have e := Flat.intv rx
   simp only [semI] at hK
   exact wp_pv (z := .int _ _) h (by simp [execOp, ho, e, convert, run_underlying hs, run_underlying hd, Conv.intToInt]) (.int _ _) hK
  | _ => simp [semI] at hK
 | _ => simp [semI] at hK
theorem s_fad (h : Rel G X s a) {off : Nat} {t : TypeId} {f : Nat} {x : Operand} {ox : O} (hx : OT x ox) (ho : o.op = .fieldAddr t x f)
  {fs : Array Field} {fd : Field} {i : TypeInfo} (hu : P.underlying t = some (.struct fs)) (hf : fs[f]? = some fd) (hi : P.info? fd.type = some i) (hz : i.size ≠ 0) (hoff : fd.offset = off)
  (hK : semI P (.fad off) [ox.val s.t] s.b fun v b => K ⟨putD s.t o.dst v, b⟩) : o.wp P a X.w (Post G K) Q := by
 obtain ⟨Lx, rx⟩ := h.opnd hx
 subst hoff
 generalize ox.val s.t = vx at *
 have run : ∀ b n, a.eval x = .pointer (some ⟨b, n, none⟩) → (execOp a.eval o).run P X.w = .ok (.value (.pointer (some ⟨b, n + fd.offset, none⟩))) X.w := by
  intro b n e
  simp [execOp, ho, e, Instr.fieldAt, run_underlying hu, hf, Instr.sureAddr, fieldPlace, sizeOf, typeInfo, hi, hz, Addr.add_lit]
 cases vx with
 | addr k size r n =>
  obtain ⟨blk, h1, e⟩ := rx
  simp only [semI] at hK
  refine wp_value h (run _ _ e) (fun j _ => ?_) hK
  exact ⟨blk, h1, by rw [Nat.add_assoc]⟩
 | p z =>
  cases z with
  | ptr cells n =>
   simp only [semI] at hK
   generalize hv : a.eval x = v at *
   cases (show Flat X.M X.w (.ptr cells n) v from rx) with
   | ptr _ _ b n0 cv hc h1 hr =>
    refine wp_pv h (run _ _ rfl) ?_ hK
    rw [Nat.add_assoc]
    exact .ptr cells _ b n0 cv hc h1 hr
  | _ => simp [semI] at hK
 | _ => simp [semI] at hK
theorem takeP_eq (l : List PV) (off n : Nat) : takeP l off n = (l.drop off).take n := by
 induction l generalizing off n with
 | nil => cases n <;> simp [takeP]
 | cons x xs ih => cases n <;> cases off <;> simp [takeP, ih]
theorem takeD_eq (l : List DV) (off n : Nat) : takeD l off n = (l.drop off).take n := by
 induction l generalizing off n with
 | nil => cases n <;> simp [takeD]
 | cons x xs ih => cases n <;> cases off <;> simp [takeD, ih]
structure TyIs (P : Program) (t : TypeId) (n : Nat) (isA : Bool) : Prop where
 info : ∃ i, P.info? t = some i ∧ i.size = n
 agg : ∃ d, P.underlying t = some d ∧ (match d with | .struct _ | .array _ _ => true | _ => false) = isA
theorem TyIs.run_isAgg {t : TypeId} {n : Nat} {isA : Bool} (h : TyIs P t n isA) (w : World) : (isAgg t).run P w = .ok isA w := by
 obtain ⟨d, hd, he⟩ := h.agg
 simp only [isAgg, Sem.run_bind, run_underlying hd, Result.andThen_ok]
 cases d <;> simp at he <;> subst he <;> simp
theorem TyIs.run_sizeOf {t : TypeId} {n : Nat} {isA : Bool} (h : TyIs P t n isA) (w : World) : (sizeOf t).run P w = .ok n w := by
 obtain ⟨i, hi, rfl⟩ := h.info
 simp [sizeOf, typeInfo, hi]
theorem agg_part {M : Nat → Nat → Prop} {w : World} {cs : List PV} {vs : Array Value} (h : Flat M w (.agg cs) (.agg vs)) (off n : Nat) (hn : off + n ≤ cs.length) :
  Flat M w (.agg (takeP cs off n)) (.agg (vs.extract off (off + n))) := by
 cases h with
 | agg _ _ hl h1 h =>
  refine .agg _ _ ?_ ?_ ?_
  ·rw [takeP_eq]; simp [hl]; omega
  ·intro c hc; rw [takeP_eq] at hc; exact h1 c (List.mem_of_mem_drop (List.mem_of_mem_take hc))
  ·intro i c v hc hv
   rw [takeP_eq, List.getElem?_take] at hc
   split at hc
   ·rw [List.getElem?_drop] at hc
    rw [Array.getElem?_extract] at hv
    split at hv
    ·exact h (off + i) c v hc hv
    ·simp at hv
   ·simp at hc
theorem s_fld (h : Rel G X s a) {off n : Nat} {isA : Bool} {t : TypeId} {f : Nat} {x : Operand} {ox : O} (hx : OT x ox) (ho : o.op = .field t x f)
  {fs : Array Field} {fd : Field} (hu : P.underlying t = some (.struct fs)) (hf : fs[f]? = some fd) (hi : TyIs P fd.type n isA) (hoff : fd.offset = off)
  (hK : semI P (.fld off n isA) [ox.val s.t] s.b fun v b => K ⟨putD s.t o.dst v, b⟩) : o.wp P a X.w (Post G K) Q := by
 obtain ⟨Lx, rx⟩ := h.opnd hx
 subst hoff
 generalize ox.val s.t = vx at *
 cases vx with
 | p z =>
  cases z with
  | agg cs =>
   simp only [semI, loadP] at hK
   generalize hv : a.eval x = v at *
   have rx' : Flat X.M X.w (.agg cs) v := rx
   cases rx' with
   | agg _ vs hl h1 hh =>
    cases isA with
    | true =>
     simp only [if_true] at hK
     refine wp_pv (z := .agg _) (u := .agg (vs.extract fd.offset (fd.offset + n))) h ?_ (agg_part (.agg cs vs hl h1 hh) _ _ hK.1) hK.2
     simp [execOp, ho, hv, Instr.field, run_underlying hu, hf, part, hi.run_isAgg, hi.run_sizeOf, asAgg]
    | false =>
     simp only [Bool.false_eq_true, if_false] at hK
     obtain ⟨c, hc, hK⟩ := hK
     have hlt : fd.offset < vs.size := by rw [hl]; exact (List.getElem?_eq_some_iff.1 hc).1
     refine wp_pv (z := c) (u := vs[fd.offset]) h ?_ (hh _ c _ hc (by simp [hlt])) hK
     simp [execOp, ho, hv, Instr.field, run_underlying hu, hf, part, hi.run_isAgg, asAgg, hlt]
  | _ => simp [semI] at hK
 | _ => simp [semI] at hK
theorem run_index {t e : TypeId} {n : Nat} {isA : Bool} (hu : P.underlying t = some (.slice e)) (hi : TyIs P e n isA) (w : World) (b off len cap : Nat) (k : IntKind) (i : Int) (h0 : 0 ≤ i) (h1 : i < len) :
  (Instr.indexAt t (.slice (some ⟨b, off, none⟩) len cap) (.int k i)).run P w = .ok (.pointer (some ⟨b, off + i.toNat * n, none⟩)) w := by
 simp [Instr.indexAt, asIntOf, run_underlying hu, h0, h1, hi.run_sizeOf, Addr.add_lit]
theorem flat_index {M : Nat → Nat → Prop} {w : World} {size : Nat} {nl : Bool} {rows : List PV} {v : Value} (h : Flat M w (.sl size nl rows) v) {i : Nat} {row : PV} (hr : rows[i]? = some row) :
  ∃ b off cap, v = .slice (some ⟨b, off, none⟩) rows.length cap ∧ Flat M w (.ptr (rowCells row) 0) (.pointer (some ⟨b, off + i * size, none⟩)) := by
 have hlt : i < rows.length := (List.getElem?_eq_some_iff.1 hr).1
 cases h with
 | nilsl => simp at hr
 | sl0 => simp at hr
 | sl _ _ b off cap cv hcap hmax hc hs h1 hrr =>
  refine ⟨b, off, cap, rfl, ?_⟩
  have hm := List.mem_of_getElem? hr
  have := Flat.ptr (M := M) (w := w) (rowCells row) 0 b (off + i * size) (fun j => cv (i * size + j)) (fun j hj => ?_) (h1 row hm) (fun j c hcj => hrr i j row c hr hcj)
  ·simpa using this
  ·rw [hs row hm] at hj
   have h2 : i * size + j < rows.length * size := Nat.lt_of_lt_of_le (by omega : i * size + j < i * size + size) (by rw [← Nat.succ_mul]; exact Nat.mul_le_mul_right _ hlt)
   have := hc (i * size + j) h2
   rw [Nat.add_assoc]
   exact this
theorem s_iad (h : Rel G X s a) {size : Nat} {isA : Bool} {t e : TypeId} {x ix : Operand} {ox oi : O} (hx : OT x ox) (hix : OT ix oi) (ho : o.op = .indexAddr t x ix)
  (hu : P.underlying t = some (.slice e)) (hi : TyIs P e size isA)
  (hK : semI P (.iad size) [ox.val s.t, oi.val s.t] s.b fun v b => K ⟨putD s.t o.dst v, b⟩) : o.wp P a X.w (Post G K) Q := by
 obtain ⟨Lx, rx⟩ := h.opnd hx
 obtain ⟨Li, ri⟩ := h.opnd hix
 generalize ox.val s.t = vx at *
 generalize oi.val s.t = vi at *
 have imm : ∀ sz nl rows k i, Flat X.M X.w (.sl sz nl rows) (a.eval x) → a.eval ix = .int k i → sz = size → 0 ≤ i → (∃ row, rows[i.toNat]? = some row ∧ K ⟨putD s.t o.dst (.p (.ptr (rowCells row) 0)), s.b⟩) → o.wp P a X.w (Post G K) Q := by
  intro sz nl rows k i hfl ei hsz h0 ⟨row, hr, hKK⟩
  subst hsz
  obtain ⟨b, off, cap, ev, hp⟩ := flat_index hfl hr
  have hlt : i.toNat < rows.length := (List.getElem?_eq_some_iff.1 hr).1
  refine wp_pv h ?_ hp hKK
  have hr' := run_index (P := P) hu hi X.w b off rows.length cap k i h0 (by omega)
  simp [execOp, ho, ev, ei, hr']
 cases vi with
 | p z =>
  cases z with
  | int k i =>
   have ei := Flat.intv ri
   simp only [semI] at hK
   cases vx with
   | p z =>
    cases z with
    | sl sz nl rows => exact imm _ _ _ k i rx ei hK.1 hK.2.1 hK.2.2
    | _ => exact hK.elim
   | ow sz nl rows => exact imm _ _ _ k i (OwRel.flat rx) ei hK.1 hK.2.1 hK.2.2
   | bs k' sz ag lo n =>
    obtain ⟨rfl, h0, h1, hK⟩ := hK
    obtain ⟨blk, cap, e1, e2, e3, _, ev⟩ := rx
    refine wp_value (v := .addr k' sz (lo + i.toNat) 0) h (u := .pointer (some ⟨blk, lo * sz + i.toNat * sz, none⟩)) ?_ (fun j _ => ⟨blk, e1, by rw [Nat.add_mul]; rfl⟩) hK
    have hr' := run_index (P := P) hu hi X.w blk (lo * sz) n cap k i h0 (by omega)
    simp [execOp, ho, ev, ei, hr']
   | _ => exact hK.elim
  | _ => simp [semI] at hK
 | _ => simp [semI] at hK
theorem run_len {t : TypeId} {x : Operand} (ho : o.op = .call { callee := .builtin .len, args := #[x], argTypes := #[t] }) {e : TypeId} (hu : P.underlying t = some (.slice e))
  {b : Option Addr} {n c : Nat} (ev : a.eval x = .slice b n c) (w : World) : (execOp a.eval o).run P w = .ok (.value (.int .i64 n)) w := by
 simp [execOp, ho, resolve, invoke, builtin, Builtin.len_, run_underlying hu, ev, goInt]
theorem Flat.slv {M : Nat → Nat → Prop} {w : World} {size : Nat} {nl : Bool} {rows : List PV} {v : Value} (h : Flat M w (.sl size nl rows) v) : ∃ b cap, v = .slice b rows.length cap := by
 cases h with
 | nilsl => exact ⟨none, 0, rfl⟩
 | sl0 _ a => exact ⟨some a, 0, rfl⟩
 | sl _ _ b off cap => exact ⟨_, cap, rfl⟩
theorem Flat.sl_le {M : Nat → Nat → Prop} {w : World} {size : Nat} {nl : Bool} {rows : List PV} {v : Value} (h : Flat M w (.sl size nl rows) v) : rows.length ≤ maxLen := by
 cases h with
 | nilsl => exact Nat.zero_le _
 | sl0 => exact Nat.zero_le _
 | sl _ _ b off cap cv hcap hmax => exact Nat.le_trans hcap hmax
theorem s_len (h : Rel G X s a) {t e : TypeId} {x : Operand} {ox : O} (hx : OT x ox) (ho : o.op = .call { callee := .builtin .len, args := #[x], argTypes := #[t] })
  (hu : P.underlying t = some (.slice e))
  (hK : semI P .len [ox.val s.t] s.b fun v b => K ⟨putD s.t o.dst v, b⟩) : o.wp P a X.w (Post G K) Q := by
 obtain ⟨Lx, rx⟩ := h.opnd hx
 generalize ox.val s.t = vx at *
 cases vx with
 | p z =>
  cases z with
  | sl size nl rows =>
   obtain ⟨b, cap, ev⟩ := Flat.slv rx
   exact wp_pv (z := .int .i64 _) h (run_len ho hu ev _) (.int _ _) (hK (Flat.sl_le rx))
  | _ => simp [semI, sliceLen] at hK
 | ow size nl rows =>
  obtain ⟨b, cap, ev⟩ := (OwRel.flat rx).slv
  exact wp_pv (z := .int .i64 _) h (run_len ho hu ev _) (.int _ _) (hK (OwRel.flat rx).sl_le)
 | bs k size ag lo n =>
  obtain ⟨blk, cap, e1, e2, e3, _, ev⟩ := rx
  exact wp_pv (z := .int .i64 _) h (run_len ho hu ev _) (.int _ _) (hK (Nat.le_trans e2 e3))
 | pk q =>
  cases q with
  | none => simp [semI, sliceLen] at hK
  | some n =>
   obtain ⟨e1, ad, cap, ev⟩ := rx
   exact wp_pv (z := .int .i64 _) h (run_len ho hu ev _) (.int _ _) (hK e1)
 | _ => simp [semI, sliceLen] at hK
theorem s_slen (h : Rel G X s a) {t : TypeId} {x : Operand} {ox : O} (hx : OT x ox) (ho : o.op = .call { callee := .builtin .len, args := #[x], argTypes := #[t] })
  (hu : P.underlying t = some .string)
  (hK : semI P .slen [ox.val s.t] s.b fun v b => K ⟨putD s.t o.dst v, b⟩) : o.wp P a X.w (Post G K) Q := by
 obtain ⟨Lx, rx⟩ := h.opnd hx
 generalize ox.val s.t = vx at *
 cases vx with
 | p z =>
  cases z with
  | str z =>
   have ev := Flat.strv rx
   refine wp_pv (z := .int .i64 _) h ?_ (.int _ _) hK
   simp [execOp, ho, resolve, invoke, builtin, Builtin.len_, run_underlying hu, ev, goInt]
  | _ => simp [semI] at hK
 | _ => simp [semI] at hK
theorem s_minmax (h : Rel G X s a) {mx : Bool} {t : TypeId} {x y : Operand} {ox oy : O} (hx : OT x ox) (hy : OT y oy) (ho : o.op = .call { callee := .builtin (if mx then .max else .min), args := #[x, y], argTypes := #[t, t] })
  (hK : semI P (if mx then .mx else .mn) [ox.val s.t, oy.val s.t] s.b fun v b => K ⟨putD s.t o.dst v, b⟩) : o.wp P a X.w (Post G K) Q := by
 obtain ⟨Lx, rx⟩ := h.opnd hx
 obtain ⟨Ly, ry⟩ := h.opnd hy
 generalize ox.val s.t = vx at *
 generalize oy.val s.t = vy at *
 cases vx with
 | p z =>
  cases z with
  | int k m =>
   cases vy with
   | p z =>
    cases z with
    | int k' n =>
     have ex := Flat.intv rx
     have ey := Flat.intv ry
     cases mx with
     | true =>
      simp only [if_true, semI] at hK
      obtain ⟨rfl, hK⟩ := hK
      exact wp_pv (z := .int _ _) h (by simp [execOp, ho, resolve, invoke, builtin, Builtin.max_, Builtin.max2, ex, ey]) (.int _ _) hK
     | false =>
      simp only [Bool.false_eq_true, if_false, semI] at hK
      obtain ⟨rfl, hK⟩ := hK
      exact wp_pv (z := .int _ _) h (by simp [execOp, ho, resolve, invoke, builtin, Builtin.min_, Builtin.min2, ex, ey]) (.int _ _) hK
    | _ => cases mx <;> simp [semI] at hK
   | _ => cases mx <;> simp [semI] at hK
  | _ => cases mx <;> simp [semI] at hK
 | _ => cases mx <;> simp [semI] at hK
theorem s_nilchk (h : Rel G X s a) {x : Operand} {ox : O} (hx : OT x ox) (ho : o.op = .nilCheck x)
  (hK : semI P .nilchk [ox.val s.t] s.b fun v b => K ⟨putD s.t o.dst v, b⟩) : o.wp P a X.w (Post G K) Q := by
 obtain ⟨Lx, rx⟩ := h.opnd hx
 generalize ox.val s.t = vx at *
 cases vx with
 | addr k size r off =>
  simp only [semI] at hK
  obtain ⟨blk, h1, ev⟩ := rx
  exact wp_value (v := .addr k size r off) h (by simp [execOp, ho, ev]) (fun j _ => ⟨blk, h1, rfl⟩) hK
 | p z =>
  cases z with
  | ptr cells off =>
   simp only [semI] at hK
   generalize hv : a.eval x = v at *
   have rx' : Flat X.M X.w (.ptr cells off) v := rx
   have := rx'
   cases rx' with
   | ptr _ _ b n0 cv hc h1 hr => exact wp_pv h (by simp [execOp, ho, hv]) this hK
  | fn f caps =>
   simp only [semI] at hK
   generalize hv : a.eval x = v at *
   have rx' : Flat X.M X.w (.fn f caps) v := rx
   have := rx'
   cases rx' with
   | fn _ _ vs hl hh => exact wp_pv h (by simp [execOp, ho, hv]) this hK
  | _ => simp [semI] at hK
 | _ => simp [semI] at hK
theorem s_sidx (h : Rel G X s a) {t : TypeId} {x ix : Operand} {ox oi : O} (hx : OT x ox) (hix : OT ix oi) (ho : o.op = .index t x ix) (hu : P.underlying t = some .string)
  (hK : semI P .sidx [ox.val s.t, oi.val s.t] s.b fun v b => K ⟨putD s.t o.dst v, b⟩) : o.wp P a X.w (Post G K) Q := by
 obtain ⟨Lx, rx⟩ := h.opnd hx
 obtain ⟨Li, ri⟩ := h.opnd hix
 generalize ox.val s.t = vx at *
 generalize oi.val s.t = vi at *
 cases vx with
 | p z =>
  cases z with
  | str z =>
   cases vi with
   | p y =>
    cases y with
    | int k i =>
     have ex := Flat.strv rx
     have ei := Flat.intv ri
     simp only [semI] at hK
     obtain ⟨h0, c, hc, hK⟩ := hK
     have hlt : i.toNat < z.size := by
      have := (List.getElem?_eq_some_iff.1 hc).1
      simpa using this
     have hz : z[i.toNat]? = some c := by
      have h2 := (List.getElem?_eq_some_iff.1 hc).2
      rw [getElem?_pos z i.toNat hlt]
      congr 1
     refine wp_pv (z := .int .u8 _) h ?_ (.int _ _) hK
     simp [execOp, ho, Instr.index, asIntOf, run_underlying hu, ex, ei, h0, hz]
    | _ => simp [semI] at hK
   | _ => simp [semI] at hK
  | _ => simp [semI] at hK
 | _ => simp [semI] at hK
theorem flat_slice {M : Nat → Nat → Prop} {w : World} {size : Nat} {rows : List PV} {b off cap : Nat} (h : Flat M w (.sl size false rows) (.slice (some ⟨b, off, none⟩) rows.length cap))
  (l m : Nat) (hlm : l ≤ m) (hm : m ≤ rows.length) : Flat M w (.sl size false ((rows.take m).drop l)) (.slice (some ⟨b, if cap = l then off else off + l * size, none⟩) (m - l) (cap - l)) := by
 cases h with
 | sl0 =>
  simp at hm
  subst hm
  have : l = 0 := by omega
  subst this
  simpa using Flat.sl0 size _
 | sl _ _ _ _ _ cv hcap hmax hc hs h1 hr =>
  have hlen : ((rows.take m).drop l).length = m - l := by simp; omega
  by_cases he : m = l
  ·subst he
   have e0 : (rows.take m).drop m = [] := List.eq_nil_of_length_eq_zero (by simp)
   rw [e0, Nat.sub_self]
   exact .sl size [] b _ _ (fun _ => undef) (Nat.zero_le _) (by omega) (fun j hj => by simp at hj) (fun _ h => by simp at h) (fun _ h => by simp at h) (fun _ _ _ _ h => by simp at h)
  ·have hne : cap ≠ l := by omega
   rw [if_neg hne]
   have := Flat.sl (M := M) (w := w) size ((rows.take m).drop l) b (off + l * size) (cap - l) (fun j => cv (l * size + j)) (by rw [hlen]; omega) (by omega) (fun j hj => ?_)
    (fun row hrow => hs row (List.mem_of_mem_take (List.mem_of_mem_drop hrow))) (fun row hrow => h1 row (List.mem_of_mem_take (List.mem_of_mem_drop hrow))) (fun i j row c hrow hcj => ?_)
   ·rw [hlen] at this; exact this
   ·rw [hlen] at hj
    have h2 : l * size + j < rows.length * size := by
     have : (l + (m - l)) * size ≤ rows.length * size := Nat.mul_le_mul_right _ (by omega)
     rw [Nat.add_mul] at this; omega
    have := hc (l * size + j) h2
    rw [Nat.add_assoc]
    exact this
   ·rw [List.getElem?_drop, List.getElem?_take] at hrow
    split at hrow
    ·have := hr (l + i) j row c hrow hcj
     rw [Nat.add_mul, Nat.add_assoc] at this
     exact this
    ·simp at hrow
theorem P_elem {t e : TypeId} (hu : P.underlying t = some (.slice e)) : P.underlying t = some (.slice (P.elem t)) := by
 rw [hu]; simp [Program.elem, hu]
theorem flat_sliced {M : Nat → Nat → Prop} {w : World} {sz size : Nat} {nl : Bool} {rows : List PV} {b : Option Addr} {n c : Nat} (h : Flat M w (.sl sz nl rows) (.slice b n c)) (hsz : sz = size ∨ rows = [])
  (l m : Nat) (hlm : l ≤ m) (hm : m ≤ rows.length) : n = rows.length ∧ n ≤ c ∧ Flat M w (.sl sz nl ((rows.take m).drop l)) (sliced b l m c size) := by
 generalize hv : Value.slice b n c = v at h
 cases h with
 | nilsl =>
  injection hv with e1 e2 e3
  subst e1; subst e2; subst e3
  simp at hm
  subst hm
  have : l = 0 := by omega
  subst this
  exact ⟨rfl, Nat.le_refl _, by simpa [sliced] using Flat.nilsl sz⟩
 | sl0 _ ad =>
  injection hv with e1 e2 e3
  subst e1; subst e2; subst e3
  simp at hm
  subst hm
  have : l = 0 := by omega
  subst this
  exact ⟨rfl, Nat.le_refl _, by simpa [sliced] using Flat.sl0 sz _⟩
 | sl _ _ b' off cap cv hcap hmax hc hs h1 hr =>
  injection hv with e1 e2 e3
  subst e1; subst e2; subst e3
  refine ⟨rfl, hcap, ?_⟩
  rcases hsz with rfl | rfl
  ·have := flat_slice (.sl sz rows b' off c cv hcap hmax hc hs h1 hr) l m hlm hm
   simp only [sliced, Option.map_some, Addr.add_lit]
   split <;> rename_i he
   ·rw [if_pos he] at this; exact this
   ·rw [if_neg he] at this; exact this
  ·simp at hm
   subst hm
   have : l = 0 := by omega
   subst this
   simp only [sliced, Option.map_some, Addr.add_lit, List.take_nil, List.drop_nil, Nat.sub_zero, Nat.zero_mul, Nat.add_zero]
   split <;> exact .sl sz [] b' off c cv (Nat.zero_le _) hmax (fun j hj => by simp at hj) (fun _ h => by simp at h) (fun _ h => by simp at h) (fun _ _ _ _ h => by simp at h)
theorem s_slc (h : Rel G X s a) {size : Nat} {isA : Bool} {t e : TypeId} {x : Operand} {ox : O} {lo hi : Option Operand} {ys : List O} (hx : OT x ox) (ho : o.op = .slice t x lo hi none)
  (hu : P.underlying t = some (.slice e)) (hi' : TyIs P e size isA)
  (hys : match lo, hi, ys with | some l, some m, [ol, om] => OT l ol ∧ OT m om | some l, none, [ol] => OT l ol | none, some m, [om] => OT m om | _, _, _ => False)
  (hK : semI P (.slc size lo.isSome hi.isSome) (ox.val s.t :: ys.map (O.val s.t)) s.b fun v b => K ⟨putD s.t o.dst v, b⟩) : o.wp P a X.w (Post G K) Q := by
 obtain ⟨Lx, rx⟩ := h.opnd hx
 generalize ox.val s.t = vx at *
 have hu' := P_elem hu
 have he : P.elem t = e := by rw [hu] at hu'; injection hu' with h1; injection h1 with h2; exact h2.symm
 have hsize : ∀ w, (sizeOf (P.elem t)).run P w = .ok size w := fun w => by rw [he]; exact hi'.run_sizeOf w
 cases vx with
 | p z =>
  cases z with
  | sl sz nl rows =>
   obtain ⟨b, cap, ev⟩ := Flat.slv rx
   have rx' : Flat X.M X.w (.sl sz nl rows) (.slice b rows.length cap) := ev ▸ rx
   simp only [semI] at hK
   obtain ⟨hsz, hK⟩ := hK
   cases lo with
   | some l =>
    cases hi with
    | some m =>
     match ys, hys with
     | [ol, om], ⟨hl, hm⟩ =>
      obtain ⟨_, rl⟩ := h.opnd hl
      obtain ⟨_, rm⟩ := h.opnd hm
      simp only [Option.isSome_some, List.map_cons, List.map_nil] at hK
      generalize ol.val s.t = vl at *
      generalize om.val s.t = vm at *
      obtain ⟨k1, l', rfl⟩ : ∃ k1 l', vl = .p (.int k1 l') := by
       rcases vl with _ | x | _ | _ | _ | _ | _ <;> first | (simp at hK; done) | skip
       cases x <;> first | (simp at hK; done) | exact ⟨_, _, rfl⟩
      obtain ⟨k2, m', rfl⟩ : ∃ k1 l', vm = .p (.int k1 l') := by
       rcases vm with _ | x | _ | _ | _ | _ | _ <;> first | (simp at hK; done) | skip
       cases x <;> first | (simp at hK; done) | exact ⟨_, _, rfl⟩
      have el := Flat.intv rl
      have em := Flat.intv rm
      obtain ⟨h0, h1, h2, hK⟩ := hK
      obtain ⟨_, hnc, hf⟩ := flat_sliced rx' hsz l'.toNat m'.toNat (by omega) (by omega)
      refine wp_pv h ?_ hf hK
      simp [execOp, ho, ev, el, em, run_sliceAt_slice, hu', run_slice_lh X.w t b rows.length cap hu' _ _ l' m' h0 h1 (by omega), hsize]
    | none =>
     match ys, hys with
     | [ol], hl =>
      obtain ⟨_, rl⟩ := h.opnd hl
      simp only [Option.isSome_some, Option.isSome_none, List.map_cons, List.map_nil] at hK
      generalize ol.val s.t = vl at *
      obtain ⟨k1, l', rfl⟩ : ∃ k1 l', vl = .p (.int k1 l') := by
       rcases vl with _ | x | _ | _ | _ | _ | _ <;> first | (simp at hK; done) | skip
       cases x <;> first | (simp at hK; done) | exact ⟨_, _, rfl⟩
      have el := Flat.intv rl
      obtain ⟨h0, h1, hK⟩ := hK
      obtain ⟨_, hnc, hf⟩ := flat_sliced rx' hsz l'.toNat rows.length (by omega) (by omega)
      rw [List.take_length] at hf
      refine wp_pv h ?_ hf hK
      simp [execOp, ho, ev, el, run_sliceAt_slice, hu', run_slice_l X.w t b rows.length cap hu' _ l' h0 h1, hsize]
   | none =>
    cases hi with
    | some m =>
     match ys, hys with
     | [om], hm =>
      obtain ⟨_, rm⟩ := h.opnd hm
      simp only [Option.isSome_some, Option.isSome_none, List.map_cons, List.map_nil] at hK
      generalize om.val s.t = vm at *
      obtain ⟨k1, m', rfl⟩ : ∃ k1 l', vm = .p (.int k1 l') := by
       rcases vm with _ | x | _ | _ | _ | _ | _ <;> first | (simp at hK; done) | skip
       cases x <;> first | (simp at hK; done) | exact ⟨_, _, rfl⟩
      have em := Flat.intv rm
      obtain ⟨h0, h1, hK⟩ := hK
      obtain ⟨_, hnc, hf⟩ := flat_sliced rx' hsz 0 m'.toNat (by omega) (by omega)
      rw [List.drop_zero] at hf
      refine wp_pv h ?_ hf hK
      simp [execOp, ho, ev, em, run_sliceAt_slice, hu', run_slice_h X.w t b rows.length cap hu' _ m' h0 (by omega), hsize]
    | none => exact hys.elim
  | _ => simp [semI] at hK
 | _ => simp [semI] at hK
end
end Go.Proofs.YtnjphclbpgajpaaGreatDoor.Vc
