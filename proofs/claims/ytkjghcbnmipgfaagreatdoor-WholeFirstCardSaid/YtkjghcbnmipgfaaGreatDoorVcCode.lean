/- Structured code, loops, results: a function's contract out of its verification condition. No condition. -/
import Derived.Test.YtkjghcbnmipgfaaGreatDoorVcAl
import Derived.LoopN
namespace Go.Proofs.YtkjghcbnmipgfaaGreatDoor.Vc
open Go.RowKit
variable {P : Program}

inductive C where
  | stuck
  | skip
  | reg (ops : List Ins)
  | regd (ops : List Ins)
  | rega (ops : List Ins)
  | seq (a b : C)
  | cond (c : O) (a b : C)
  | block (id : Nat) (c : C)
  | loop (fs ds : List Nat) (c : C)
  | exit (id : Nat)
  | ret
  | pre (fs zs ds : List Nat) (c : C)
  | own (i k : Nat) (ag : Bool) (c : C)

def forget (t : List DV) : List Nat → List DV
  | [] => t
  | n :: ns => forget (setL t n .top) ns

def dropB (b : List (Option Box)) : List Nat → List (Option Box)
  | [] => b
  | k :: ks => dropB (setL b k none) ks

def copiesR : List (List DV) → List (List DV)
  | [] => []
  | r :: rs => copies r :: copiesR rs

/-- Boxes that are written no more. -/
def fixB (b : List (Option Box)) (zs : List Nat) (K : List (Option Box) → Prop) : Prop :=
  match zs with
  | [] => K b
  | k :: ks => match getB b k with
    | some bx => allPR (copiesR bx.rows) = true ∧ fixB (setL b k (some ⟨false, bx.size, copiesR bx.rows, bx.old⟩)) ks K
    | none => False

/-- Data that lies in no memory. -/
def PV.scal : PV → Bool
  | .int _ _ | .bool _ | .str _ => true
  | .fn _ [] => true
  | _ => false
def DV.scal : DV → Bool
  | .top | .tup [] | .addr _ _ _ _ | .bs _ _ _ _ _ => true
  | .p x => x.scal
  | .fn _ caps => caps.all fun | .addr _ _ _ _ => true | .p x => x.scal
  | _ => false
/-- All slots but i hold such; all boxes but k, too. -/
def scalT (i : Nat) : Nat → List DV → Bool
  | _, [] => true
  | j, d :: ds => (j == i || d.scal) && scalT i (j + 1) ds
def scalR : List (List DV) → Bool
  | [] => true
  | r :: rs => r.all DV.scal && scalR rs
def scalB (k : Nat) : Nat → List (Option Box) → Bool
  | _, [] => true
  | j, x :: xs => (j == k || match x with | some bx => scalR bx.rows | none => true) && scalB k (j + 1) xs
def ownRows : List PV → List (List DV)
  | [] => []
  | x :: xs => (rowCells x).map DV.p :: ownRows xs

def iter (f : St → (St → Prop) → Prop) : Nat → St → Prop
  | 0, _ => False
  | n + 1, s => f s (iter f n)

def vc (P : Program) : C → St → (St → Prop) → (Nat → St → Prop) → (St → Prop) → Prop
  | .stuck, _, _, _, _ => False
  | .skip, s, n, _, _ => n s
  | .reg ops, s, n, _, _ => execs P ops s n
  | .regd ops, s, n, _, _ => execs P ops s n
  | .rega ops, s, n, _, _ => invB ops s = true ∧ execs P ops s n
  | .seq a b, s, n, x, r => vc P a s (fun s' => vc P b s' n x r) x r
  | .cond c a b, s, n, x, r => match c, c.val s.t with
    | .t j, .p (.bool t) => (t = true → vc P a ⟨setL s.t j (.p (.bool true)), s.b⟩ n x r) ∧ (t = false → vc P b ⟨setL s.t j (.p (.bool false)), s.b⟩ n x r)
    | .c _, .p (.bool t) => (t = true → vc P a s n x r) ∧ (t = false → vc P b s n x r)
    | _, _ => False
  | .block id c, s, n, x, r => vc P c s n (fun j s' => if j = id then n s' else x j s') r
  | .loop fs ds c, s, _, x, r => ∃ k, iter (fun s' N => vc P c s' (fun s2 => N ⟨forget s2.t fs, dropB s2.b ds⟩) x r) k ⟨forget s.t fs, dropB s.b ds⟩
  | .exit id, s, _, x, _ => x id s
  | .ret, s, _, _, r => r s
  | .pre fs zs ds c, s, n, x, r => fixB s.b zs fun b => vc P c ⟨forget s.t fs, dropB b ds⟩ n x r
  | .own i k ag c, s, n, x, r => match getT s.t i with
    | .ow size _ rows => (decide (size ≠ 0) && (decide (k < s.b.length) && (noRefT k s.t && (noRefB k 0 s.b && (scalT i 0 s.t && scalB k 0 s.b))))) = true ∧ rows ≠ [] ∧ scalR (ownRows rows) = true ∧ vc P c ⟨setL s.t i (.bs k size ag 0 rows.length), setL s.b k (some ⟨true, size, ownRows rows, false⟩)⟩ n x r
    | _ => False

/-- The code is this one. -/
inductive TrC (P : Program) : C → Code → Prop
  | stuck (x : Code) : TrC P .stuck x
  | skip : TrC P .skip .skip
  | reg (id : Nat) (ops : Array Oper) (is : List Ins) (hl : ops.size = is.length) (h : ∀ (k : Nat) i, is[k]? = some i → ∃ o, ops[k]? = some o ∧ TrI P ops o i) : TrC P (.reg is) (.region id ops false)
  | regd (id : Nat) (ops : Array Oper) (is : List Ins) (hm : P.follows .mixedOrders = true) (hl : ops.size = is.length) (h : ∀ (k : Nat) i, is[k]? = some i → ∃ o, ops[k]? = some o ∧ TrI P ops o i) (hp : pairsB ops is = true) : TrC P (.regd is) (.region id ops true)
  | rega (id : Nat) (ops : Array Oper) (is : List Ins) (hm : P.follows .mixedOrders = true) (hl : ops.size = is.length) (h : ∀ (k : Nat) i, is[k]? = some i → ∃ o, ops[k]? = some o ∧ TrI P ops o i) (hs : stB is = true) (hp : pairsW indepA ops is = true) : TrC P (.rega is) (.region id ops true)
  | seq (a b : C) (x y : Code) (ha : TrC P a x) (hb : TrC P b y) : TrC P (.seq a b) (.seq x y)
  | cond (o : O) (c : Operand) (a b : C) (x y : Code) (ho : OT c o) (ha : TrC P a x) (hb : TrC P b y) : TrC P (.cond o a b) (.cond c x y)
  | block (id : Nat) (a : C) (x : Code) (ha : TrC P a x) : TrC P (.block id a) (.block id x)
  | loop (fs ds : List Nat) (a : C) (x : Code) (ha : TrC P a x) : TrC P (.loop fs ds a) (.loop x)
  | exit (id : Nat) : TrC P (.exit id) (.exit id)
  | ret : TrC P .ret .ret
  | pre (fs zs ds : List Nat) (a : C) (x : Code) (ha : TrC P a x) : TrC P (.pre fs zs ds a) x
  | own (i k : Nat) (ag : Bool) (a : C) (x : Code) (ha : TrC P a x) : TrC P (.own i k ag a) x

def QOf (G : Gl) (n : St → Prop) (x : Nat → St → Prop) (r : St → Prop) : Exit → Act → World → Prop
  | .normal, a, w => Post G n a w
  | .exit j, a, w => Post G (x j) a w
  | .ret, a, w => Post G r a w
  | _, _, _ => False

theorem Rel.forget {G : Gl} {X : Cx} {a : Act} (fs : List Nat) : ∀ {t : List DV} {b : List (Option Box)}, Rel G X ⟨t, b⟩ a → Rel G X ⟨Vc.forget t fs, b⟩ a := by
  induction fs with
  | nil => exact fun h => h
  | cons f fs ih => exact fun h => ih (h.weak f .top trivial)

theorem Rel.dropB {G : Gl} {X : Cx} {a : Act} (ds : List Nat) : ∀ {t : List DV} {b : List (Option Box)}, Rel G X ⟨t, b⟩ a → Rel G X ⟨t, Vc.dropB b ds⟩ a := by
  induction ds with
  | nil => exact fun h => h
  | cons k ks ih =>
    intro t b h
    refine ih (b := setL b k none) ⟨h.defers, h.size, h.tmps, fun j bx hj => ?_, h.below, h.hb, h.mold⟩
    simp only [getElem?_setL] at hj
    split at hj
    · cases hb : b[j]? <;> rw [hb] at hj <;> simp at hj
    · exact h.boxes j bx hj

theorem copiesR_eq (rs : List (List DV)) : copiesR rs = rs.map copies := by induction rs with | nil => rfl | cons r rs ih => simp [copiesR, ih]

/-- A box that is written no more. -/
theorem Rel.fix {G : Gl} {X : Cx} {t : List DV} {b : List (Option Box)} {a : Act} (h : Rel G X ⟨t, b⟩ a) {k : Nat} {bx : Box} (hk : getB b k = some bx) (hp : allPR (copiesR bx.rows) = true) :
    ∃ X', X'.w = X.w ∧ Rel G X' ⟨t, setL b k (some ⟨false, bx.size, copiesR bx.rows, bx.old⟩)⟩ a := by
  obtain ⟨blk, cs, ty, hb⟩ := h.cbox (getB_some hk) (getB_ne hk)
  generalize hX : ({ X with M := fun c o => X.M c o ∧ c ≠ blk } : Cx) = X'
  have eM : ∀ c o, X'.M c o ↔ X.M c o ∧ c ≠ blk := by subst hX; exact fun _ _ => Iff.rfl
  have ew : X'.w = X.w := by subst hX; rfl
  have eo : X'.own = X.own := by subst hX; rfl
  have eρ : X'.ρ = X.ρ := by subst hX; rfl
  have eex : X'.ex = X.ex := by subst hX; rfl
  have hev : Ev (fun L => L ≠ .box k) X X' := by
    refine ⟨fun c o v hM hc => ⟨by rw [ew]; exact hc, fun h => hM ((eM c o).1 h).1⟩, fun g L hg hS _ => ⟨by rw [eo]; exact hg, by rw [ew], fun o hM => (eM g o).2 ⟨hM, fun e => ?_⟩⟩, eex⟩
    subst e
    rw [hb.own] at hg
    injection hg with hg
    exact hS hg.symm
  refine ⟨X', ew, h.defers, h.size, fun i d hd => (h.tmps i d hd).mono (fun _ _ _ h => by cases h) hev (by simp) fun _ _ => by rw [eρ], ?_, by rw [ew]; exact h.below, by rw [ew]; exact h.hb, eex.trans h.mold.1, fun c hc hx o => ?_⟩
  · intro j bx' hj
    rcases setB_get hj with ⟨rfl, rfl⟩ | ⟨hne, hj⟩
    · refine BX.cell (blk := blk) (cs := cs) (ty := ty) (show bx.size ≠ 0 from getB_ne hk) ⟨by rw [eρ]; exact hb.ρ, by rw [eo]; exact hb.own, by rw [eex]; exact hb.hbase, by rw [ew]; exact hb.heap, by simpa [copiesR_eq] using hb.size, ?_, ?_, (fun hl => by cases hl), fun _ => ⟨fun o _ hM => ((eM blk o).1 hM).2 rfl, fun row hrow d hd => allP_get (allPR_get hp hrow) hd⟩⟩
      · intro row hrow
        rw [copiesR_eq] at hrow
        obtain ⟨row0, hr0, rfl⟩ := List.mem_map.1 hrow
        rw [copies_eq, List.length_map]
        exact hb.width row0 hr0
      · intro r o row d u hrow hd hu
        rw [copiesR_eq, List.getElem?_map] at hrow
        cases hr0 : bx.rows[r]? with
        | none => rw [hr0] at hrow; simp at hrow
        | some row0 =>
          rw [hr0] at hrow
          simp at hrow
          subst hrow
          rw [copies_eq, List.getElem?_map] at hd
          cases hd0 : row0[o]? with
          | none => rw [hd0] at hd; simp at hd
          | some d0 =>
            rw [hd0] at hd
            simp at hd
            subst hd
            obtain ⟨f1, f2⟩ := hb.cells r o row0 d0 u hr0 hd0 hu
            exact ⟨(f1.copy (.cell j r o)).mono (fun _ _ _ h => by cases h) hev (by simp) fun _ _ => by rw [eρ], f2⟩
    · exact (h.boxes j bx' hj).mono (fun _ _ _ h => by cases h) hev (by simp [hne]) (fun _ _ => by simp) (by rw [eρ]) fun _ _ _ _ _ _ => by rw [eρ]
  · rw [eM]
    exact ⟨fun h' => (h.mold.2 c hc hx o).1 h'.1, fun h' => ⟨(h.mold.2 c hc hx o).2 h', fun e => by subst e; exact hb.hbase.elim (fun h => by have := h.2; omega) (fun h' => hx _ (by rw [← h.mold.1]; exact h'.2))⟩⟩

theorem Rel.fixes {G : Gl} {a : Act} {K : List (Option Box) → Prop} (zs : List Nat) : ∀ {X : Cx} {t : List DV} {b : List (Option Box)}, Rel G X ⟨t, b⟩ a → fixB b zs K → ∃ X' b', X'.w = X.w ∧ Rel G X' ⟨t, b'⟩ a ∧ K b' := by
  induction zs with
  | nil => exact fun {X t b} h hK => ⟨X, b, rfl, h, hK⟩
  | cons k ks ih =>
    intro X t b h hK
    simp only [fixB] at hK
    cases hb : getB b k with
    | none => simp [hb] at hK
    | some bx =>
      simp only [hb] at hK
      obtain ⟨X1, e1, h1⟩ := h.fix hb hK.1
      obtain ⟨X2, b2, e2, h2, hK2⟩ := ih h1 hK.2
      exact ⟨X2, b2, e2.trans e1, h2, hK2⟩

theorem scal_any {X X' : Cx} {base : Nat} {L L' : Loc} {d : DV} (hρ : ∀ k b, d.ment k = true → X.ρ k = some b → X'.ρ k = some b) (hd : d.scal = true) {v : Value} (h : VRel X base L d v) : VRel X' base L' d v := by
  have pv : ∀ {x : PV} {v : Value}, x.scal = true → Flat X.M X.w x v → Flat X'.M X'.w x v := by
    intro x v hx hf
    cases hf with
    | int k n => exact .int k n
    | bool b => exact .bool b
    | str s => exact .str s
    | fn f caps vs hl hh =>
      cases caps with
      | nil => exact .fn f [] vs hl (fun i c v hc => by simp at hc)
      | cons c cs => simp [PV.scal] at hx
    | _ => simp [PV.scal] at hx
  cases d with
  | top => trivial
  | tup ds =>
    cases ds with
    | nil => obtain ⟨vs, h1, h2, _⟩ := h; exact ⟨vs, h1, h2, fun j d u hd => by simp at hd⟩
    | cons _ _ => simp [DV.scal] at hd
  | p x => exact pv hd h
  | addr k sz r off => obtain ⟨b, h1, h2⟩ := h; exact ⟨b, hρ _ _ (by simp [DV.ment]) h1, h2⟩
  | bs k sz ag lo n => obtain ⟨b, cap, h1, h2⟩ := h; exact ⟨b, cap, hρ _ _ (by simp [DV.ment]) h1, h2⟩
  | fn f caps =>
    obtain ⟨vs, h1, h2, h3⟩ := h
    refine ⟨vs, h1, h2, fun j c u hc hu => ?_⟩
    have hcs := List.all_eq_true.1 hd c (List.mem_of_getElem? hc)
    have := h3 j c u hc hu
    cases c with
    | p x => exact pv hcs this
    | addr k sz r off =>
      obtain ⟨b, h1, h2⟩ := this
      exact ⟨b, hρ _ _ (by simp only [DV.ment, List.any_eq_true]; exact ⟨_, List.mem_of_getElem? hc, by simp⟩) h1, h2⟩
  | _ => simp [DV.scal] at hd
theorem scalT_get {i : Nat} : ∀ {t : List DV} {j0 j : Nat} {d : DV}, scalT i j0 t = true → t[j]? = some d → j0 + j ≠ i → d.scal = true := by
  intro t
  induction t with
  | nil => intro j0 j d _ h; simp at h
  | cons e es ih =>
    intro j0 j d h hd hne
    simp only [scalT, Bool.and_eq_true, Bool.or_eq_true, beq_iff_eq] at h
    cases j with
    | zero => simp at hd; subst hd; exact h.1.resolve_left (by omega)
    | succ j => exact ih h.2 (by simpa using hd) (by omega)
theorem scalR_get {rs : List (List DV)} (h : scalR rs = true) {r : List DV} (hr : r ∈ rs) {d : DV} (hd : d ∈ r) : d.scal = true := by
  induction rs with
  | nil => simp at hr
  | cons e es ih =>
    simp only [scalR, Bool.and_eq_true, List.all_eq_true] at h
    rcases List.mem_cons.1 hr with rfl | hr
    · exact h.1 d hd
    · exact ih h.2 hr
theorem scalB_get {k : Nat} : ∀ {b : List (Option Box)} {j0 j : Nat} {bx : Box}, scalB k j0 b = true → b[j]? = some (some bx) → j0 + j ≠ k → scalR bx.rows = true := by
  intro t
  induction t with
  | nil => intro j0 j d _ h; simp at h
  | cons e es ih =>
    intro j0 j d h hd hne
    simp only [scalB, Bool.and_eq_true, Bool.or_eq_true, beq_iff_eq] at h
    cases j with
    | zero => simp at hd; subst hd; exact h.1.resolve_left (by omega)
    | succ j => exact ih h.2 (by simpa using hd) (by omega)
theorem ownRows_eq (rows : List PV) : ownRows rows = rows.map fun x => (rowCells x).map DV.p := by induction rows with | nil => rfl | cons x xs ih => simp [ownRows, ih]

/-- An own slice becomes an own variable. -/
theorem Rel.own {G : Gl} {X : Cx} {s : St} {a : Act} (h : Rel G X s a) {i k size : Nat} {nl ag : Bool} {rows : List PV} (hi : getT s.t i = .ow size nl rows)
    (hc : (decide (size ≠ 0) && (decide (k < s.b.length) && (noRefT k s.t && (noRefB k 0 s.b && (scalT i 0 s.t && scalB k 0 s.b))))) = true) (hne : rows ≠ []) (hrs : scalR (ownRows rows) = true) :
    ∃ X', X'.w = X.w ∧ Rel G X' ⟨setL s.t i (.bs k size ag 0 rows.length), setL s.b k (some ⟨true, size, ownRows rows, false⟩)⟩ a := by
  simp only [Bool.and_eq_true, decide_eq_true_eq] at hc
  obtain ⟨hsz0, hkl, hT, hB, hsT, hsB⟩ := hc
  have hv := h.get i
  rw [hi] at hv
  rcases hv with ⟨h0, _⟩ | ⟨h0, g, cap, cur, ty, g0, g1, g2, g3, g4, g5, g6⟩
  · exact absurd h0 hne
  · have hilt : i < s.t.length := by
      refine Nat.lt_of_not_le fun hle => ?_
      rw [getT_eq, List.getElem?_eq_none hle] at hi
      cases hi
    have hglt : g < X.w.heap.size := (Array.getElem?_eq_some_iff.1 g3).1
    generalize hX : ({ X with ρ := (fun j => if j = k then some g else X.ρ j), own := (fun q => if q = g then some (.box k) else X.own q), M := fun b o => X.M b o ∨ b = g } : Cx) = X'
    have ew : X'.w = X.w := by subst hX; rfl
    have eex : X'.ex = X.ex := by subst hX; rfl
    have eρk : X'.ρ k = some g := by subst hX; simp
    have eρ : ∀ j, j ≠ k → X'.ρ j = X.ρ j := by subst hX; intro j hj; simp [hj]
    have eog : X'.own g = some (.box k) := by subst hX; simp
    have eo : ∀ q, q ≠ g → X'.own q = X.own q := by subst hX; intro j hj; simp [hj]
    have eM : ∀ b o, X'.M b o ↔ X.M b o ∨ b = g := by subst hX; exact fun _ _ => Iff.rfl
    rw [g0] at g5
    have hcells : ∀ (r o : Nat) row c u, rows[r]? = some row → (rowCells row)[o]? = some c → cur[r * size + o]? = some u → Flat X.M X.w c u ∧ c.one = true ∧ (rowCells row).length = size := by
      intro r o row c u hr hcc hu
      cases g5 with
      | sl _ _ b off cap' cv hcap hmax hcv hs h1 hr' =>
        have hrl := (List.getElem?_eq_some_iff.1 hr).1
        have hol := (List.getElem?_eq_some_iff.1 hcc).1
        have hsz := hs row (List.mem_of_getElem? hr)
        have hlt : r * size + o < rows.length * size := by
          have : (r + 1) * size ≤ rows.length * size := Nat.mul_le_mul_right _ hrl
          rw [Nat.add_mul] at this; omega
        have := (hcv (r * size + o) hlt).1
        rw [Nat.zero_add, heap_cell g3, hu] at this
        injection this with this
        rw [this]
        exact ⟨hr' r o row c hr hcc, h1 row (List.mem_of_getElem? hr) c (List.mem_of_getElem? hcc), hsz⟩
      | sl0 => simp at hr
    have hrow : ∀ row, row ∈ rows → (rowCells row).length = size := by
      cases g5 with
      | sl _ _ b off cap' cv hcap hmax hcv hs h1 hr' => exact hs
      | sl0 => intro row hr; simp at hr
    have hrsc : ∀ x, x ∈ rows → ∀ c, c ∈ rowCells x → c.scal = true := fun x hx c hc => by
      rw [ownRows_eq] at hrs
      exact scalR_get hrs (List.mem_map.2 ⟨x, hx, rfl⟩) (d := .p c) (List.mem_map.2 ⟨c, hc, rfl⟩)
    have hcapm : rows.length ≤ cap ∧ cap ≤ maxLen := by
      cases g5 with
      | sl _ _ b off cap' cv hcap hmax hcv hs h1 hr' => exact ⟨hcap, hmax⟩
      | sl0 => exact ⟨Nat.zero_le _, Nat.zero_le _⟩
    refine ⟨X', ew, h.defers, by simpa [setL_length] using h.size, ?_, ?_, by rw [ew]; exact h.below, by rw [ew]; exact h.hb, eex.trans h.mold.1, fun b hb hx o => ?_⟩
    · intro j d hd
      simp only [getElem?_setL] at hd
      split at hd
      · rename_i e
        subst e
        rw [List.getElem?_eq_getElem hilt] at hd
        simp only [Option.map_some, Option.some.injEq] at hd
        subst hd
        exact ⟨g, cap, eρk, hcapm.1, hcapm.2, by simpa using g0⟩
      · rename_i hne'
        have hm := noRefT_get hT hd
        exact scal_any (fun k' b hk' hb => (eρ k' (fun e => by rw [e, hm] at hk'; cases hk')).trans hb) (scalT_get hsT hd (by omega)) (h.tmps j d hd)
    · intro j bx hj
      rcases setB_get hj with ⟨rfl, rfl⟩ | ⟨hne', hj⟩
      · refine BX.cell (blk := g) (cs := cur) (ty := ty) hsz0 ⟨eρk, eog, .inl ⟨rfl, g2⟩, by rw [ew]; exact g3, ?_, fun row hrow' => ?_, fun r o row d u hr hd hu => ?_, fun _ o => (eM g o).2 (.inr rfl), fun hl => by cases hl⟩
        · rw [g4, ownRows_eq, List.length_map]; exact Nat.mul_le_mul_right _ hcapm.1
        · simp only [ownRows_eq] at hrow'
          obtain ⟨x, hx, rfl⟩ := List.mem_map.1 hrow'
          simpa using hrow x hx
        · simp only [ownRows_eq, List.getElem?_map] at hr
          cases hx : rows[r]? with
          | none => rw [hx] at hr; simp at hr
          | some x =>
            rw [hx] at hr
            simp only [Option.map_some, Option.some.injEq] at hr
            subst hr
            rw [List.getElem?_map] at hd
            cases hc : (rowCells x)[o]? with
            | none => rw [hc] at hd; simp at hd
            | some c =>
              rw [hc] at hd
              simp only [Option.map_some, Option.some.injEq] at hd
              subst hd
              obtain ⟨f1, f2, _⟩ := hcells r o x c u hx hc hu
              have hsc := hrsc x (List.mem_of_getElem? hx) c (List.mem_of_getElem? hc)
              exact ⟨scal_any (X := X) (base := G.base) (L := .tmp 0) (d := .p c) (fun _ _ hm => by simp [DV.ment] at hm) hsc f1, Flat.oneCell f1 f2⟩
      · have hnr := noRefB_get hB hj (by omega)
        have hsr := scalB_get hsB hj (by omega)
        have hBX := h.boxes j bx hj
        unfold BX at hBX ⊢
        split
        · rename_i hs0
          rw [if_pos hs0] at hBX
          obtain ⟨blk, es, clock, m1, m2, m3, m4, m5, m6, m7⟩ := hBX
          have hbg : blk ≠ g := fun e => by rw [e, g1] at m2; cases m2
          refine ⟨blk, es, clock, by rw [eρ j hne']; exact m1, (eo blk hbg).trans m2, by rw [eex]; exact m3, by rw [ew]; exact m4, m5, fun o => (eM blk o).2 (.inl (m6 o)), fun i row e hi he => ?_⟩
          obtain ⟨q0, n0, x0, f1, f2, f3⟩ := m7 i row e hi he
          have hsc := scalR_get hsr (List.mem_of_getElem? hi) (d := .p x0) (by rw [f1]; simp)
          exact ⟨q0, n0, x0, f1, f2, scal_any (X := X) (base := G.base) (L := .tmp 0) (L' := .tmp 0) (d := .p x0) (fun _ _ hm => by simp [DV.ment] at hm) hsc f3⟩
        · rename_i hs0
          rw [if_neg hs0] at hBX
          obtain ⟨blk, cs, ty', hb⟩ := hBX
          have hbg : blk ≠ g := fun e => by have := hb.own; rw [e, g1] at this; cases this
          refine ⟨blk, cs, ty', by rw [eρ j hne']; exact hb.ρ, (eo blk hbg).trans hb.own, by rw [eex]; exact hb.hbase, by rw [ew]; exact hb.heap, hb.size, hb.width, fun r o row d u hr hd hu => ?_, fun hl o => (eM blk o).2 (.inl (hb.live hl o)), fun hl => ?_⟩
          · obtain ⟨f1, f2⟩ := hb.cells r o row d u hr hd hu
            have hm := noRefR_get hnr (List.mem_of_getElem? hr) (List.mem_of_getElem? hd)
            exact ⟨scal_any (fun k' b hk' hb => (eρ k' (fun e => by rw [e, hm] at hk'; cases hk')).trans hb) (scalR_get hsr (List.mem_of_getElem? hr) (List.mem_of_getElem? hd)) f1, f2⟩
          · obtain ⟨f1, f2⟩ := hb.fixed hl
            exact ⟨fun o ho hM => ((eM blk o).1 hM).elim (f1 o ho) hbg, f2⟩
    · rw [eM]
      exact ⟨fun h' => h'.elim (h.mold.2 b hb hx o).1 (fun e => by omega), fun h' => .inl ((h.mold.2 b hb hx o).2 h')⟩

theorem vc_ok {G : Gl} {c : C} {x : Code} (ht : TrC P c x) : ∀ {n : St → Prop} {xx : Nat → St → Prop} {r : St → Prop} {s : St} {X : Cx} {a : Act}, Rel G X s a → vc P c s n xx r → x.wp P (QOf G n xx r) a X.w := by
  induction ht with
  | stuck x => exact fun {n xx r s X a} h hK => hK.elim
  | skip => exact fun {n xx r s X a} h hK => wp_skip ⟨s, X, h, rfl, hK⟩
  | reg id ops is hl htr => exact fun {n xx r s X a} h hK => execs_region hl htr (fun s X a h hk => ⟨s, X, h, rfl, hk⟩) h hK
  | regd id ops is hm hl htr hp => exact fun {n xx r s X a} h hK => execs_draw hm hl htr hp (fun s X a h hk => ⟨s, X, h, rfl, hk⟩) h hK
  | rega id ops is hm hl htr hs hp => exact fun {n xx r s X a} h hK => execs_drawA hm hl htr hp (fun s X a h hk => ⟨s, X, h, rfl, hk⟩) h (invA_of hs hK.1) hK.2
  | seq a b x y _ _ iha ihb =>
    intro n xx r s X a h hK
    refine wp_seq (wp_mono (iha h hK) fun e a' w' hq => ?_)
    cases e with
    | normal =>
      obtain ⟨s', X', h', e', k'⟩ := hq
      subst e'
      exact ihb h' k'
    | _ => exact hq
  | cond o c a b x y ho _ _ iha ihb =>
    intro n xx r s X a h hK
    obtain ⟨L, hv⟩ := h.opnd ho
    simp only [vc] at hK
    cases o with
    | t j =>
      simp only [O.val] at hv hK
      generalize hg : getT s.t j = dv at *
      cases dv with
      | p z =>
        cases z with
        | bool t =>
          simp only at hK
          have hb := Flat.boolv hv
          refine wp_cond_split hb (fun e => ?_) (fun e => ?_)
          · subst e
            have hc : c = .tmp j := by cases ho; rfl
            subst hc
            exact iha (h.weak j (.p (.bool true)) hv) (hK.1 rfl)
          · subst e
            have hc : c = .tmp j := by cases ho; rfl
            subst hc
            exact ihb (h.weak j (.p (.bool false)) hv) (hK.2 rfl)
        | _ => exact hK.elim
      | _ => exact hK.elim
    | c d =>
      simp only [O.val] at hv hK
      cases d with
      | p z =>
        cases z with
        | bool t =>
          simp only at hK
          have hb := Flat.boolv hv
          exact wp_cond_split hb (fun e => iha h (hK.1 e)) (fun e => ihb h (hK.2 e))
        | _ => exact hK.elim
      | _ => exact hK.elim
  | block id a x _ iha =>
    intro n xx r s X a h hK
    refine wp_block (wp_mono (iha h hK) fun e a' w' hq => ?_)
    cases e with
    | exit j =>
      obtain ⟨s', X', h', e', k'⟩ := hq
      simp only [Exit.inBlock]
      by_cases hj : j = id
      · subst hj
        rw [if_pos rfl] at k' ⊢
        exact ⟨s', X', h', e', k'⟩
      · rw [if_neg hj] at k' ⊢
        exact ⟨s', X', h', e', k'⟩
    | _ => exact hq
  | loop fs ds c x _ ih =>
    intro n xx r s X a h hK
    obtain ⟨k, hK⟩ := hK
    have h' := (h.forget fs (t := s.t) (b := s.b)).dropB ds
    refine wp_loop_rounds k ?_
    clear h
    generalize (⟨Vc.forget s.t fs, Vc.dropB s.b ds⟩ : St) = s0 at *
    induction k generalizing s0 X a with
    | zero => exact hK.elim
    | succ k ihk =>
      rw [rounds_succ]
      refine wp_mono (ih h' hK) fun e a' w' hq => ?_
      cases e with
      | normal =>
        obtain ⟨s', X', h', e', k'⟩ := hq
        subst e'
        exact ihk _ k' ((h'.forget fs (t := s'.t) (b := s'.b)).dropB ds)
      | _ => exact hq
  | exit id => exact fun {n xx r s X a} h hK => wp_exit ⟨s, X, h, rfl, hK⟩
  | ret => exact fun {n xx r s X a} h hK => wp_ret ⟨s, X, h, rfl, hK⟩
  | own i k ag c x _ iha =>
    intro n xx r s X a h hK
    simp only [vc] at hK
    generalize hg : getT s.t i = dv at *
    cases dv with
    | ow size nl rows =>
      obtain ⟨h1, h2, h3, hK⟩ := hK
      obtain ⟨X', e', h'⟩ := h.own hg h1 h2 h3
      rw [← e']
      exact iha h' hK
    | _ => exact hK.elim
  | pre fs zs ds a x _ iha =>
    intro n xx r s X a h hK
    obtain ⟨X', b', e', h', k'⟩ := Rel.fixes zs (t := s.t) (b := s.b) h hK
    rw [← e']
    exact iha ((h'.forget fs).dropB ds) k'

end Go.Proofs.YtkjghcbnmipgfaaGreatDoor.Vc
