/- Part of a proof over a Go program: VcCode, VcFn, VcComp. No condition. -/
import Derived.Test.YtkjghcbnmipgfaaGreatDoorA02
import Derived.LoopN
set_option linter.unusedSectionVars false
set_option linter.unusedSimpArgs false
set_option linter.unusedVariables false
namespace Go.Proofs.YtkjghcbnmipgfaaGreatDoor.Vc
open Go.RowKit
variable {P : Program}
inductive C where
  | stuck
  | skip
  | reg (ops : List Ins)
  | regd (ops : List Ins)
  | rega (ops : List Ins)
  | seq (a b : C)
  | cond (c : O) (a b : C)
  | block (id : Nat) (c : C)
  | loop (fs ds : List Nat) (c : C)
  | exit (id : Nat)
  | ret
  | pre (fs zs ds : List Nat) (c : C)
  | own (i k : Nat) (ag : Bool) (c : C)
def forget (t : List DV) : List Nat → List DV
  | [] => t
  | n :: ns => forget (setL t n .top) ns
def dropB (b : List (Option Box)) : List Nat → List (Option Box)
  | [] => b
  | k :: ks => dropB (setL b k none) ks
def copiesR : List (List DV) → List (List DV)
  | [] => []
  | r :: rs => copies r :: copiesR rs
/-- Boxes that are written no more. -/
def fixB (b : List (Option Box)) (zs : List Nat) (K : List (Option Box) → Prop) : Prop :=
  match zs with
  | [] => K b
  | k :: ks => match getB b k with
    | some bx => allPR (copiesR bx.rows) = true ∧ fixB (setL b k (some ⟨false, bx.size, copiesR bx.rows, bx.old⟩)) ks K
    | none => False
/-- Data that lies in no memory. -/
def PV.scal : PV → Bool
  | .int _ _ | .bool _ | .str _ => true
  | .fn _ [] => true
  | _ => false
def DV.scal : DV → Bool
  | .top | .tup [] | .addr _ _ _ _ | .bs _ _ _ _ _ => true
  | .p x => x.scal
  | .fn _ caps => caps.all fun | .addr _ _ _ _ => true | .p x => x.scal
  | _ => false
/-- All slots but i hold such; all boxes but k, too. -/
def scalT (i : Nat) : Nat → List DV → Bool
  | _, [] => true
  | j, d :: ds => (j == i || d.scal) && scalT i (j + 1) ds
def scalR : List (List DV) → Bool
  | [] => true
  | r :: rs => r.all DV.scal && scalR rs
def scalB (k : Nat) : Nat → List (Option Box) → Bool
  | _, [] => true
  | j, x :: xs => (j == k || match x with | some bx => scalR bx.rows | none => true) && scalB k (j + 1) xs
def ownRows : List PV → List (List DV)
  | [] => []
  | x :: xs => (rowCells x).map DV.p :: ownRows xs
def iter (f : St → (St → Prop) → Prop) : Nat → St → Prop
  | 0, _ => False
  | n + 1, s => f s (iter f n)
def vc (P : Program) : C → St → (St → Prop) → (Nat → St → Prop) → (St → Prop) → Prop
  | .stuck, _, _, _, _ => False
  | .skip, s, n, _, _ => n s
  | .reg ops, s, n, _, _ => execs P ops s n
  | .regd ops, s, n, _, _ => execs P ops s n
  | .rega ops, s, n, _, _ => invB ops s = true ∧ execs P ops s n
  | .seq a b, s, n, x, r => vc P a s (fun s' => vc P b s' n x r) x r
  | .cond c a b, s, n, x, r => match c, c.val s.t with
    | .t j, .p (.bool t) => (t = true → vc P a ⟨setL s.t j (.p (.bool true)), s.b⟩ n x r) ∧ (t = false → vc P b ⟨setL s.t j (.p (.bool false)), s.b⟩ n x r)
    | .c _, .p (.bool t) => (t = true → vc P a s n x r) ∧ (t = false → vc P b s n x r)
    | _, _ => False
  | .block id c, s, n, x, r => vc P c s n (fun j s' => if j = id then n s' else x j s') r
  | .loop fs ds c, s, _, x, r => ∃ k, iter (fun s' N => vc P c s' (fun s2 => N ⟨forget s2.t fs, dropB s2.b ds⟩) x r) k ⟨forget s.t fs, dropB s.b ds⟩
  | .exit id, s, _, x, _ => x id s
  | .ret, s, _, _, r => r s
  | .pre fs zs ds c, s, n, x, r => fixB s.b zs fun b => vc P c ⟨forget s.t fs, dropB b ds⟩ n x r
  | .own i k ag c, s, n, x, r => match getT s.t i with
    | .ow size _ rows => (decide (size ≠ 0) && (decide (k < s.b.length) && (noRefT k s.t && (noRefB k 0 s.b && (scalT i 0 s.t && scalB k 0 s.b))))) = true ∧ rows ≠ [] ∧ scalR (ownRows rows) = true ∧ vc P c ⟨setL s.t i (.bs k size ag 0 rows.length), setL s.b k (some ⟨true, size, ownRows rows, false⟩)⟩ n x r
    | _ => False
/-- The code is this one. -/
inductive TrC (P : Program) : C → Code → Prop
  | stuck (x : Code) : TrC P .stuck x
  | skip : TrC P .skip .skip
  | reg (id : Nat) (ops : Array Oper) (is : List Ins) (hl : ops.size = is.length) (h : ∀ (k : Nat) i, is[k]? = some i → ∃ o, ops[k]? = some o ∧ TrI P ops o i) : TrC P (.reg is) (.region id ops false)
  | regd (id : Nat) (ops : Array Oper) (is : List Ins) (hm : P.follows .mixedOrders = true) (hl : ops.size = is.length) (h : ∀ (k : Nat) i, is[k]? = some i → ∃ o, ops[k]? = some o ∧ TrI P ops o i) (hp : pairsB ops is = true) : TrC P (.regd is) (.region id ops true)
  | rega (id : Nat) (ops : Array Oper) (is : List Ins) (hm : P.follows .mixedOrders = true) (hl : ops.size = is.length) (h : ∀ (k : Nat) i, is[k]? = some i → ∃ o, ops[k]? = some o ∧ TrI P ops o i) (hs : stB is = true) (hp : pairsW indepA ops is = true) : TrC P (.rega is) (.region id ops true)
  | seq (a b : C) (x y : Code) (ha : TrC P a x) (hb : TrC P b y) : TrC P (.seq a b) (.seq x y)
  | cond (o : O) (c : Operand) (a b : C) (x y : Code) (ho : OT c o) (ha : TrC P a x) (hb : TrC P b y) : TrC P (.cond o a b) (.cond c x y)
  | block (id : Nat) (a : C) (x : Code) (ha : TrC P a x) : TrC P (.block id a) (.block id x)
  | loop (fs ds : List Nat) (a : C) (x : Code) (ha : TrC P a x) : TrC P (.loop fs ds a) (.loop x)
  | exit (id : Nat) : TrC P (.exit id) (.exit id)
  | ret : TrC P .ret .ret
  | pre (fs zs ds : List Nat) (a : C) (x : Code) (ha : TrC P a x) : TrC P (.pre fs zs ds a) x
  | own (i k : Nat) (ag : Bool) (a : C) (x : Code) (ha : TrC P a x) : TrC P (.own i k ag a) x
def QOf (G : Gl) (n : St → Prop) (x : Nat → St → Prop) (r : St → Prop) : Exit → Act → World → Prop
  | .normal, a, w => Post G n a w
  | .exit j, a, w => Post G (x j) a w
  | .ret, a, w => Post G r a w
  | _, _, _ => False
theorem Rel.forget {G : Gl} {X : Cx} {a : Act} (fs : List Nat) : ∀ {t : List DV} {b : List (Option Box)}, Rel G X ⟨t, b⟩ a → Rel G X ⟨Vc.forget t fs, b⟩ a := by
  induction fs with
  | nil => exact fun h => h
  | cons f fs ih => exact fun h => ih (h.weak f .top trivial)
theorem Rel.dropB {G : Gl} {X : Cx} {a : Act} (ds : List Nat) : ∀ {t : List DV} {b : List (Option Box)}, Rel G X ⟨t, b⟩ a → Rel G X ⟨t, Vc.dropB b ds⟩ a := by
  induction ds with
  | nil => exact fun h => h
  | cons k ks ih =>
    intro t b h
    refine ih (b := setL b k none) ⟨h.defers, h.size, h.tmps, fun j bx hj => ?_, h.below, h.hb, h.mold⟩
    simp only [getElem?_setL] at hj
    split at hj
    · cases hb : b[j]? <;> rw [hb] at hj <;> simp at hj
    · exact h.boxes j bx hj
theorem copiesR_eq (rs : List (List DV)) : copiesR rs = rs.map copies := by induction rs with | nil => rfl | cons r rs ih => simp [copiesR, ih]
/-- A box that is written no more. -/
theorem Rel.fix {G : Gl} {X : Cx} {t : List DV} {b : List (Option Box)} {a : Act} (h : Rel G X ⟨t, b⟩ a) {k : Nat} {bx : Box} (hk : getB b k = some bx) (hp : allPR (copiesR bx.rows) = true) :
    ∃ X', X'.w = X.w ∧ Rel G X' ⟨t, setL b k (some ⟨false, bx.size, copiesR bx.rows, bx.old⟩)⟩ a := by
  obtain ⟨blk, cs, ty, hb⟩ := h.cbox (getB_some hk) (getB_ne hk)
  generalize hX : ({ X with M := fun c o => X.M c o ∧ c ≠ blk } : Cx) = X'
  have eM : ∀ c o, X'.M c o ↔ X.M c o ∧ c ≠ blk := by subst hX; exact fun _ _ => Iff.rfl
  have ew : X'.w = X.w := by subst hX; rfl
  have eo : X'.own = X.own := by subst hX; rfl
  have eρ : X'.ρ = X.ρ := by subst hX; rfl
  have eex : X'.ex = X.ex := by subst hX; rfl
  have hev : Ev (fun L => L ≠ .box k) X X' := by
    refine ⟨fun c o v hM hc => ⟨by rw [ew]; exact hc, fun h => hM ((eM c o).1 h).1⟩, fun g L hg hS _ => ⟨by rw [eo]; exact hg, by rw [ew], fun o hM => (eM g o).2 ⟨hM, fun e => ?_⟩⟩, eex⟩
    subst e
    rw [hb.own] at hg
    injection hg with hg
    exact hS hg.symm
  refine ⟨X', ew, h.defers, h.size, fun i d hd => (h.tmps i d hd).mono (fun _ _ _ h => by cases h) hev (by simp) fun _ _ => by rw [eρ], ?_, by rw [ew]; exact h.below, by rw [ew]; exact h.hb, eex.trans h.mold.1, fun c hc hx o => ?_⟩
  · intro j bx' hj
    rcases setB_get hj with ⟨rfl, rfl⟩ | ⟨hne, hj⟩
    · refine BX.cell (blk := blk) (cs := cs) (ty := ty) (show bx.size ≠ 0 from getB_ne hk) ⟨by rw [eρ]; exact hb.ρ, by rw [eo]; exact hb.own, by rw [eex]; exact hb.hbase, by rw [ew]; exact hb.heap, by simpa [copiesR_eq] using hb.size, ?_, ?_, (fun hl => by cases hl), fun _ => ⟨fun o _ hM => ((eM blk o).1 hM).2 rfl, fun row hrow d hd => allP_get (allPR_get hp hrow) hd⟩⟩
      · intro row hrow
        rw [copiesR_eq] at hrow
        obtain ⟨row0, hr0, rfl⟩ := List.mem_map.1 hrow
        rw [copies_eq, List.length_map]
        exact hb.width row0 hr0
      · intro r o row d u hrow hd hu
        rw [copiesR_eq, List.getElem?_map] at hrow
        cases hr0 : bx.rows[r]? with
        | none => rw [hr0] at hrow; simp at hrow
        | some row0 =>
          rw [hr0] at hrow
          simp at hrow
          subst hrow
          rw [copies_eq, List.getElem?_map] at hd
          cases hd0 : row0[o]? with
          | none => rw [hd0] at hd; simp at hd
          | some d0 =>
            rw [hd0] at hd
            simp at hd
            subst hd
            obtain ⟨f1, f2⟩ := hb.cells r o row0 d0 u hr0 hd0 hu
            exact ⟨(f1.copy (.cell j r o)).mono (fun _ _ _ h => by cases h) hev (by simp) fun _ _ => by rw [eρ], f2⟩
    · exact (h.boxes j bx' hj).mono (fun _ _ _ h => by cases h) hev (by simp [hne]) (fun _ _ => by simp) (by rw [eρ]) fun _ _ _ _ _ _ => by rw [eρ]
  · rw [eM]
    exact ⟨fun h' => (h.mold.2 c hc hx o).1 h'.1, fun h' => ⟨(h.mold.2 c hc hx o).2 h', fun e => by subst e; exact hb.hbase.elim (fun h => by have := h.2; omega) (fun h' => hx _ (by rw [← h.mold.1]; exact h'.2))⟩⟩
theorem Rel.fixes {G : Gl} {a : Act} {K : List (Option Box) → Prop} (zs : List Nat) : ∀ {X : Cx} {t : List DV} {b : List (Option Box)}, Rel G X ⟨t, b⟩ a → fixB b zs K → ∃ X' b', X'.w = X.w ∧ Rel G X' ⟨t, b'⟩ a ∧ K b' := by
  induction zs with
  | nil => exact fun {X t b} h hK => ⟨X, b, rfl, h, hK⟩
  | cons k ks ih =>
    intro X t b h hK
    simp only [fixB] at hK
    cases hb : getB b k with
    | none => simp [hb] at hK
    | some bx =>
      simp only [hb] at hK
      obtain ⟨X1, e1, h1⟩ := h.fix hb hK.1
      obtain ⟨X2, b2, e2, h2, hK2⟩ := ih h1 hK.2
      exact ⟨X2, b2, e2.trans e1, h2, hK2⟩
theorem scal_any {X X' : Cx} {base : Nat} {L L' : Loc} {d : DV} (hρ : ∀ k b, d.ment k = true → X.ρ k = some b → X'.ρ k = some b) (hd : d.scal = true) {v : Value} (h : VRel X base L d v) : VRel X' base L' d v := by
  have pv : ∀ {x : PV} {v : Value}, x.scal = true → Flat X.M X.w x v → Flat X'.M X'.w x v := by
    intro x v hx hf
    cases hf with
    | int k n => exact .int k n
    | bool b => exact .bool b
    | str s => exact .str s
    | fn f caps vs hl hh =>
      cases caps with
      | nil => exact .fn f [] vs hl (fun i c v hc => by simp at hc)
      | cons c cs => simp [PV.scal] at hx
    | _ => simp [PV.scal] at hx
  cases d with
  | top => trivial
  | tup ds =>
    cases ds with
    | nil => obtain ⟨vs, h1, h2, _⟩ := h; exact ⟨vs, h1, h2, fun j d u hd => by simp at hd⟩
    | cons _ _ => simp [DV.scal] at hd
  | p x => exact pv hd h
  | addr k sz r off => obtain ⟨b, h1, h2⟩ := h; exact ⟨b, hρ _ _ (by simp [DV.ment]) h1, h2⟩
  | bs k sz ag lo n => obtain ⟨b, cap, h1, h2⟩ := h; exact ⟨b, cap, hρ _ _ (by simp [DV.ment]) h1, h2⟩
  | fn f caps =>
    obtain ⟨vs, h1, h2, h3⟩ := h
    refine ⟨vs, h1, h2, fun j c u hc hu => ?_⟩
    have hcs := List.all_eq_true.1 hd c (List.mem_of_getElem? hc)
    have := h3 j c u hc hu
    cases c with
    | p x => exact pv hcs this
    | addr k sz r off =>
      obtain ⟨b, h1, h2⟩ := this
      exact ⟨b, hρ _ _ (by simp only [DV.ment, List.any_eq_true]; exact ⟨_, List.mem_of_getElem? hc, by simp⟩) h1, h2⟩
  | _ => simp [DV.scal] at hd
theorem scalT_get {i : Nat} : ∀ {t : List DV} {j0 j : Nat} {d : DV}, scalT i j0 t = true → t[j]? = some d → j0 + j ≠ i → d.scal = true := by
  intro t
  induction t with
  | nil => intro j0 j d _ h; simp at h
  | cons e es ih =>
    intro j0 j d h hd hne
    simp only [scalT, Bool.and_eq_true, Bool.or_eq_true, beq_iff_eq] at h
    cases j with
    | zero => simp at hd; subst hd; exact h.1.resolve_left (by omega)
    | succ j => exact ih h.2 (by simpa using hd) (by omega)
theorem scalR_get {rs : List (List DV)} (h : scalR rs = true) {r : List DV} (hr : r ∈ rs) {d : DV} (hd : d ∈ r) : d.scal = true := by
  induction rs with
  | nil => simp at hr
  | cons e es ih =>
    simp only [scalR, Bool.and_eq_true, List.all_eq_true] at h
    rcases List.mem_cons.1 hr with rfl | hr
    · exact h.1 d hd
    · exact ih h.2 hr
theorem scalB_get {k : Nat} : ∀ {b : List (Option Box)} {j0 j : Nat} {bx : Box}, scalB k j0 b = true → b[j]? = some (some bx) → j0 + j ≠ k → scalR bx.rows = true := by
  intro t
  induction t with
  | nil => intro j0 j d _ h; simp at h
  | cons e es ih =>
    intro j0 j d h hd hne
    simp only [scalB, Bool.and_eq_true, Bool.or_eq_true, beq_iff_eq] at h
    cases j with
    | zero => simp at hd; subst hd; exact h.1.resolve_left (by omega)
    | succ j => exact ih h.2 (by simpa using hd) (by omega)
theorem ownRows_eq (rows : List PV) : ownRows rows = rows.map fun x => (rowCells x).map DV.p := by induction rows with | nil => rfl | cons x xs ih => simp [ownRows, ih]
/-- An own slice becomes an own variable. -/
theorem Rel.own {G : Gl} {X : Cx} {s : St} {a : Act} (h : Rel G X s a) {i k size : Nat} {nl ag : Bool} {rows : List PV} (hi : getT s.t i = .ow size nl rows)
    (hc : (decide (size ≠ 0) && (decide (k < s.b.length) && (noRefT k s.t && (noRefB k 0 s.b && (scalT i 0 s.t && scalB k 0 s.b))))) = true) (hne : rows ≠ []) (hrs : scalR (ownRows rows) = true) :
    ∃ X', X'.w = X.w ∧ Rel G X' ⟨setL s.t i (.bs k size ag 0 rows.length), setL s.b k (some ⟨true, size, ownRows rows, false⟩)⟩ a := by
  simp only [Bool.and_eq_true, decide_eq_true_eq] at hc
  obtain ⟨hsz0, hkl, hT, hB, hsT, hsB⟩ := hc
  have hv := h.get i
  rw [hi] at hv
  rcases hv with ⟨h0, _⟩ | ⟨h0, g, cap, cur, ty, g0, g1, g2, g3, g4, g5, g6⟩
  · exact absurd h0 hne
  · have hilt : i < s.t.length := by
      refine Nat.lt_of_not_le fun hle => ?_
      rw [getT_eq, List.getElem?_eq_none hle] at hi
      cases hi
    have hglt : g < X.w.heap.size := (Array.getElem?_eq_some_iff.1 g3).1
    generalize hX : ({ X with ρ := (fun j => if j = k then some g else X.ρ j), own := (fun q => if q = g then some (.box k) else X.own q), M := fun b o => X.M b o ∨ b = g } : Cx) = X'
    have ew : X'.w = X.w := by subst hX; rfl
    have eex : X'.ex = X.ex := by subst hX; rfl
    have eρk : X'.ρ k = some g := by subst hX; simp
    have eρ : ∀ j, j ≠ k → X'.ρ j = X.ρ j := by subst hX; intro j hj; simp [hj]
    have eog : X'.own g = some (.box k) := by subst hX; simp
    have eo : ∀ q, q ≠ g → X'.own q = X.own q := by subst hX; intro j hj; simp [hj]
    have eM : ∀ b o, X'.M b o ↔ X.M b o ∨ b = g := by subst hX; exact fun _ _ => Iff.rfl
    rw [g0] at g5
    have hcells : ∀ (r o : Nat) row c u, rows[r]? = some row → (rowCells row)[o]? = some c → cur[r * size + o]? = some u → Flat X.M X.w c u ∧ c.one = true ∧ (rowCells row).length = size := by
      intro r o row c u hr hcc hu
      cases g5 with
      | sl _ _ b off cap' cv hcap hmax hcv hs h1 hr' =>
        have hrl := (List.getElem?_eq_some_iff.1 hr).1
        have hol := (List.getElem?_eq_some_iff.1 hcc).1
        have hsz := hs row (List.mem_of_getElem? hr)
        have hlt : r * size + o < rows.length * size := by
          have : (r + 1) * size ≤ rows.length * size := Nat.mul_le_mul_right _ hrl
          rw [Nat.add_mul] at this; omega
        have := (hcv (r * size + o) hlt).1
        rw [Nat.zero_add, heap_cell g3, hu] at this
        injection this with this
        rw [this]
        exact ⟨hr' r o row c hr hcc, h1 row (List.mem_of_getElem? hr) c (List.mem_of_getElem? hcc), hsz⟩
      | sl0 => simp at hr
    have hrow : ∀ row, row ∈ rows → (rowCells row).length = size := by
      cases g5 with
      | sl _ _ b off cap' cv hcap hmax hcv hs h1 hr' => exact hs
      | sl0 => intro row hr; simp at hr
    have hrsc : ∀ x, x ∈ rows → ∀ c, c ∈ rowCells x → c.scal = true := fun x hx c hc => by
      rw [ownRows_eq] at hrs
      exact scalR_get hrs (List.mem_map.2 ⟨x, hx, rfl⟩) (d := .p c) (List.mem_map.2 ⟨c, hc, rfl⟩)
    have hcapm : rows.length ≤ cap ∧ cap ≤ maxLen := by
      cases g5 with
      | sl _ _ b off cap' cv hcap hmax hcv hs h1 hr' => exact ⟨hcap, hmax⟩
      | sl0 => exact ⟨Nat.zero_le _, Nat.zero_le _⟩
    refine ⟨X', ew, h.defers, by simpa [setL_length] using h.size, ?_, ?_, by rw [ew]; exact h.below, by rw [ew]; exact h.hb, eex.trans h.mold.1, fun b hb hx o => ?_⟩
    · intro j d hd
      simp only [getElem?_setL] at hd
      split at hd
      · rename_i e
        subst e
        rw [List.getElem?_eq_getElem hilt] at hd
        simp only [Option.map_some, Option.some.injEq] at hd
        subst hd
        exact ⟨g, cap, eρk, hcapm.1, hcapm.2, by simpa using g0⟩
      · rename_i hne'
        have hm := noRefT_get hT hd
        exact scal_any (fun k' b hk' hb => (eρ k' (fun e => by rw [e, hm] at hk'; cases hk')).trans hb) (scalT_get hsT hd (by omega)) (h.tmps j d hd)
    · intro j bx hj
      rcases setB_get hj with ⟨rfl, rfl⟩ | ⟨hne', hj⟩
      · refine BX.cell (blk := g) (cs := cur) (ty := ty) hsz0 ⟨eρk, eog, .inl ⟨rfl, g2⟩, by rw [ew]; exact g3, ?_, fun row hrow' => ?_, fun r o row d u hr hd hu => ?_, fun _ o => (eM g o).2 (.inr rfl), fun hl => by cases hl⟩
        · rw [g4, ownRows_eq, List.length_map]; exact Nat.mul_le_mul_right _ hcapm.1
        · simp only [ownRows_eq] at hrow'
          obtain ⟨x, hx, rfl⟩ := List.mem_map.1 hrow'
          simpa using hrow x hx
        · simp only [ownRows_eq, List.getElem?_map] at hr
          cases hx : rows[r]? with
          | none => rw [hx] at hr; simp at hr
          | some x =>
            rw [hx] at hr
            simp only [Option.map_some, Option.some.injEq] at hr
            subst hr
            rw [List.getElem?_map] at hd
            cases hc : (rowCells x)[o]? with
            | none => rw [hc] at hd; simp at hd
            | some c =>
              rw [hc] at hd
              simp only [Option.map_some, Option.some.injEq] at hd
              subst hd
              obtain ⟨f1, f2, _⟩ := hcells r o x c u hx hc hu
              have hsc := hrsc x (List.mem_of_getElem? hx) c (List.mem_of_getElem? hc)
              exact ⟨scal_any (X := X) (base := G.base) (L := .tmp 0) (d := .p c) (fun _ _ hm => by simp [DV.ment] at hm) hsc f1, Flat.oneCell f1 f2⟩
      · have hnr := noRefB_get hB hj (by omega)
        have hsr := scalB_get hsB hj (by omega)
        have hBX := h.boxes j bx hj
        unfold BX at hBX ⊢
        split
        · rename_i hs0
          rw [if_pos hs0] at hBX
          obtain ⟨blk, es, clock, m1, m2, m3, m4, m5, m6, m7⟩ := hBX
          have hbg : blk ≠ g := fun e => by rw [e, g1] at m2; cases m2
          refine ⟨blk, es, clock, by rw [eρ j hne']; exact m1, (eo blk hbg).trans m2, by rw [eex]; exact m3, by rw [ew]; exact m4, m5, fun o => (eM blk o).2 (.inl (m6 o)), fun i row e hi he => ?_⟩
          obtain ⟨q0, n0, x0, f1, f2, f3⟩ := m7 i row e hi he
          have hsc := scalR_get hsr (List.mem_of_getElem? hi) (d := .p x0) (by rw [f1]; simp)
          exact ⟨q0, n0, x0, f1, f2, scal_any (X := X) (base := G.base) (L := .tmp 0) (L' := .tmp 0) (d := .p x0) (fun _ _ hm => by simp [DV.ment] at hm) hsc f3⟩
        · rename_i hs0
          rw [if_neg hs0] at hBX
          obtain ⟨blk, cs, ty', hb⟩ := hBX
          have hbg : blk ≠ g := fun e => by have := hb.own; rw [e, g1] at this; cases this
          refine ⟨blk, cs, ty', by rw [eρ j hne']; exact hb.ρ, (eo blk hbg).trans hb.own, by rw [eex]; exact hb.hbase, by rw [ew]; exact hb.heap, hb.size, hb.width, fun r o row d u hr hd hu => ?_, fun hl o => (eM blk o).2 (.inl (hb.live hl o)), fun hl => ?_⟩
          · obtain ⟨f1, f2⟩ := hb.cells r o row d u hr hd hu
            have hm := noRefR_get hnr (List.mem_of_getElem? hr) (List.mem_of_getElem? hd)
            exact ⟨scal_any (fun k' b hk' hb => (eρ k' (fun e => by rw [e, hm] at hk'; cases hk')).trans hb) (scalR_get hsr (List.mem_of_getElem? hr) (List.mem_of_getElem? hd)) f1, f2⟩
          · obtain ⟨f1, f2⟩ := hb.fixed hl
            exact ⟨fun o ho hM => ((eM blk o).1 hM).elim (f1 o ho) hbg, f2⟩
    · rw [eM]
      exact ⟨fun h' => h'.elim (h.mold.2 b hb hx o).1 (fun e => by omega), fun h' => .inl ((h.mold.2 b hb hx o).2 h')⟩
theorem vc_ok {G : Gl} {c : C} {x : Code} (ht : TrC P c x) : ∀ {n : St → Prop} {xx : Nat → St → Prop} {r : St → Prop} {s : St} {X : Cx} {a : Act}, Rel G X s a → vc P c s n xx r → x.wp P (QOf G n xx r) a X.w := by
  induction ht with
  | stuck x => exact fun {n xx r s X a} h hK => hK.elim
  | skip => exact fun {n xx r s X a} h hK => wp_skip ⟨s, X, h, rfl, hK⟩
  | reg id ops is hl htr => exact fun {n xx r s X a} h hK => execs_region hl htr (fun s X a h hk => ⟨s, X, h, rfl, hk⟩) h hK
  | regd id ops is hm hl htr hp => exact fun {n xx r s X a} h hK => execs_draw hm hl htr hp (fun s X a h hk => ⟨s, X, h, rfl, hk⟩) h hK
  | rega id ops is hm hl htr hs hp => exact fun {n xx r s X a} h hK => execs_drawA hm hl htr hp (fun s X a h hk => ⟨s, X, h, rfl, hk⟩) h (invA_of hs hK.1) hK.2
  | seq a b x y _ _ iha ihb =>
    intro n xx r s X a h hK
    refine wp_seq (wp_mono (iha h hK) fun e a' w' hq => ?_)
    cases e with
    | normal =>
      obtain ⟨s', X', h', e', k'⟩ := hq
      subst e'
      exact ihb h' k'
    | _ => exact hq
  | cond o c a b x y ho _ _ iha ihb =>
    intro n xx r s X a h hK
    obtain ⟨L, hv⟩ := h.opnd ho
    simp only [vc] at hK
    cases o with
    | t j =>
      simp only [O.val] at hv hK
      generalize hg : getT s.t j = dv at *
      cases dv with
      | p z =>
        cases z with
        | bool t =>
          simp only at hK
          have hb := Flat.boolv hv
          refine wp_cond_split hb (fun e => ?_) (fun e => ?_)
          · subst e
            have hc : c = .tmp j := by cases ho; rfl
            subst hc
            exact iha (h.weak j (.p (.bool true)) hv) (hK.1 rfl)
          · subst e
            have hc : c = .tmp j := by cases ho; rfl
            subst hc
            exact ihb (h.weak j (.p (.bool false)) hv) (hK.2 rfl)
        | _ => exact hK.elim
      | _ => exact hK.elim
    | c d =>
      simp only [O.val] at hv hK
      cases d with
      | p z =>
        cases z with
        | bool t =>
          simp only at hK
          have hb := Flat.boolv hv
          exact wp_cond_split hb (fun e => iha h (hK.1 e)) (fun e => ihb h (hK.2 e))
        | _ => exact hK.elim
      | _ => exact hK.elim
  | block id a x _ iha =>
    intro n xx r s X a h hK
    refine wp_block (wp_mono (iha h hK) fun e a' w' hq => ?_)
    cases e with
    | exit j =>
      obtain ⟨s', X', h', e', k'⟩ := hq
      simp only [Exit.inBlock]
      by_cases hj : j = id
      · subst hj
        rw [if_pos rfl] at k' ⊢
        exact ⟨s', X', h', e', k'⟩
      · rw [if_neg hj] at k' ⊢
        exact ⟨s', X', h', e', k'⟩
    | _ => exact hq
  | loop fs ds c x _ ih =>
    intro n xx r s X a h hK
    obtain ⟨k, hK⟩ := hK
    have h' := (h.forget fs (t := s.t) (b := s.b)).dropB ds
    refine wp_loop_rounds k ?_
    clear h
    generalize (⟨Vc.forget s.t fs, Vc.dropB s.b ds⟩ : St) = s0 at *
    induction k generalizing s0 X a with
    | zero => exact hK.elim
    | succ k ihk =>
      rw [rounds_succ]
      refine wp_mono (ih h' hK) fun e a' w' hq => ?_
      cases e with
      | normal =>
        obtain ⟨s', X', h', e', k'⟩ := hq
        subst e'
        exact ihk _ k' ((h'.forget fs (t := s'.t) (b := s'.b)).dropB ds)
      | _ => exact hq
  | exit id => exact fun {n xx r s X a} h hK => wp_exit ⟨s, X, h, rfl, hK⟩
  | ret => exact fun {n xx r s X a} h hK => wp_ret ⟨s, X, h, rfl, hK⟩
  | own i k ag c x _ iha =>
    intro n xx r s X a h hK
    simp only [vc] at hK
    generalize hg : getT s.t i = dv at *
    cases dv with
    | ow size nl rows =>
      obtain ⟨h1, h2, h3, hK⟩ := hK
      obtain ⟨X', e', h'⟩ := h.own hg h1 h2 h3
      rw [← e']
      exact iha h' hK
    | _ => exact hK.elim
  | pre fs zs ds a x _ iha =>
    intro n xx r s X a h hK
    obtain ⟨X', b', e', h', k'⟩ := Rel.fixes zs (t := s.t) (b := s.b) h hK
    rw [← e']
    exact iha ((h'.forget fs).dropB ds) k'
end Go.Proofs.YtkjghcbnmipgfaaGreatDoor.Vc
namespace Go.Proofs.YtkjghcbnmipgfaaGreatDoor.Vc
open Go.RowKit
variable {P : Program}
inductive RV where
  | tmp (t : Nat)
  | cell (t n : Nat)
def dvT (b : List (Option Box)) (K : TV → Prop) : DV → Prop
  | .p x => K (.p x)
  | .ow size n rows => K (.ow size n rows)
  | d => match d.frz b with
    | some x => K (.p x)
    | none => False
def ret1 (s : St) (K : TV → Prop) : RV → Prop
  | .tmp t => dvT s.b K (getT s.t t)
  | .cell t n => match getT s.t t with
    | .addr k sz r off => match getB s.b k with
      | some bx => sz = bx.size ∧ ∃ row, bx.rows[r]? = some row ∧ off + n ≤ row.length ∧ match pvsOf (takeD row off n) with
        | some cs => K (.p (.agg cs))
        | none => False
      | none => False
    | _ => False
def rets (s : St) : List RV → (List TV → Prop) → Prop
  | [], K => K []
  | r :: rs, K => ret1 s (fun x => rets s rs fun xs => K (x :: xs)) r
def resOf : List TV → DV
  | [x] => x.dv
  | xs => .tup xs
def St0 (n nb : Nat) (args : List PV) : St := ⟨args.map .p ++ List.replicate (n - args.length) .top, List.replicate nb none⟩
/-- The function's results are these. -/
inductive RVs (P : Program) : List ResultVar → List RV → Prop
  | nil : RVs P [] []
  | tmp (t : Nat) (rs : List ResultVar) (l : List RV) (h : RVs P rs l) : RVs P (.tmp t :: rs) (.tmp t :: l)
  | cell (t n : Nat) (ty : TypeId) (rs : List ResultVar) (l : List RV) (ht : TyIs P ty n true) (h : RVs P rs l) : RVs P (.cell t ty :: rs) (.cell t n :: l)
def locOf : RV → Loc
  | .tmp t => .tmp t
  | .cell t _ => .comp (.tmp t) 0
deriving instance DecidableEq for Loc
theorem box_agg {G : Gl} {X : Cx} {s : St} {a : Act} (h : Rel G X s a) {t : TypeId} {n : Nat} (ht : TyIs P t n true) {v : Value} {k sz r off : Nat} {L0 : Loc} (rx : VRel X G.base L0 (.addr k sz r off) v)
    {bx : Box} (hbk : getB s.b k = some bx) (hsz : sz = bx.size) {row : List DV} (hr : bx.rows[r]? = some row) (hle : off + n ≤ row.length) {xs : List PV} (hp : pvsOf (takeD row off n) = some xs) :
    ∃ u, (do loadVar t (← asAddr v) : Sem Value).run P X.w = .ok u X.w ∧ Flat X.M X.w (.agg xs) u := by
  obtain ⟨blk, hρ, ev⟩ := rx
  subst hsz
  have hbk' := getB_some hbk
  obtain ⟨blk', cs, ty, hb⟩ := h.cbox hbk' (getB_ne hbk)
  have : blk' = blk := by have := hb.ρ; rw [hρ] at this; injection this with h; exact h.symm
  subst this
  obtain ⟨e1, e2⟩ := pvsOf_get hp
  have hcell : ∀ j, j < n → ∃ u, X.w.cell? ⟨blk', r * bx.size + off + j, none⟩ = some u ∧ VRel X G.base (.cell k r (off + j)) (row[off + j]?.getD .top) u ∧ u.oneCell' = true := by
    intro j hj
    obtain ⟨u, _, h2, h3, h4⟩ := hb.cell hr (i := off + j) (by omega)
    refine ⟨u, by rw [Nat.add_assoc]; exact h2, ?_, h4⟩
    rw [List.getElem?_eq_getElem (by omega)]
    exact h3
  have hf : ∃ f : Nat → Value, ∀ j, j < n → X.w.cell? ⟨blk', r * bx.size + off + j, none⟩ = some (f j) ∧ VRel X G.base (.cell k r (off + j)) (row[off + j]?.getD .top) (f j) ∧ (f j).oneCell' = true := by
    refine ⟨fun j => if hj : j < n then (hcell j hj).choose else undef, fun j hj => ?_⟩
    simp only [dif_pos hj]
    exact (hcell j hj).choose_spec
  obtain ⟨f, hf⟩ := hf
  have hlen : xs.length = n := by rw [e1, takeD_eq]; simp; omega
  have hcs : ∀ (i : Nat) c, xs[i]? = some c → i < n ∧ Flat X.M X.w c (f i) ∧ c.one = true := by
    intro i c hc
    have hin : i < n := by rw [← hlen]; exact (List.getElem?_eq_some_iff.1 hc).1
    have hd : (takeD row off n)[i]? = some (row[off + i]?.getD .top) := by
      rw [takeD_eq, List.getElem?_take, if_pos hin, List.getElem?_drop, List.getElem?_eq_getElem (by omega)]; rfl
    have hpv := e2 i _ c hd hc
    have := pv_of (hf i hin).2.1 hpv
    exact ⟨hin, this, this.one_of_cell (hf i hin).2.2⟩
  have run := run_loadCells (P := P) X.w ⟨blk', r * bx.size + off, none⟩ n f (fun j hj => by rw [Addr.add_lit]; exact (hf j hj).1)
  refine ⟨.agg ((List.range n).map f).toArray, ?_, .agg _ _ (by simp [hlen]) ?_ ?_⟩
  · subst ev
    simp [asAddr, loadVar, ht.run_isAgg, ht.run_sizeOf, run]
  · intro c hc
    obtain ⟨i, hi⟩ := List.getElem?_of_mem hc
    exact (hcs i c hi).2.2
  · intro i c u hc hu
    obtain ⟨hin, h1, _⟩ := hcs i c hc
    have : u = f i := by simpa [hin, eq_comm] using hu
    subst this
    exact h1
/-- What the results hold. -/
theorem rets_ok {G : Gl} {X : Cx} {s : St} {a : Act} (h : Rel G X s a) {rs : List ResultVar} {l : List RV} (hr : RVs P rs l) : ∀ {K : List TV → Prop}, rets s l K →
    ∃ xs : List TV, ∃ vs : List Value, K xs ∧ xs.length = l.length ∧ vs.length = l.length ∧
      (∀ f : ResultVar → Sem Value, (∀ u, f (.tmp u) = pure (a.tmps.getD u undef)) → (∀ p t, f (.cell p t) = (do loadVar t (← asAddr (a.tmps.getD p undef)))) → (rs.mapM f).run P X.w = .ok vs X.w) ∧
      ∀ (j : Nat) d u rv, xs[j]? = some d → vs[j]? = some u → l[j]? = some rv → TRel X G.base (locOf rv) d u := by
  induction hr with
  | nil => exact fun {K} hK => ⟨[], [], hK, rfl, rfl, fun f _ _ => by simp, fun j d u rv hd => by simp at hd⟩
  | tmp t rs l _ ih =>
    intro K hK
    simp only [rets, ret1] at hK
    obtain ⟨hv⟩ : Nonempty (VRel X G.base (.tmp t) (getT s.t t) (a.tmps.getD t undef)) := ⟨h.get t⟩
    have key : ∃ d : TV, TRel X G.base (.tmp t) d (a.tmps.getD t undef) ∧ rets s l (fun xs => K (d :: xs)) := by
      generalize hg : getT s.t t = dv at *
      have other : ∀ {dv : DV}, VRel X G.base (.tmp t) dv (a.tmps.getD t undef) → (match dv.frz s.b with | some x => rets s l (fun xs => K (.p x :: xs)) | none => False) → ∃ d : TV, TRel X G.base (.tmp t) d (a.tmps.getD t undef) ∧ rets s l (fun xs => K (d :: xs)) := by
        intro dv hv hm
        cases hf : dv.frz s.b with
        | none => rw [hf] at hm; exact hm.elim
        | some x => rw [hf] at hm; exact ⟨.p x, frz h hv hf, hm⟩
      cases dv with
      | p x => exact ⟨.p x, hv, hK⟩
      | ow size n rows => exact ⟨.ow size n rows, hv, hK⟩
      | top => exact other hv hK
      | tup ds => exact other hv hK
      | addr k size r off => exact other hv hK
      | bs k size ag lo n => exact other hv hK
      | mh k => exact other hv hK
      | fn f caps => exact other hv hK
    obtain ⟨d, hd, hK⟩ := key
    obtain ⟨xs, vs, k1, k2, k3, k4, k5⟩ := ih hK
    refine ⟨d :: xs, a.tmps.getD t undef :: vs, k1, by simp [k2], by simp [k3], fun f h1 h2 => by simp [List.mapM_cons, h1, k4 f h1 h2], fun j e u rv he hu hrv => ?_⟩
    cases j with
    | zero => simp only [List.getElem?_cons_zero, Option.some.injEq] at he hu hrv; subst he; subst hu; subst hrv; exact hd
    | succ j => exact k5 j e u rv (by simpa using he) (by simpa using hu) (by simpa using hrv)
  | cell t n ty rs l ht _ ih =>
    intro K hK
    simp only [rets, ret1] at hK
    have hv := h.get t
    generalize hg : getT s.t t = dv at *
    cases dv with
    | addr k sz r off =>
      simp only at hK
      cases hbk : getB s.b k with
      | none => simp [hbk] at hK
      | some bx =>
        simp only [hbk] at hK
        obtain ⟨hsz, row, hrow, hle, hK⟩ := hK
        cases hp : pvsOf (takeD row off n) with
        | none => simp [hp] at hK
        | some cs =>
          simp only [hp] at hK
          obtain ⟨u, e1, e2⟩ := box_agg h ht hv hbk hsz hrow hle hp
          obtain ⟨xs, vs, k1, k2, k3, k4, k5⟩ := ih hK
          refine ⟨.p (.agg cs) :: xs, u :: vs, k1, by simp [k2], by simp [k3], fun f h1 h2 => ?_, fun j e v rv he hu hrv => ?_⟩
          · rw [List.mapM_cons, h2, Sem.run_bind, e1]
            simp [k4 f h1 h2]
          · cases j with
            | zero => simp at he hu hrv; subst he; subst hu; subst hrv; exact e2
            | succ j => exact k5 j e v rv (by simpa using he) (by simpa using hu) (by simpa using hrv)
    | _ => exact hK.elim
/-- The results' arrays change hands. -/
def handOver (ls : List Loc) (X : Cx) : Cx :=
  { X with own := fun g => match X.own g with
      | some L => (ls.idxOf? L).map fun j => if ls.length = 1 then .tmp 0 else .comp (.tmp 0) j
      | none => none }
theorem idxOf?_get {ls : List Loc} (hn : ls.Nodup) {j : Nat} {L : Loc} (h : ls[j]? = some L) : ls.idxOf? L = some j := by
  induction ls generalizing j with
  | nil => simp at h
  | cons x xs ih =>
    rw [List.nodup_cons] at hn
    cases j with
    | zero => simp at h; subst h; simp [List.idxOf?_cons]
    | succ j =>
      simp at h
      have hx : x ≠ L := by intro e; subst e; exact hn.1 (List.mem_of_getElem? h)
      simp [List.idxOf?_cons, hx, ih hn.2 h]
theorem TRel.handOver {X : Cx} {base : Nat} {ls : List Loc} (hn : ls.Nodup) {j : Nat} {L : Loc} (hj : ls[j]? = some L) {d : TV} {v : Value} (h : TRel X base L d v) :
    TRel (Vc.handOver ls X) base (if ls.length = 1 then .tmp 0 else .comp (.tmp 0) j) d v := by
  cases d with
  | p x => exact h
  | ow size n rows =>
    rcases h with h | ⟨h0, g, cap, cur, ty, g0, g1, g2, g3, g4, g5, g6⟩
    · exact .inl h
    · refine .inr ⟨h0, g, cap, cur, ty, g0, ?_, g2, g3, g4, g5, g6⟩
      show (match X.own g with | some L => _ | none => none) = _
      rw [g1]
      simp only
      rw [idxOf?_get hn hj]; rfl
theorem dv_rel {X : Cx} {base : Nat} {L : Loc} {d : TV} {v : Value} (h : TRel X base L d v) : VRel X base L d.dv v := by cases d <;> exact h
theorem args_get {n : Nat} (args : Array Value) (i : Nat) : (args ++ Array.replicate (n - args.size) undef).getD i undef = if h : i < args.size then args[i] else undef := by
  by_cases h : i < args.size
  · rw [dif_pos h]; simp [Array.getD, Array.getElem_append, h]; omega
  · rw [dif_neg h]
    simp [Array.getD, Array.getElem_append, h]
theorem pure_of_vc {f : FuncId} {fn : Func} {code : Code} {c : C} {nb : Nat} {args : List PV} {r : DV} {rvs : List RV} (hf : P.funcs[f]? = some fn) (hb : fn.body = some code) (hn : fn.name ≠ "runtime.NumGoroutine")
    (ht : TrC P c code) (hr : RVs P fn.results.toList rvs) (hnd : (rvs.map locOf).Nodup) (hrp : r.plain = true)
    (hv : vc P c (St0 fn.ntmps nb args) (fun s => rets s rvs fun xs => resOf xs = r) (fun _ _ => False) (fun s => rets s rvs fun xs => resOf xs = r)) : PureCall P f args r := by
  refine ⟨hrp, fun M0 w cargs hl hc => .inl ⟨⟨fn, hf, by rw [hb]; rfl, hn⟩, ?_⟩⟩
  · refine calls_of_wp hf hb ?_
    generalize hX : ({ ρ := fun _ => none, own := fun _ => none, M := M0, w := w, ex := fun _ => none } : Cx) = X
    have hrel : Rel ⟨w.heap.size, M0, w, fun _ => none⟩ X (St0 fn.ntmps nb args) { tmps := cargs ++ Array.replicate (fn.ntmps - cargs.size) undef, defers := [] } := by
      subst hX
      refine ⟨rfl, ?_, fun i d hd => ?_, fun k bx hk => ?_, BelowX.refl _ _ _, Nat.le_refl _, rfl, fun b _ _ o => Iff.rfl⟩
      · simp [St0, hl]
      · simp only [args_get]
        simp only [St0] at hd
        rw [List.getElem?_append] at hd
        simp only [List.length_map] at hd
        by_cases hi : i < args.length
        · rw [if_pos hi, List.getElem?_map] at hd
          rw [dif_pos (by omega)]
          cases hx : args[i]? with
          | none => rw [hx] at hd; simp at hd
          | some x =>
            rw [hx] at hd
            simp at hd
            subst hd
            exact hc i x _ hx (by simp [hl, hi])
        · rw [if_neg hi] at hd
          have := List.mem_of_getElem? hd
          simp at this
          rw [this.2]; trivial
      · simp only [St0] at hk
        have := List.mem_of_getElem? hk
        simp at this
    have fin : ∀ a w', Post ⟨w.heap.size, M0, w, fun _ => none⟩ (fun s => rets s rvs fun xs => resOf xs = r) a w' → bodyPost P fn (fun e w' => ∃ v X, e = .returned v ∧ X.w = w' ∧ VRel X w.heap.size (.tmp 0) r v ∧ (∀ b, b < w.heap.size → ∀ o, X.M b o ↔ M0 b o) ∧ Below w.heap.size w w') .ret a w' := by
      intro a w' ⟨s, X', h', e', hK⟩
      subst e'
      obtain ⟨xs, vs, k1, k2, k3, k4, k5⟩ := rets_ok h' hr hK
      subst k1
      have hres : (results fn a.tmps).run P X'.w = .ok (if h : vs.toArray.size = 1 then vs.toArray[0] else .tuple vs.toArray) X'.w := by
        unfold results
        rw [← Array.toArray_toList (xs := fn.results), List.mapM_toArray]
        simp only [Sem.run_bind, Sem.run_map]
        rw [k4 _ (fun _ => rfl) (fun _ _ => rfl)]
        rfl
      refine ⟨h'.defers, _, hres, _, handOver (rvs.map locOf) X', rfl, rfl, ?_, fun b hb o => h'.mold.2 b hb (fun _ h => by cases h) o, h'.below.below fun _ => rfl⟩
      have hloc : ∀ (j : Nat) d u, xs[j]? = some d → vs[j]? = some u → TRel (handOver (rvs.map locOf) X') w.heap.size (if (rvs.map locOf).length = 1 then .tmp 0 else .comp (.tmp 0) j) d u := by
        intro j d u hd hu
        have hj : j < rvs.length := by rw [← k2]; exact (List.getElem?_eq_some_iff.1 hd).1
        have hrv : rvs[j]? = some rvs[j] := by simp [hj]
        exact TRel.handOver hnd (j := j) (by rw [List.getElem?_map, hrv]; rfl) (k5 j d u _ hd hu hrv)
      match xs, vs, k2, k3, hloc with
      | [x], [v], k2, k3, hloc =>
        have := hloc 0 x v rfl rfl
        simp at k2
        rw [if_pos (by simp [← k2])] at this
        exact dv_rel this
      | [], [], k2, k3, hloc => exact ⟨#[], by simp, by simp, fun j d u hd => by simp at hd⟩
      | x :: y :: xs, vs, k2, k3, hloc =>
        have hvl : vs.length = xs.length + 2 := by rw [k3, ← k2]; rfl
        refine ⟨vs.toArray, by simp [hvl], by simp [hvl], fun j d u hd hu => ?_⟩
        have := hloc j d u hd (by simpa using hu)
        rw [if_neg (by simp [← k2])] at this
        exact this
      | [x], [], k2, k3, _ => simp at k2 k3; omega
      | [x], _ :: _ :: _, k2, k3, _ => simp at k2 k3; omega
      | [], _ :: _, k2, k3, _ => simp at k2 k3; omega
    have e0 : X.w = w := by subst hX; rfl
    have hwp := vc_ok ht hrel hv
    rw [e0] at hwp
    refine wp_mono hwp fun e a w' hq => ?_
    cases e with
    | normal => exact fin a w' hq
    | ret => exact fin a w' hq
    | exit j => obtain ⟨_, _, _, _, h⟩ := hq; exact h.elim
    | _ => exact hq.elim
/-- A parameter that speaks of the block that was handed in, by the number that this function has for it. -/
def renD (nb : Nat) : DV → DV
  | .bs _ sz ag lo n => .bs nb sz ag lo n
  | .addr _ sz r o => .addr nb sz r o
  | d => d
def St1 (n nb : Nat) (args : List DV) (size : Nat) (rows : List (List DV)) : St :=
  ⟨args.map (renD nb) ++ List.replicate (n - args.length) .top, List.replicate nb none ++ [some ⟨true, size, rows, true⟩]⟩
/-- An argument of a call that hands in a block. -/
def DV.arg : DV → Bool
  | .p _ => true
  | .bs k _ _ _ _ | .addr k _ _ _ => k == 0
  | _ => false
theorem mcall_of_vc {f : FuncId} {fn : Func} {code : Code} {c : C} {nb size : Nat} {args : List DV} {rows rows' : List (List DV)} {r : DV} {rvs : List RV} (hf : P.funcs[f]? = some fn) (hb : fn.body = some code) (hn : fn.name ≠ "runtime.NumGoroutine")
    (ht : TrC P c code) (hr : RVs P fn.results.toList rvs) (hnd : (rvs.map locOf).Nodup) (hrp : r.plain = true) (hrows : allPR rows = true) (hrows' : allPR rows' = true) (hargs : args.all DV.arg = true) (hsz0 : size ≠ 0)
    (hv : vc P c (St1 fn.ntmps nb args size rows) (fun s => getB s.b nb = some ⟨true, size, rows', true⟩ ∧ rets s rvs fun xs => resOf xs = r) (fun _ _ => False) (fun s => getB s.b nb = some ⟨true, size, rows', true⟩ ∧ rets s rvs fun xs => resOf xs = r)) : MCall P f size args rows rows' r := by
  refine ⟨⟨fn, hf, by rw [hb]; rfl, hn⟩, hrp, hrows', fun M0 w cargs blk cs ty hl hbx hc => ?_⟩
  · refine calls_of_wp hf hb ?_
    have hlt : blk < w.heap.size := (Array.getElem?_eq_some_iff.1 hbx.heap).1
    generalize hX : ({ ρ := fun i => if i = nb then some blk else none, own := fun g => if g = blk then some (.box nb) else none, M := M0, w := w, ex := fun i => if i = nb then some blk else none } : Cx) = X
    have hXM : X.M = M0 := by subst hX; rfl
    have hXw : X.w = w := by subst hX; rfl
    have hXρ : X.ρ nb = some blk := by subst hX; simp
    have hpv : ∀ {L : Loc} {x : PV} {v : Value}, VRel (mcx M0 w blk) w.heap.size L (.p x) v → Flat M0 w x v := fun h => h
    have hrel : Rel ⟨w.heap.size, M0, w, fun i => if i = nb then some blk else none⟩ X (St1 fn.ntmps nb args size rows) { tmps := cargs ++ Array.replicate (fn.ntmps - cargs.size) undef, defers := [] } := by
      refine ⟨rfl, ?_, fun i d hd => ?_, fun k bx hk => ?_, by rw [hXw]; exact BelowX.refl _ _ _, by rw [hXw]; exact Nat.le_refl _, by subst hX; rfl, fun b _ _ o => by rw [hXM]⟩
      · simp [St1, hl]
      · simp only [args_get]
        simp only [St1] at hd
        rw [List.getElem?_append] at hd
        simp only [List.length_map] at hd
        by_cases hi : i < args.length
        · rw [if_pos hi, List.getElem?_map] at hd
          rw [dif_pos (by omega)]
          cases hx : args[i]? with
          | none => rw [hx] at hd; simp at hd
          | some x =>
            rw [hx] at hd
            simp only [Option.map_some, Option.some.injEq] at hd
            subst hd
            have hv := hc i x cargs[i] hx (by simp [hl, hi])
            have ha := List.all_eq_true.1 hargs x (List.mem_of_getElem? hx)
            cases x with
            | p x => show Flat X.M X.w x _; rw [hXM, hXw]; exact hv
            | bs k sz ag lo n =>
              obtain ⟨b, cap, e1, e2, e3, e4⟩ := hv
              simp only [DV.arg, beq_iff_eq] at ha
              subst ha
              simp only [mcx, if_pos, Option.some.injEq] at e1
              exact ⟨b, cap, by rw [hXρ, e1], e2, e3, e4⟩
            | addr k sz r o =>
              obtain ⟨b, e1, e2⟩ := hv
              simp only [DV.arg, beq_iff_eq] at ha
              subst ha
              simp only [mcx, if_pos, Option.some.injEq] at e1
              exact ⟨b, by rw [hXρ, e1], e2⟩
            | _ => simp [DV.arg] at ha
        · rw [if_neg hi] at hd
          have := List.mem_of_getElem? hd
          simp at this
          rw [this.2]; trivial
      · simp only [St1] at hk
        rw [List.getElem?_append] at hk
        split at hk
        · have := List.mem_of_getElem? hk
          simp at this
        · rename_i hk'
          simp only [List.length_replicate] at hk hk'
          have hk0 : k = nb := by
            have := (List.getElem?_eq_some_iff.1 hk).1
            simp at this; omega
          subst hk0
          simp only [Nat.sub_self, List.getElem?_cons_zero, Option.some.injEq] at hk
          subst hk
          refine BX.cell (blk := blk) (cs := cs) (ty := ty) hsz0 ⟨hXρ, by subst hX; simp, .inr ⟨rfl, by subst hX; simp⟩, by rw [hXw]; exact hbx.heap, hbx.size, hbx.width, fun r o row d u h1 h2 h3 => ?_, fun _ o => by rw [hXM]; exact hbx.live rfl o, fun h => by cases h⟩
          obtain ⟨f1, f2⟩ := hbx.cells r o row d u h1 h2 h3
          have hdp := allP_get (allPR_get hrows (List.mem_of_getElem? h1)) (List.mem_of_getElem? h2)
          cases d with
          | p x => exact ⟨by show Flat X.M X.w x u; rw [hXM, hXw]; exact f1, f2⟩
          | _ => simp [DV.isP] at hdp
    have fin : ∀ a w', Post ⟨w.heap.size, M0, w, fun i => if i = nb then some blk else none⟩ (fun s => getB s.b nb = some ⟨true, size, rows', true⟩ ∧ rets s rvs fun xs => resOf xs = r) a w' → bodyPost P fn (fun e w' => ∃ v X cs' ty', e = .returned v ∧ X.w = w' ∧ VRel X w.heap.size (.tmp 0) r v ∧ BoxRel X w.heap.size 0 ⟨true, size, rows', true⟩ blk cs' ty' ∧
        (∀ b, b < w.heap.size → b ≠ blk → ∀ o, X.M b o ↔ M0 b o) ∧ BelowX (fun i => if i = 0 then some blk else none) w.heap.size w w') .ret a w' := by
      intro a w' ⟨s, X', h', e', hbx', hK⟩
      subst e'
      obtain ⟨xs, vs, k1, k2, k3, k4, k5⟩ := rets_ok h' hr hK
      subst k1
      have hres : (results fn a.tmps).run P X'.w = .ok (if h : vs.toArray.size = 1 then vs.toArray[0] else .tuple vs.toArray) X'.w := by
        unfold results
        rw [← Array.toArray_toList (xs := fn.results), List.mapM_toArray]
        simp only [Sem.run_bind, Sem.run_map]
        rw [k4 _ (fun _ => rfl) (fun _ _ => rfl)]
        rfl
      obtain ⟨blk', cs', ty', hb'⟩ := h'.cbox (getB_some hbx') hsz0
      have hblk : blk' = blk := by
        rcases hb'.hbase with ⟨h1, _⟩ | ⟨_, h1⟩
        · cases h1
        · rw [h'.mold.1] at h1; simp only [if_pos, Option.some.injEq] at h1; exact h1.symm
      subst hblk
      generalize hY : handOver (rvs.map locOf) X' = Y
      have hYo : Y.own blk' = none := by
        subst hY
        show (match X'.own blk' with | some L => _ | none => none) = none
        rw [hb'.own]
        simp only
        have : (rvs.map locOf).idxOf? (.box nb) = none := by
          rw [List.idxOf?_eq_none_iff]
          intro hm
          obtain ⟨rv, _, e⟩ := List.mem_map.1 hm
          cases rv <;> simp [locOf] at e
        rw [this]; rfl
      have hYM : Y.M = X'.M := by subst hY; rfl
      have hYw : Y.w = X'.w := by subst hY; rfl
      generalize hZ : ({ Y with ρ := fun i => if i = 0 then some blk' else none, own := fun g => if g = blk' then some (.box 0) else Y.own g, ex := fun i => if i = 0 then some blk' else none } : Cx) = Z
      have hZM : Z.M = X'.M := by subst hZ; exact hYM
      have hZw : Z.w = X'.w := by subst hZ; exact hYw
      have hZo : ∀ g, g ≠ blk' → Z.own g = Y.own g := by subst hZ; intro g hg; simp [hg]
      refine ⟨h'.defers, _, hres, _, Z, cs', ty', rfl, hZw, ?_, ?_, fun b hb hne o => ?_, ?_⟩
      · have trz : ∀ {L : Loc} {d : TV} {u : Value}, TRel Y w.heap.size L d u → TRel Z w.heap.size L d u := by
          intro L d u hu
          cases d with
          | p x => show Flat Z.M Z.w x u; rw [hZM, hZw, ← hYM, ← hYw]; exact hu
          | ow sz nl rws =>
            rcases hu with hu | ⟨h0, g, cap, cur, ty, g0, g1, g2, g3, g4, g5, g6⟩
            · exact .inl hu
            · have hgb : g ≠ blk' := fun e => by rw [e, hYo] at g1; cases g1
              exact .inr ⟨h0, g, cap, cur, ty, g0, (hZo g hgb).trans g1, g2, by rw [hZw, ← hYw]; exact g3, g4, by rw [hZM, hZw, ← hYM, ← hYw]; exact g5, fun o ho => by rw [hZM, ← hYM]; exact g6 o ho⟩
        have hloc : ∀ (j : Nat) d u, xs[j]? = some d → vs[j]? = some u → TRel Z w.heap.size (if (rvs.map locOf).length = 1 then .tmp 0 else .comp (.tmp 0) j) d u := by
          intro j d u hd hu
          have hj : j < rvs.length := by rw [← k2]; exact (List.getElem?_eq_some_iff.1 hd).1
          have hrv : rvs[j]? = some rvs[j] := by simp [hj]
          have := TRel.handOver hnd (j := j) (by rw [List.getElem?_map, hrv]; rfl) (k5 j d u _ hd hu hrv)
          rw [hY] at this
          exact trz this
        match xs, vs, k2, k3, hloc with
        | [x], [v], k2, k3, hloc =>
          have := hloc 0 x v rfl rfl
          simp at k2
          rw [if_pos (by simp [← k2])] at this
          exact dv_rel this
        | [], [], k2, k3, hloc => exact ⟨#[], by simp, by simp, fun j d u hd => by simp at hd⟩
        | x :: y :: xs, vs, k2, k3, hloc =>
          have hvl : vs.length = xs.length + 2 := by rw [k3, ← k2]; rfl
          refine ⟨vs.toArray, by simp [hvl], by simp [hvl], fun j d u hd hu => ?_⟩
          have := hloc j d u hd (by simpa using hu)
          rw [if_neg (by simp [← k2])] at this
          exact this
        | [x], [], k2, k3, _ => simp at k2 k3; omega
        | [x], _ :: _ :: _, k2, k3, _ => simp at k2 k3; omega
        | [], _ :: _, k2, k3, _ => simp at k2 k3; omega
      · refine ⟨by subst hZ; simp, by subst hZ; simp, .inr ⟨rfl, by subst hZ; simp⟩, by rw [hZw]; exact hb'.heap, hb'.size, hb'.width, fun r o row d u h1 h2 h3 => ?_, fun _ o => by rw [hZM]; exact hb'.live rfl o, fun h => by cases h⟩
        obtain ⟨f1, f2⟩ := hb'.cells r o row d u h1 h2 h3
        have hdp := allP_get (allPR_get hrows' (List.mem_of_getElem? h1)) (List.mem_of_getElem? h2)
        cases d with
        | p x => exact ⟨by show Flat Z.M Z.w x u; rw [hZM, hZw]; exact f1, f2⟩
        | _ => simp [DV.isP] at hdp
      · rw [hZM]
        refine h'.mold.2 b hb (fun j e => ?_) o
        simp only at e
        split at e
        · injection e with e; exact hne e.symm
        · cases e
      · have hbl := h'.below
        refine ⟨hbl.os, hbl.tape, hbl.output, hbl.size, fun b hb hx => hbl.block b hb fun j e => ?_⟩
        simp only at e
        split at e
        · exact hx 0 (by simpa using e)
        · cases e
    have hwp := vc_ok ht hrel hv
    rw [hXw] at hwp
    refine wp_mono hwp fun e a w' hq => ?_
    cases e with
    | normal => exact fin a w' hq
    | ret => exact fin a w' hq
    | exit j => obtain ⟨_, _, _, _, h⟩ := hq; exact h.elim
    | _ => exact hq.elim
end Go.Proofs.YtkjghcbnmipgfaaGreatDoor.Vc
namespace Go.Proofs.YtkjghcbnmipgfaaGreatDoor.Vc
open Go.RowKit
variable {P : Program}
def bO : Operand → O → Bool
  | .tmp n, .t m => n == m
  | .const (.int k n), .c (.p (.int k' n')) => decide (k = k') && n == n'
  | .const (.bool b), .c (.p (.bool b')) => b == b'
  | .const (.string s), .c (.p (.str s')) => decide (s.data.toList = s'.data.toList)
  | .const (.slice none 0 0), .c (.ow _ true []) => true
  | .func f, .c (.p (.fn f' [])) => f == f'
  | .const .nilIface, .c (.p (.atom .nilIface)) => true
  | _, .c .top => true
  | _, _ => false
theorem ba_ext {s t : ByteArray} (h : s.data.toList = t.data.toList) : s = t := by
  obtain ⟨⟨a⟩⟩ := s
  obtain ⟨⟨b⟩⟩ := t
  simp at h; subst h; rfl
theorem bO_ok {x : Operand} {o : O} (h : bO x o = true) : OT x o := by
  unfold bO at h
  split at h
  · simp at h; subst h; exact .tmp _
  · simp at h; obtain ⟨rfl, rfl⟩ := h; exact .int _ _
  · simp at h; subst h; exact .bool _
  · simp only [decide_eq_true_eq] at h; rw [ba_ext h]; exact .str _
  · exact .nil _
  · simp at h; subst h; exact .func _
  · exact .atom _ rfl
  · exact .any _
  · cases h
def bOs : List Operand → List O → Bool
  | [], [] => true
  | x :: xs, o :: os => bO x o && bOs xs os
  | _, _ => false
theorem bOs_ok : ∀ {xs : List Operand} {os : List O}, bOs xs os = true → os.length = xs.length ∧ ∀ (k : Nat) x oo, xs[k]? = some x → os[k]? = some oo → OT x oo
  | [], [], _ => ⟨rfl, fun k x oo h => by simp at h⟩
  | x :: xs, o :: os, h => by
    simp only [bOs, Bool.and_eq_true] at h
    obtain ⟨e1, e2⟩ := bOs_ok h.2
    refine ⟨by simp [e1], fun k y oo hy ho => ?_⟩
    cases k with
    | zero => simp at hy ho; subst hy; subst ho; exact bO_ok h.1
    | succ k => exact e2 k y oo (by simpa using hy) (by simpa using ho)
  | [], _ :: _, h => by simp [bOs] at h
  | _ :: _, [], h => by simp [bOs] at h
def isAD : TypeDesc → Bool
  | .struct _ | .array _ _ => true
  | _ => false
def bTy (P : Program) (t : TypeId) (n : Nat) (isA : Bool) : Bool :=
  match P.info? t, P.underlying t with
  | some i, some d => i.size == n && isAD d == isA
  | _, _ => false
theorem bTy_ok {t : TypeId} {n : Nat} {isA : Bool} (h : bTy P t n isA = true) : TyIs P t n isA := by
  unfold bTy at h
  split at h
  · rename_i i d hi hd
    simp at h
    exact ⟨⟨i, hi, h.1⟩, ⟨d, hd, h.2⟩⟩
  · cases h
def bZ : DV → Value → Bool
  | .p (.int k n), .int k' n' => decide (k = k') && n == n'
  | .p (.bool b), .bool b' => b == b'
  | .p (.str s), .string s' => decide (s.data.toList = s'.data.toList)
  | .ow _ true [], .slice none 0 0 => true
  | .top, v => v.oneCell'
  | _, _ => false
theorem bZ_ok {d : DV} {v : Value} (h : bZ d v = true) : ZR d v := by
  unfold bZ at h
  split at h
  · simp at h; obtain ⟨rfl, rfl⟩ := h; exact .int _ _
  · simp at h; subst h; exact .bool _
  · simp only [decide_eq_true_eq] at h; rw [ba_ext h]; exact .str _
  · exact .nil _
  · exact .top _ h
  · cases h
def bZs : List DV → List Value → Bool
  | [], [] => true
  | d :: ds, v :: vs => bZ d v && bZs ds vs
  | _, _ => false
theorem bZs_ok' : ∀ {ds : List DV} {vs : List Value}, bZs ds vs = true → vs.length = ds.length ∧ ∀ (i : Nat) d v, ds[i]? = some d → vs[i]? = some v → ZR d v
  | [], [], _ => ⟨rfl, fun i d v h => by simp at h⟩
  | d :: ds, v :: vs, h => by
    simp only [bZs, Bool.and_eq_true] at h
    obtain ⟨e1, e2⟩ := bZs_ok' h.2
    refine ⟨by simp [e1], fun i y u hy ho => ?_⟩
    cases i with
    | zero => simp at hy ho; subst hy; subst ho; exact bZ_ok h.1
    | succ i => exact e2 i y u (by simpa using hy) (by simpa using ho)
  | [], _ :: _, h => by simp [bZs] at h
  | _ :: _, [], h => by simp [bZs] at h
theorem bZs_ok {ds : List DV} {vs : Array Value} (h : bZs ds vs.toList = true) : ZRs ds vs :=
  ⟨by have := (bZs_ok' h).1; simpa using this, fun i d v hd hv => (bZs_ok' h).2 i d v hd (by simpa using hv)⟩
def bZP : PV → Value → Bool
  | .int k n, .int k' n' => decide (k = k') && n == n'
  | .bool b, .bool b' => b == b'
  | .str s, .string s' => decide (s.data.toList = s'.data.toList)
  | .sl _ true [], .slice none 0 0 => true
  | _, _ => false
theorem bZP_ok {d : PV} {v : Value} (h : bZP d v = true) : ZP d v := by
  unfold bZP at h
  split at h
  · simp at h; obtain ⟨rfl, rfl⟩ := h; exact .int _ _
  · simp at h; subst h; exact .bool _
  · simp only [decide_eq_true_eq] at h; rw [ba_ext h]; exact .str _
  · exact .nil _
  · cases h
def bZPs : List PV → List Value → Bool
  | [], [] => true
  | d :: ds, v :: vs => bZP d v && bZPs ds vs
  | _, _ => false
theorem bZPs_ok : ∀ {ds : List PV} {vs : List Value}, bZPs ds vs = true → vs.length = ds.length ∧ ∀ (i : Nat) d v, ds[i]? = some d → vs[i]? = some v → ZP d v
  | [], [], _ => ⟨rfl, fun i d v h => by simp at h⟩
  | d :: ds, v :: vs, h => by
    simp only [bZPs, Bool.and_eq_true] at h
    obtain ⟨e1, e2⟩ := bZPs_ok h.2
    refine ⟨by simp [e1], fun i y u hy ho => ?_⟩
    cases i with
    | zero => simp at hy ho; subst hy; subst ho; exact bZP_ok h.1
    | succ i => exact e2 i y u (by simpa using hy) (by simpa using ho)
  | [], _ :: _, h => by simp [bZPs] at h
  | _ :: _, [], h => by simp [bZPs] at h
def bFlds (P : Program) : List Field → Nat → Bool
  | [], _ => true
  | f :: fs, j => f.name != "_" && (decide (f.offset = j) && ((match P.underlying f.type with | some (.int _) => true | _ => false) && (bTy P f.type 1 false && bFlds P fs (j + 1))))
theorem bFlds_ok {fs : List Field} : ∀ {j : Nat}, bFlds P fs j = true → ∀ (i : Nat) f, fs[i]? = some f → f.name ≠ "_" ∧ f.offset = j + i ∧ (∃ k, P.underlying f.type = some (.int k)) ∧ TyIs P f.type 1 false := by
  induction fs with
  | nil => intro j _ i f hf; simp at hf
  | cons g fs ih =>
    intro j h i f hf
    simp only [bFlds, Bool.and_eq_true, decide_eq_true_eq, bne_iff_ne] at h
    obtain ⟨h1, h2, h3, h4, h5⟩ := h
    cases i with
    | zero =>
      cases hf
      refine ⟨h1, h2, ?_, bTy_ok h4⟩
      split at h3
      · exact ⟨_, ‹_›⟩
      · cases h3
    | succ i =>
      have := ih h5 i f hf
      rw [Nat.add_assoc, Nat.add_comm 1 i] at this
      exact this
theorem fieldsOf_eq {t : TypeId} {fs : Array Field} (h : P.underlying t = some (.struct fs)) : P.fieldsOf t = fs := by simp [Program.fieldsOf, h]
def bOffs (places : List (Nat × Nat)) (n : Nat) : List (Nat × Operand) → List (Nat × Nat) → Bool
  | [], [] => true
  | p :: ps, o :: os => decide (places[p.1]? = some o) && decide (o.1 + o.2 ≤ n) && bOffs places n ps os
  | _, _ => false
theorem bOffs_ok {places : List (Nat × Nat)} {n : Nat} : ∀ {ps : List (Nat × Operand)} {os : List (Nat × Nat)}, bOffs places n ps os = true → ps.length = os.length ∧
    ∀ (k : Nat) (p : Nat × Operand) (o : Nat × Nat), ps[k]? = some p → os[k]? = some o → places[p.1]? = some o ∧ o.1 + o.2 ≤ n
  | [], [], _ => ⟨rfl, fun i d v h => by simp at h⟩
  | d :: ds, v :: vs, h => by
    simp only [bOffs, Bool.and_eq_true, decide_eq_true_eq] at h
    obtain ⟨e1, e2⟩ := bOffs_ok h.2
    refine ⟨by simp [e1], fun i y u hy ho => ?_⟩
    cases i with
    | zero => simp at hy ho; subst hy; subst ho; exact h.1
    | succ i => exact e2 i y u (by simpa using hy) (by simpa using ho)
  | [], _ :: _, h => by simp [bOffs] at h
  | _ :: _, [], h => by simp [bOffs] at h
def bSeq : Nat → List (Nat × Operand) → Bool
  | _, [] => true
  | k, p :: ps => p.1 == k && bSeq (k + 1) ps
theorem bSeq_ok : ∀ {k : Nat} {ps : List (Nat × Operand)}, bSeq k ps = true → ps = ((ps.map (·.2)).zipIdx k).map fun x => (x.2, x.1)
  | _, [], _ => rfl
  | k, p :: ps, h => by
    simp only [bSeq, Bool.and_eq_true, beq_iff_eq] at h
    obtain ⟨rfl, h2⟩ := h
    have := bSeq_ok h2
    simp only [List.map_cons, List.zipIdx_cons, ← this]
def chk (P : Program) (o : Oper) : Kd → List O → Bool
  | .mov _, [ox] => match o.op with
    | .move x => bO x ox
    | .assign x => bO x ox
    | _ => false
  | .pick, [oc, ox, oy] => match o.op with
    | .pick c x y => bO c oc && (bO x ox && bO y oy)
    | _ => false
  | .box _ size, [ox] => match o.op with
    | .box _ x => decide (size ≠ 0) && bO x ox
    | _ => false
  | .alloc _ size zero, [] => match o.op with
    | .alloc t => match P.info? t with
      | some i => match i.zero with
        | some z => decide (size ≠ 0) && bZs zero z.cells.toList
        | none => false
      | none => false
    | _ => false
  | .build zero offs, os => match o.op with
    | .build t parts => match P.underlying t with
      | some (.struct fields) => match P.info? t with
        | some it => match it.zero with
          | some z => match fields.toList.mapM (fun f => (P.info? f.type).map fun i => (f.offset, i.size)) with
            | some places => bZPs zero z.cells.toList && (bOffs places zero.length parts.toList offs && bOs (parts.toList.map (·.2)) os)
            | none => false
          | none => false
        | none => false
      | _ => false
    | _ => false
  | .bsl size n, os => match o.op with
    | .buildSlice t m parts => match P.underlying t with
      | some (.slice e) => match P.info? e with
        | some i => i.zero.isSome && (o.dst.isSome && (decide (m = n ∧ i.size = size ∧ 0 < size ∧ n * size ≤ 16777216) && (decide (n ≤ maxLen) && (bSeq 0 parts.toList && bOs (parts.toList.map (·.2)) os))))
        | none => false
      | _ => false
    | _ => false
  | .load n isA _, [ox] => match o.op with
    | .load t x => bTy P t n isA && bO x ox
    | _ => false
  | .loadp n isA, [ox] => match o.op with
    | .load t x => bTy P t n isA && bO x ox
    | _ => false
  | .store n, [ox, oy] => match o.op with
    | .store t x y => (bTy P t n true || bTy P t n false) && (bO x ox && (bO y oy && (o.dst.isNone && (match oy, ox with | .t m, .t m' => m != m' | _, _ => true))))
    | _ => false
  | .bin op, [ox, oy] => match o.op with
    | .binOp op' _ x y _ => decide (op' = op) && (bO x ox && bO y oy)
    | _ => false
  | .eqnil neq, [ox, oy] => match o.op with
    | .binOp op t x y _ => match P.underlying t with
      | some (.slice _) => decide (op = if neq then .neq else .eql) && (bO x ox && (bO y oy && (match oy with | .t _ => false | _ => true)))
      | _ => false
    | _ => false
  | .un op, [ox] => match o.op with
    | .unOp op' _ x => decide (op' = op) && bO x ox
    | _ => false
  | .conv k, [ox] => match o.op with
    | .convert src dst x => match P.underlying dst with
      | some (.int k') => decide (k' = k) && ((P.underlying src).isSome && bO x ox)
      | _ => false
    | _ => false
  | .fad off, [ox] => match o.op with
    | .fieldAddr t x f => match P.underlying t with
      | some (.struct fs) => match fs[f]? with
        | some fd => match P.info? fd.type with
          | some i => decide (i.size ≠ 0 ∧ fd.offset = off) && bO x ox
          | none => false
        | none => false
      | _ => false
    | _ => false
  | .fld off n isA, [ox] => match o.op with
    | .field t x f => match P.underlying t with
      | some (.struct fs) => match fs[f]? with
        | some fd => bTy P fd.type n isA && (decide (fd.offset = off) && bO x ox)
        | none => false
      | _ => false
    | _ => false
  | .iad size, [ox, oi] => match o.op with
    | .indexAddr t x ix => match P.underlying t with
      | some (.slice e) => (bTy P e size true || bTy P e size false) && (bO x ox && bO ix oi)
      | _ => false
    | _ => false
  | .sidx, [ox, oi] => match o.op with
    | .index t x ix => match P.underlying t with
      | some .string => bO x ox && bO ix oi
      | _ => false
    | _ => false
  | .len, [ox] => match o.op with
    | .call { callee := .builtin .len, args := ⟨[x]⟩, argTypes := ⟨[t]⟩ } => match P.underlying t with
      | some (.slice _) => bO x ox
      | _ => false
    | _ => false
  | .lenD, [ox] => match o.op with
    | .call { callee := .builtin .len, args := ⟨[x]⟩, argTypes := ⟨[t]⟩ } => match P.underlying t with
      | some (.slice _) => bO x ox
      | _ => false
    | _ => false
  | .slen, [ox] => match o.op with
    | .call { callee := .builtin .len, args := ⟨[x]⟩, argTypes := ⟨[t]⟩ } => match P.underlying t with
      | some .string => bO x ox
      | _ => false
    | _ => false
  | .mn, [ox, oy] => match o.op with
    | .call { callee := .builtin .min, args := ⟨[x, y]⟩, argTypes := ⟨[t, t']⟩ } => decide (t = t') && (bO x ox && bO y oy)
    | _ => false
  | .mx, [ox, oy] => match o.op with
    | .call { callee := .builtin .max, args := ⟨[x, y]⟩, argTypes := ⟨[t, t']⟩ } => decide (t = t') && (bO x ox && bO y oy)
    | _ => false
  | .app size bytes, [ox, oy] => match o.op with
    | .call { callee := .builtin .append, args := ⟨[x, y]⟩, argTypes := ⟨[t, t']⟩ } => match P.underlying t with
      | some (.slice e) => match P.info? e with
        | some i => match i.zero with
          | some z => decide (t = t') && (o.dst.isSome && (decide (i.size = size ∧ i.bytes = bytes ∧ z.cells.size = size) && (bO x ox && bO y oy)))
          | none => false
        | none => false
      | _ => false
    | _ => false
  | .ext j, [ox] => match o.op with
    | .extract x j' => j' == j && bO x ox
    | _ => false
  | .extp j, [ox] => match o.op with
    | .extract x j' => j' == j && bO x ox
    | _ => false
  | .call f, os => match o.op with
    | .call { callee := .value (.func f'), args := xs, .. } => f' == f && bOs xs.toList os
    | _ => false
  | .callv, ox :: os => match o.op with
    | .call { callee := .value x, args := xs, .. } => bO x ox && bOs xs.toList os
    | _ => false
  | .mkfn f, os => match o.op with
    | .makeFunc (.func f') ⟨[]⟩ caps => f' == f && bOs caps.toList os
    | _ => false
  | .mksl _ size bytes _ zero, [ox, oy] => match o.op with
    | .makeSlice t x y => match P.underlying t with
      | some (.slice e) => match P.info? e with
        | some i => match i.zero with
          | some z => decide ((i.size = size ∧ i.bytes = bytes) ∧ size ≠ 0) && (bZs zero z.cells.toList && (bO x ox && bO y oy))
          | none => false
        | none => false
      | _ => false
    | _ => false
  | .slc size lo hi, ox :: ys => match o.op with
    | .slice t x l h none => match P.underlying t with
      | some (.slice e) => (bTy P e size true || bTy P e size false) && (bO x ox && (decide (lo = l.isSome) && (decide (hi = h.isSome) && (match l, h, ys with
        | some l, some m, [ol, om] => bO l ol && bO m om
        | some l, none, [ol] => bO l ol
        | none, some m, [om] => bO m om
        | _, _, _ => false))))
      | _ => false
    | _ => false
  | .nilchk, [ox] => match o.op with
    | .nilCheck x => bO x ox
    | _ => false
  | .ssl lo hi, ox :: ys => match o.op with
    | .slice t x l h none => match P.underlying t with
      | some .string => bO x ox && (decide (lo = l.isSome) && (decide (hi = h.isSome) && (match l, h, ys with
        | some l, some m, [ol, om] => bO l ol && bO m om
        | some l, none, [ol] => bO l ol
        | none, some m, [om] => bO m om
        | _, _, _ => false)))
      | _ => false
    | _ => false
  | .slb _ size, [ox, om] => match o.op with
    | .slice t x none (some m) none => match P.underlying t with
      | some (.slice e) => (bTy P e size true || bTy P e size false) && (bO x ox && bO m om)
      | _ => false
    | _ => false
  | .stk, _ => true
  | .mkmap _, [] => match o.op with
    | .makeMap _ none => true
    | _ => false
  | .look q zero, [ox, oy] => match o.op with
    | .lookup t x y false => match P.underlying t with
      | some (.map kt et) => match P.underlying kt, P.info? et with
        | some (.int q'), some i => match i.zero with
          | some zv => decide (q' = q) && (bZP zero zv && (bO x ox && bO y oy))
          | none => false
        | _, _ => false
      | _ => false
    | _ => false
  | .mupd q, [ox, oy, oz] => match o.op with
    | .mapUpdate t x y z => match P.underlying t with
      | some (.map kt _) => match P.underlying kt with
        | some (.int q') => decide (q' = q) && (o.dst.isNone && (bO x ox && (bO y oy && bO z oz)))
        | _ => false
      | _ => false
    | _ => false
  | .eqat true, [ox, _] => match o.op with
    | .binOp .neq t x (.const .nilIface) _ => match P.underlying t with
      | some (.interface _) => bO x ox
      | _ => false
    | _ => false
  | .eqs n neq, [ox, oy] => match o.op with
    | .binOp op t x y _ => match P.underlying t with
      | some (.struct fs) => decide (op = if neq then .neq else .eql) && (decide (fs.toList.length = n) && (bFlds P fs.toList 0 && (!P.stoodInHeld t && (!P.eqGuardType P.depth t && (bO x ox && bO y oy)))))
      | _ => false
    | _ => false
  | .eqb neq, [ox, oy] => match o.op with
    | .binOp op t x y _ => match P.underlying t with
      | some .bool => decide (op = if neq then .neq else .eql) && (bO x ox && bO y oy)
      | _ => false
    | _ => false
  | .mkz size bytes row, [ox, oy] => match o.op, o.dst with
    | .makeSlice t x y, some _ => match P.underlying t with
      | some (.slice e) => match P.info? e with
        | some i => match i.zero with
          | some z => decide ((i.size = size ∧ i.bytes = bytes) ∧ 0 < size) && (bZPs (rowCells row) z.cells.toList && (bO x ox && bO y oy))
          | none => false
        | none => false
      | _ => false
    | _, _ => false
  | .s2b, [ox] => match o.op with
    | .convert src dst x => match P.underlying src, P.underlying dst with
      | some .string, some (.slice e) => match P.underlying e with
        | some (.int .u8) => bO x ox
        | _ => false
      | _, _ => false
    | _ => false
  | .callm f _, os => match o.op with
    | .call { callee := .value (.func f'), args := xs, .. } => f' == f && bOs xs.toList os
    | _ => false
  | _, _ => false
theorem bTy2_ok {t : TypeId} {n : Nat} (h : (bTy P t n true || bTy P t n false) = true) : ∃ isA, TyIs P t n isA := by
  simp only [Bool.or_eq_true] at h
  rcases h with h | h
  · exact ⟨_, bTy_ok h⟩
  · exact ⟨_, bTy_ok h⟩
theorem isSomeE {α : Type} {x : Option α} (h : x.isSome = true) : ∃ y, x = some y := Option.isSome_iff_exists.1 h
theorem chk_ok {o : Oper} {κ : Kd} {xs : List O} (h : chk P o κ xs = true) : Tr P o κ xs := by
  unfold chk at h
  split at h
  · split at h
    · exact .mov _ _ _ (bO_ok h) (.inl ‹_›)
    · exact .mov _ _ _ (bO_ok h) (.inr ‹_›)
    · cases h
  · split at h
    · simp only [Bool.and_eq_true] at h
      exact .pick _ _ _ _ _ _ (bO_ok h.1) (bO_ok h.2.1) (bO_ok h.2.2) ‹_›
    · cases h
  · split at h
    · simp only [Bool.and_eq_true, decide_eq_true_eq] at h
      exact .box _ _ _ _ _ (bO_ok h.2) ‹_› h.1
    · cases h
  · (repeat' split at h) <;> try cases h
    simp only [Bool.and_eq_true, decide_eq_true_eq] at h
    exact .alloc _ _ _ _ _ _ ‹_› ‹_› ‹_› (bZs_ok h.2) h.1
  · (repeat' split at h) <;> try cases h
    simp only [Bool.and_eq_true] at h
    obtain ⟨h1, h2, h3⟩ := h
    obtain ⟨z1, z2⟩ := bZPs_ok h1
    obtain ⟨o1, o2⟩ := bOffs_ok h2
    obtain ⟨p1, p2⟩ := bOs_ok h3
    refine .build _ _ _ _ _ ‹_› _ ‹_› _ _ ‹_› ‹_› _ ‹_› (by simpa using z1) (fun i c v hc hv => z2 i c v hc (by simpa using hv)) (by simpa using o1) (by simpa using p1) (fun k p o hp ho => o2 k p o (by simpa using hp) ho) fun k p oo hp ho => p2 k p.2 oo (by rw [List.getElem?_map]; simp [hp]) ho
  · (repeat' split at h) <;> try cases h
    simp only [Bool.and_eq_true, decide_eq_true_eq] at h
    obtain ⟨h1, h2, ⟨rfl, h3, h4, h5⟩, h6, h7, h8⟩ := h
    obtain ⟨z, hz⟩ := isSomeE h1
    obtain ⟨d, hd⟩ := isSomeE h2
    obtain ⟨p1, p2⟩ := bOs_ok h8
    exact .bsl _ _ _ _ _ _ _ ‹_› d hd ‹_› _ z ‹_› hz h3 h4 h5 h6 (bSeq_ok h7) p1 p2
  · split at h
    · simp only [Bool.and_eq_true] at h
      exact .load _ _ _ _ (bTy_ok h.1) _ _ (bO_ok h.2) ‹_›
    · cases h
  · split at h
    · simp only [Bool.and_eq_true] at h
      exact .loadp _ _ _ (bTy_ok h.1) _ _ (bO_ok h.2) ‹_›
    · cases h
  · split at h
    · simp only [Bool.and_eq_true] at h
      obtain ⟨h1, h2, h3, h4, h5⟩ := h
      obtain ⟨isA, hty⟩ := bTy2_ok h1
      refine .store _ isA _ hty _ _ _ _ (bO_ok h2) (bO_ok h3) ‹_› (by simpa using h4) fun m e1 e2 => ?_
      subst e1
      subst e2
      simp at h5
    · cases h
  · split at h
    · simp only [Bool.and_eq_true, decide_eq_true_eq] at h
      obtain ⟨rfl, h2, h3⟩ := h
      exact .bin _ _ _ _ _ _ _ (bO_ok h2) (bO_ok h3) ‹_›
    · cases h
  · split at h
    · split at h
      · simp only [Bool.and_eq_true, decide_eq_true_eq] at h
        obtain ⟨rfl, h2, h3, h4⟩ := h
        refine .eqnil _ _ _ _ _ _ _ _ (bO_ok h2) (bO_ok h3) ‹_› ‹_› fun n e => ?_
        subst e
        simp at h4
      · cases h
    · cases h
  · split at h
    · simp only [Bool.and_eq_true, decide_eq_true_eq] at h
      obtain ⟨rfl, h2⟩ := h
      exact .un _ _ _ _ (bO_ok h2) ‹_›
    · cases h
  · (repeat' split at h) <;> try cases h
    simp only [Bool.and_eq_true, decide_eq_true_eq] at h
    obtain ⟨rfl, h2, h3⟩ := h
    exact .conv _ _ _ _ _ (bO_ok h3) ‹_› (isSomeE h2) ‹_›
  · (repeat' split at h) <;> try cases h
    simp only [Bool.and_eq_true, decide_eq_true_eq] at h
    obtain ⟨⟨h1, h2⟩, h3⟩ := h
    exact .fad _ _ _ _ _ (bO_ok h3) ‹_› _ _ _ ‹_› ‹_› ‹_› h1 h2
  · (repeat' split at h) <;> try cases h
    simp only [Bool.and_eq_true, decide_eq_true_eq] at h
    obtain ⟨h1, h2, h3⟩ := h
    exact .fld _ _ _ _ _ _ _ (bO_ok h3) ‹_› _ _ ‹_› ‹_› (bTy_ok h1) h2
  · (repeat' split at h) <;> try cases h
    simp only [Bool.and_eq_true] at h
    obtain ⟨h1, h2, h3⟩ := h
    obtain ⟨isA, hty⟩ := bTy2_ok h1
    exact .iad _ isA _ _ _ _ _ _ (bO_ok h2) (bO_ok h3) ‹_› ‹_› hty
  · (repeat' split at h) <;> try cases h
    simp only [Bool.and_eq_true] at h
    exact .sidx _ _ _ _ _ (bO_ok h.1) (bO_ok h.2) ‹_› ‹_›
  · (repeat' split at h) <;> try cases h
    exact .len _ _ _ _ (bO_ok h) ‹_› ‹_›
  · (repeat' split at h) <;> try cases h
    exact .lenD _ _ _ _ (bO_ok h) ‹_› ‹_›
  · (repeat' split at h) <;> try cases h
    exact .slen _ _ _ (bO_ok h) ‹_› ‹_›
  · (repeat' split at h) <;> try cases h
    simp only [Bool.and_eq_true, decide_eq_true_eq] at h
    obtain ⟨rfl, h2, h3⟩ := h
    exact .minmax false _ _ _ _ _ (bO_ok h2) (bO_ok h3) ‹_›
  · (repeat' split at h) <;> try cases h
    simp only [Bool.and_eq_true, decide_eq_true_eq] at h
    obtain ⟨rfl, h2, h3⟩ := h
    exact .minmax true _ _ _ _ _ (bO_ok h2) (bO_ok h3) ‹_›
  · (repeat' split at h) <;> try cases h
    simp only [Bool.and_eq_true, decide_eq_true_eq] at h
    obtain ⟨rfl, h2, ⟨h3, h4, h5⟩, h6, h7⟩ := h
    obtain ⟨d, hd⟩ := isSomeE h2
    exact .app _ _ _ _ _ _ _ _ (bO_ok h6) (bO_ok h7) ‹_› d hd ‹_› _ _ ‹_› ‹_› h3 h4 h5
  · (repeat' split at h) <;> try cases h
    simp only [Bool.and_eq_true, beq_iff_eq] at h
    obtain ⟨rfl, h2⟩ := h
    exact .ext _ _ _ (bO_ok h2) ‹_›
  · (repeat' split at h) <;> try cases h
    simp only [Bool.and_eq_true, beq_iff_eq] at h
    obtain ⟨rfl, h2⟩ := h
    exact .extp _ _ _ (bO_ok h2) ‹_›
  · (repeat' split at h) <;> try cases h
    simp only [Bool.and_eq_true, beq_iff_eq] at h
    obtain ⟨rfl, h2⟩ := h
    obtain ⟨p1, p2⟩ := bOs_ok h2
    exact .call _ _ _ _ ‹_› (by simpa using p1) p2
  · (repeat' split at h) <;> try cases h
    simp only [Bool.and_eq_true] at h
    obtain ⟨h1, h2⟩ := h
    obtain ⟨p1, p2⟩ := bOs_ok h2
    exact .callv _ _ (bO_ok h1) _ _ _ ‹_› (by simpa using p1) p2
  · (repeat' split at h) <;> try cases h
    simp only [Bool.and_eq_true, beq_iff_eq] at h
    obtain ⟨rfl, h2⟩ := h
    obtain ⟨p1, p2⟩ := bOs_ok h2
    exact .mkfn _ _ _ ‹_› (by simpa using p1) p2
  · (repeat' split at h) <;> try cases h
    simp only [Bool.and_eq_true, decide_eq_true_eq] at h
    obtain ⟨⟨⟨h1, h2⟩, h0⟩, h3, h4, h5⟩ := h
    exact .mksl _ _ _ _ _ _ _ _ _ _ _ (bO_ok h4) (bO_ok h5) ‹_› ‹_› _ _ ‹_› ‹_› h1 h2 (bZs_ok h3) h0
  · split at h
    · split at h
      · simp only [Bool.and_eq_true, decide_eq_true_eq] at h
        obtain ⟨h1, h2, rfl, rfl, h3⟩ := h
        obtain ⟨isA, hty⟩ := bTy2_ok h1
        refine .slc _ isA _ _ _ _ _ _ _ (bO_ok h2) ‹_› ‹_› hty ?_
        split at h3
        · simp only [Bool.and_eq_true] at h3; exact ⟨bO_ok h3.1, bO_ok h3.2⟩
        · exact bO_ok h3
        · exact bO_ok h3
        · cases h3
      · cases h
    · cases h
  · split at h
    · exact .nilchk _ _ (bO_ok h) ‹_›
    · cases h
  · split at h
    · split at h
      · simp only [Bool.and_eq_true, decide_eq_true_eq] at h
        obtain ⟨h2, rfl, rfl, h3⟩ := h
        refine .ssl _ _ _ _ _ _ (bO_ok h2) ‹_› ‹_› ?_
        split at h3
        · simp only [Bool.and_eq_true] at h3; exact ⟨bO_ok h3.1, bO_ok h3.2⟩
        · exact bO_ok h3
        · exact bO_ok h3
        · cases h3
      · cases h
    · cases h
  · split at h
    · split at h
      · simp only [Bool.and_eq_true] at h
        obtain ⟨h1, h2, h3⟩ := h
        obtain ⟨isA, hty⟩ := bTy2_ok h1
        exact .slb _ _ isA _ _ _ _ _ _ (bO_ok h2) (bO_ok h3) ‹_› ‹_› hty
      · cases h
    · cases h
  · exact .stk _
  · split at h
    · exact .mkmap _ _ ‹_›
    · cases h
  · split at h
    · split at h
      · split at h
        · split at h
          · simp only [Bool.and_eq_true, decide_eq_true_eq] at h
            obtain ⟨rfl, h⟩ := h
            exact .look _ _ _ _ _ _ _ _ _ _ _ (bO_ok h.2.1) (bO_ok h.2.2) ‹_› ‹_› ‹_› ‹_› ‹_› (bZP_ok h.1)
          · cases h
        · cases h
      · cases h
    · cases h
  · split at h
    · split at h
      · split at h
        · simp only [Bool.and_eq_true, Option.isNone_iff_eq_none, decide_eq_true_eq] at h
          obtain ⟨rfl, h⟩ := h
          exact .mupd _ _ _ _ _ _ _ _ _ _ (bO_ok h.2.1) (bO_ok h.2.2.1) (bO_ok h.2.2.2) ‹_› h.1 ‹_› ‹_›
        · cases h
      · cases h
    · cases h
  · split at h
    · split at h
      · exact .eqat _ _ _ _ _ _ (bO_ok h) ‹_› ‹_›
      · cases h
    · cases h
  · split at h
    · split at h
      · rename_i hu
        simp only [Bool.and_eq_true, decide_eq_true_eq, Bool.not_eq_true'] at h
        obtain ⟨rfl, h1, h2, h3, h4, h5, h6⟩ := h
        have hfs := fieldsOf_eq hu
        refine .eqs _ _ _ _ _ _ _ _ (bO_ok h5) (bO_ok h6) ‹_› (by rw [hfs]; exact hu) h3 h4 (by rw [hfs]; exact h1) fun i f hf => ?_
        rw [hfs] at hf
        have := bFlds_ok h2 i f hf
        rw [Nat.zero_add] at this
        exact this
      · cases h
    · cases h
  · split at h
    · split at h
      · simp only [Bool.and_eq_true, decide_eq_true_eq] at h
        obtain ⟨rfl, h5, h6⟩ := h
        exact .eqb _ _ _ _ _ _ _ (bO_ok h5) (bO_ok h6) ‹_› ‹_›
      · cases h
    · cases h
  · (repeat' split at h) <;> try cases h
    simp only [Bool.and_eq_true, decide_eq_true_eq] at h
    obtain ⟨⟨⟨h1, h2⟩, h0⟩, h3, h4, h5⟩ := h
    have hz := bZPs_ok h3
    exact .mkz _ _ _ _ _ _ _ _ _ (bO_ok h4) (bO_ok h5) ‹_› _ ‹_› ‹_› _ _ ‹_› ‹_› h1 h2 (by simpa using hz.1) (fun i c v hc hv => hz.2 i c v hc (by simpa using hv)) h0
  · split at h
    · split at h
      · split at h
        · exact .s2b _ _ _ _ _ (bO_ok h) ‹_› ‹_› ‹_› ‹_›
        · cases h
      · cases h
    · cases h
  · (repeat' split at h) <;> try cases h
    simp only [Bool.and_eq_true, beq_iff_eq] at h
    obtain ⟨rfl, h2⟩ := h
    obtain ⟨p1, p2⟩ := bOs_ok h2
    exact .callm _ _ _ _ _ ‹_› (by simpa using p1) p2
  · cases h
def chkJ (P : Program) (o : Oper) (κ : Kd) (xs : List O) : Bool :=
  match κ with
  | .at _ κ' => (newBox κ').isNone && chk P o κ' xs
  | .pl κ' => (newBox κ').isNone && chk P o κ' xs
  | κ' => chk P o κ' xs
theorem chkJ_ok {o : Oper} {κ : Kd} {xs : List O} (h : chkJ P o κ xs = true) : TrJ P o κ xs := by
  unfold chkJ at h
  split at h
  · simp only [Bool.and_eq_true, Option.isNone_iff_eq_none] at h
    exact .at _ _ _ (chk_ok h.2) h.1
  · simp only [Bool.and_eq_true, Option.isNone_iff_eq_none] at h
    exact .pl _ _ (chk_ok h.2) h.1
  · exact .base _ _ (chk_ok h)
def chkI (P : Program) (ops : Array Oper) (o : Oper) (i : Ins) : Bool :=
  decide (i.d = o.dst) && (chkJ P o i.k i.xs && match o.guard, i.g with
    | none, none => true
    | some (j, want), some (t, want') => want == want' && decide ((ops[j]?).bind (·.dst) = some t)
    | _, _ => false)
theorem chkI_ok {ops : Array Oper} {o : Oper} {i : Ins} (h : chkI P ops o i = true) : TrI P ops o i := by
  simp only [chkI, Bool.and_eq_true, decide_eq_true_eq] at h
  refine ⟨h.1, chkJ_ok h.2.1, ?_⟩
  have h3 := h.2.2
  split at h3
  · rename_i e1 e2; rw [e1, e2]; trivial
  · rename_i e1 e2; rw [e1, e2]; simpa using h3
  · cases h3
def chkL (P : Program) (ops : Array Oper) : List Oper → List Ins → Bool
  | [], [] => true
  | o :: os, i :: is => chkI P ops o i && chkL P ops os is
  | _, _ => false
theorem chkL_ok {ops : Array Oper} : ∀ {os : List Oper} {is : List Ins}, chkL P ops os is = true → os.length = is.length ∧ ∀ (k : Nat) i, is[k]? = some i → ∃ o, os[k]? = some o ∧ TrI P ops o i
  | [], [], _ => ⟨rfl, fun k i h => by simp at h⟩
  | o :: os, i :: is, h => by
    simp only [chkL, Bool.and_eq_true] at h
    obtain ⟨e1, e2⟩ := chkL_ok h.2
    refine ⟨by simp [e1], fun k j hj => ?_⟩
    cases k with
    | zero => simp at hj; subst hj; exact ⟨o, rfl, chkI_ok h.1⟩
    | succ k => obtain ⟨o', h1, h2⟩ := e2 k j (by simpa using hj); exact ⟨o', by simpa using h1, h2⟩
  | [], _ :: _, h => by simp [chkL] at h
  | _ :: _, [], h => by simp [chkL] at h
def chkC (P : Program) : C → Code → Bool
  | .stuck, _ => true
  | .skip, .skip => true
  | .reg is, .region _ ops false => chkL P ops ops.toList is
  | .regd is, .region _ ops true => P.follows .mixedOrders && (chkL P ops ops.toList is && pairsB ops is)
  | .rega is, .region _ ops true => P.follows .mixedOrders && (chkL P ops ops.toList is && (stB is && pairsW indepA ops is))
  | .seq a b, .seq x y => chkC P a x && chkC P b y
  | .cond o a b, .cond c x y => bO c o && (chkC P a x && chkC P b y)
  | .block id a, .block id' x => id' == id && chkC P a x
  | .loop _ _ a, .loop x => chkC P a x
  | .exit id, .exit id' => id' == id
  | .ret, .ret => true
  | .pre _ _ _ a, x => chkC P a x
  | .own _ _ _ a, x => chkC P a x
  | _, _ => false
theorem chkC_ok : ∀ {c : C} {x : Code}, chkC P c x = true → TrC P c x := by
  intro c
  induction c with
  | stuck => intro x _; exact .stuck x
  | skip => intro x h; cases x <;> simp [chkC] at h; exact .skip
  | reg is =>
    intro x h
    cases x <;> try (simp [chkC] at h; done)
    rename_i id ops dr
    cases dr with
    | true => simp [chkC] at h
    | false =>
      obtain ⟨e1, e2⟩ := chkL_ok (show chkL P ops ops.toList is = true from h)
      exact .reg id ops is (by simpa using e1) fun k i hi => by obtain ⟨o, h1, h2⟩ := e2 k i hi; exact ⟨o, by simpa using h1, h2⟩
  | regd is =>
    intro x h
    cases x <;> try (simp [chkC] at h; done)
    rename_i id ops dr
    cases dr with
    | false => simp [chkC] at h
    | true =>
      simp only [chkC, Bool.and_eq_true] at h
      obtain ⟨h0, h1, h2⟩ := h
      obtain ⟨e1, e2⟩ := chkL_ok h1
      exact .regd id ops is h0 (by simpa using e1) (fun k i hi => by obtain ⟨o, h1, h2⟩ := e2 k i hi; exact ⟨o, by simpa using h1, h2⟩) h2
  | rega is =>
    intro x h
    cases x <;> try (simp [chkC] at h; done)
    rename_i id ops dr
    cases dr with
    | false => simp [chkC] at h
    | true =>
      simp only [chkC, Bool.and_eq_true] at h
      obtain ⟨h0, h1, h2, h3⟩ := h
      obtain ⟨e1, e2⟩ := chkL_ok h1
      exact .rega id ops is h0 (by simpa using e1) (fun k i hi => by obtain ⟨o, h1, h2⟩ := e2 k i hi; exact ⟨o, by simpa using h1, h2⟩) h2 h3
  | seq a b iha ihb => intro x h; cases x <;> simp [chkC] at h; exact .seq _ _ _ _ (iha h.1) (ihb h.2)
  | cond o a b iha ihb => intro x h; cases x <;> simp [chkC] at h; exact .cond _ _ _ _ _ _ (bO_ok h.1) (iha h.2.1) (ihb h.2.2)
  | block id a iha => intro x h; cases x <;> simp [chkC] at h; obtain ⟨rfl, h⟩ := h; exact .block _ _ _ (iha h)
  | loop fs ds a iha => intro x h; cases x <;> simp [chkC] at h; exact .loop _ _ _ _ (iha h)
  | exit id => intro x h; cases x <;> simp [chkC] at h; subst h; exact .exit _
  | ret => intro x h; cases x <;> simp [chkC] at h; exact .ret
  | pre fs zs ds a iha => intro x h; exact .pre _ _ _ _ _ (iha h)
  | own i k ag a iha => intro x h; exact .own _ _ _ _ _ (iha h)
def chkRV (P : Program) : List ResultVar → List RV → Bool
  | [], [] => true
  | .tmp t :: rs, .tmp t' :: l => t' == t && chkRV P rs l
  | .cell t ty :: rs, .cell t' n :: l => t' == t && (bTy P ty n true && chkRV P rs l)
  | _, _ => false
theorem chkRV_ok : ∀ {rs : List ResultVar} {l : List RV}, chkRV P rs l = true → RVs P rs l
  | [], [], _ => .nil
  | .tmp t :: rs, .tmp t' :: l, h => by simp [chkRV] at h; obtain ⟨rfl, h⟩ := h; exact .tmp _ _ _ (chkRV_ok h)
  | .cell t ty :: rs, .cell t' n :: l, h => by simp [chkRV] at h; obtain ⟨rfl, h1, h2⟩ := h; exact .cell _ _ _ _ _ (bTy_ok h1) (chkRV_ok h2)
  | [], _ :: _, h => by simp [chkRV] at h
  | _ :: _, [], h => by simp [chkRV] at h
  | .tmp _ :: _, .cell _ _ :: _, h => by simp [chkRV] at h
  | .cell _ _ :: _, .tmp _ :: _, h => by simp [chkRV] at h
/-- A function's short form: its slots, its own variables, its results, its body. -/
structure Fn where
  n : Nat
  nb : Nat
  rv : List RV
  c : C
def chkF (P : Program) (f : FuncId) (F : Fn) : Bool :=
  match P.funcs[f]? with
  | some fn => match fn.body with
    | some code => fn.ntmps == F.n && (chkRV P fn.results.toList F.rv && (decide (F.rv.map locOf).Nodup && (chkC P F.c code && fn.name != "runtime.NumGoroutine")))
    | none => false
  | none => false
def Fn.post (F : Fn) (r : DV) (s : St) : Prop := rets s F.rv fun xs => resOf xs = r
def Fn.vc (P : Program) (F : Fn) (args : List PV) (r : DV) : Prop :=
  Vc.vc P F.c (St0 F.n F.nb args) (F.post r) (fun _ _ => False) (F.post r)
theorem Fn.pure {f : FuncId} {F : Fn} (h : chkF P f F = true) {args : List PV} {r : DV} (hr : r.plain = true) (hv : F.vc P args r) : PureCall P f args r := by
  unfold chkF at h
  split at h
  · rename_i fn hf
    split at h
    · rename_i code hb
      simp only [Bool.and_eq_true, beq_iff_eq, decide_eq_true_eq, bne_iff_ne] at h
      obtain ⟨h1, h2, h3, h4, h5⟩ := h
      exact pure_of_vc hf hb h5 (chkC_ok h4) (chkRV_ok h2) h3 hr (by rw [h1]; exact hv)
    · cases h
  · cases h
/-- Behind a call that was handed a block. -/
def Fn.postM (F : Fn) (size : Nat) (rows' : List (List DV)) (r : DV) (s : St) : Prop := getB s.b F.nb = some ⟨true, size, rows', true⟩ ∧ rets s F.rv fun xs => resOf xs = r
theorem Fn.mcall {f : FuncId} {F : Fn} (h : chkF P f F = true) {size : Nat} {args : List DV} {rows rows' : List (List DV)} {r : DV} (hr : r.plain = true) (hrows : allPR rows = true) (hrows' : allPR rows' = true) (hargs : args.all DV.arg = true) (hsz0 : size ≠ 0)
    (hv : Vc.vc P F.c (St1 F.n F.nb args size rows) (F.postM size rows' r) (fun _ _ => False) (F.postM size rows' r)) : MCall P f size args rows rows' r := by
  unfold chkF at h
  split at h
  · rename_i fn hf
    split at h
    · rename_i code hb
      simp only [Bool.and_eq_true, beq_iff_eq, decide_eq_true_eq, bne_iff_ne] at h
      obtain ⟨h1, h2, h3, h4, h5⟩ := h
      exact mcall_of_vc hf hb h5 (chkC_ok h4) (chkRV_ok h2) h3 hr hrows hrows' hargs hsz0 (by rw [h1]; exact hv)
    · cases h
  · cases h
end Go.Proofs.YtkjghcbnmipgfaaGreatDoor.Vc
