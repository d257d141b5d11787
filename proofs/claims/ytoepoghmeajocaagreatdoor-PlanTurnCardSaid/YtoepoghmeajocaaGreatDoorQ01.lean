/- Part of a proof over a Go program: VcBase, En, VcState, VcSem, VcPure. No condition. -/
import Derived.WalkKit
import Derived.WalkLawsBesides
import Derived.Below
import Derived.ProofKit
set_option linter.unnecessarySimpa false
set_option linter.unusedSectionVars false
set_option linter.unusedSimpArgs false
set_option linter.unusedVariables false
namespace Go.Proofs.YtoepoghmeajocaaGreatDoor.Vc
open Go.RowKit
inductive PV where
 | int (k : IntKind) (n : Int)
 | bool (b : Bool)
 | str (s : ByteArray)
 | atom (v : Value)
 | agg (cs : List PV)
 | sl (size : Nat) (isNil : Bool) (rows : List PV)
 | fn (f : FuncId) (caps : List PV)
 | ptr (cells : List PV) (off : Nat)
instance : Inhabited PV := ⟨.bool false⟩
inductive Ob where
 | p (x : PV)
 | ptr (cells : List Ob)
 | sl (size : Nat) (isNil : Bool) (rows : List (List Ob))
 | mp (keys : List PV) (vals : List Ob)
 | ch (cap : Nat) (items : List PV)
instance : Inhabited Ob := ⟨.p default⟩
def rowCells : PV → List PV
 | .agg cs => cs
 | x => [x]
def keyV : PV → Value
 | .int q n => .int q n
 | .str s => .string s
 | _ => undef
def PV.one : PV → Bool
 | .agg _ => false
 | _ => true
inductive Flat (M : Nat → Nat → Prop) (w : World) : PV → Value → Prop
 | int (k : IntKind) (n : Int) : Flat M w (.int k n) (.int k n)
 | bool (b : Bool) : Flat M w (.bool b) (.bool b)
 | str (s : ByteArray) : Flat M w (.str s) (.string s)
 | atom (v : Value) (h : v.oneCell' = true) : Flat M w (.atom v) v
 | agg (cs : List PV) (vs : Array Value) (hl : vs.size = cs.length) (h1 : ∀ c, c ∈ cs → c.one = true)
   (h : ∀ (i : Nat) c v, cs[i]? = some c → vs[i]? = some v → Flat M w c v) : Flat M w (.agg cs) (.agg vs)
 | nilsl (size : Nat) : Flat M w (.sl size true []) (.slice none 0 0)
 | sl (size : Nat) (rows : List PV) (b off cap : Nat) (cv : Nat → Value) (hcap : rows.length ≤ cap) (hmax : cap ≤ maxLen)
   (hc : ∀ j, j < rows.length * size → w.cell? ⟨b, off + j, none⟩ = some (cv j) ∧ ¬ M b (off + j))
   (hs : ∀ row, row ∈ rows → (rowCells row).length = size)
   (h1 : ∀ row, row ∈ rows → ∀ c, c ∈ rowCells row → c.one = true)
   (hr : ∀ (i j : Nat) row c, rows[i]? = some row → (rowCells row)[j]? = some c → Flat M w c (cv (i * size + j))) :
   Flat M w (.sl size false rows) (.slice (some ⟨b, off, none⟩) rows.length cap)
 | sl0 (size : Nat) (a : Addr) : Flat M w (.sl size false []) (.slice (some a) 0 0)
 | fn (f : FuncId) (caps : List PV) (vs : Array Value) (hl : vs.size = caps.length)
   (h : ∀ (i : Nat) c v, caps[i]? = some c → vs[i]? = some v → Flat M w c v) : Flat M w (.fn f caps) (.func (.func f) #[] vs)
 | ptr (cells : List PV) (off b o : Nat) (cv : Nat → Value)
   (hc : ∀ j, j < cells.length → w.cell? ⟨b, o + j, none⟩ = some (cv j) ∧ ¬ M b (o + j))
   (h1 : ∀ c, c ∈ cells → c.one = true)
   (hr : ∀ (j : Nat) c, cells[j]? = some c → Flat M w c (cv j)) : Flat M w (.ptr cells off) (.pointer (some ⟨b, o + off, none⟩))
def Keeps (M : Nat → Nat → Prop) (w : World) (M' : Nat → Nat → Prop) (w' : World) : Prop :=
 ∀ b o v, ¬ M b o → w.cell? ⟨b, o, none⟩ = some v → w'.cell? ⟨b, o, none⟩ = some v ∧ ¬ M' b o
theorem Keeps.refl (M : Nat → Nat → Prop) (w : World) : Keeps M w M w := fun _ _ _ h1 h2 => ⟨h2, h1⟩
theorem Keeps.trans {M M' M'' : Nat → Nat → Prop} {w w' w'' : World} (h : Keeps M w M' w') (k : Keeps M' w' M'' w'') : Keeps M w M'' w'' :=
 fun b o v h1 h2 => let ⟨a, c⟩ := h b o v h1 h2; k b o v c a
theorem Flat.mono {M M' : Nat → Nat → Prop} {w w' : World} (hk : Keeps M w M' w') {x : PV} {v : Value} (h : Flat M w x v) : Flat M' w' x v := by
 induction h with
 | int k n => exact .int k n
 | bool b => exact .bool b
 | str s => exact .str s
 | atom v h => exact .atom v h
 | agg cs vs hl h1 _ ih => exact .agg cs vs hl h1 ih
 | nilsl size => exact .nilsl size
 | sl0 size a => exact .sl0 size a
 | sl size rows b off cap cv hcap hmax hc hs h1 _ ih =>
  exact .sl size rows b off cap cv hcap hmax (fun j hj => hk _ _ _ (hc j hj).2 (hc j hj).1) hs h1 ih
 | fn f caps vs hl _ ih => exact .fn f caps vs hl ih
 | ptr cells off b o cv hc h1 _ ih => exact .ptr cells off b o cv (fun j hj => hk _ _ _ (hc j hj).2 (hc j hj).1) h1 ih
theorem Flat.oneCell {M : Nat → Nat → Prop} {w : World} {x : PV} {v : Value} (h : Flat M w x v) (hx : x.one = true) : v.oneCell' = true := by
 cases h <;> first | rfl | assumption | (simp [PV.one] at hx)
theorem cells_of_one {v : Value} (h : v.oneCell' = true) : v.cells = #[v] := by
 cases v <;> first | rfl | (simp [Value.oneCell'] at h)
theorem rowCells_of_one {x : PV} (h : x.one = true) : rowCells x = [x] := by
 cases x <;> first | rfl | (simp [PV.one] at h)
theorem Flat.cells {M : Nat → Nat → Prop} {w : World} {x : PV} {v : Value} (h : Flat M w x v) :
  v.cells.size = (rowCells x).length ∧ (∀ (i : Nat) c u, (rowCells x)[i]? = some c → v.cells[i]? = some u → Flat M w c u ∧ c.one = true) := by
 by_cases hx : x.one = true
 ·rw [cells_of_one (h.oneCell hx), rowCells_of_one hx]
  refine ⟨rfl, fun i c u hc hu => ?_⟩
  cases i with
  | zero => simp at hc hu; subst hc; subst hu; exact ⟨h, hx⟩
  | succ i => simp at hc
 ·cases h with
  | agg cs vs hl h1 h => exact ⟨hl, fun i c u hc hu => ⟨h i c u hc hu, h1 c (List.mem_of_getElem? hc)⟩⟩
  | _ => exact absurd (by first | rfl | assumption) hx
end Go.Proofs.YtoepoghmeajocaaGreatDoor.Vc
namespace Go.Proofs.YtoepoghmeajocaaGreatDoor.Vc
open Go.RowKit
variable {P : Program}
abbrev M0 : Nat → Nat → Prop := fun _ _ => False
def isS (P : Program) (t : TypeId) : Bool := match P.underlying t with
 | some (.struct _) => true
 | _ => false
def mkRow (ag : Bool) (cs : List PV) : PV := if ag then .agg cs else cs.headD (.bool false)
def RdT (P : Program) : Nat → TypeId → List PV → Prop
 | 0, _, _ => False
 | n + 1, t, cs => match P.underlying t with
  | some (.int k) => ∃ m, cs = [.int k m]
  | some .bool => ∃ b, cs = [.bool b]
  | some (.slice e) => ∃ nl rows, cs = [.sl (P.cellsOf e) nl rows] ∧ (nl = true → rows = []) ∧ ∀ row, row ∈ rows → ∃ rcs, RdT P n e rcs ∧ row = mkRow (isS P e) rcs
  | some (.struct fs) => RdF (RdT P n) fs.toList cs
  | _ => False
where
 RdF (r : TypeId → List PV → Prop) : List Field → List PV → Prop
 | [], cs => cs = []
 | f :: fs, cs => ∃ a b, cs = a ++ b ∧ r f.type a ∧ RdF r fs b
def flds (P : Program) (r : TypeId → Bool) : List Field → Nat → Nat → Bool
 | [], off, tot => off == tot
 | f :: fs, off, tot => f.offset == off && (r f.type && flds P r fs (off + P.cellsOf f.type) tot)
def okT (P : Program) : Nat → TypeId → Bool
 | 0, _ => false
 | n + 1, t => match P.underlying t with
  | some (.int _) | some .bool => P.cellsOf t == 1
  | some (.slice e) => P.cellsOf t == 1 && (P.cellsOf e != 0 && okT P n e)
  | some (.struct fs) => flds P (okT P n) fs.toList 0 (P.cellsOf t)
  | _ => false
theorem mapM_get {α β : Type} {f : α → Option β} : ∀ {l : List α} {r : List β}, l.mapM f = some r → r.length = l.length ∧ ∀ (i : Nat) a, l[i]? = some a → ∃ b, f a = some b ∧ r[i]? = some b := by
 intro l
 induction l with
 | nil => intro r h; simp at h; subst h; exact ⟨rfl, fun i a h => by simp at h⟩
 | cons x xs ih =>
  intro r h
  rw [List.mapM_cons] at h
  simp only [bind, Option.bind_eq_some_iff, pure, Option.some.injEq] at h
  obtain ⟨b, h1, bs, h2, rfl⟩ := h
  obtain ⟨h3, h4⟩ := ih h2
  refine ⟨by simp [h3], fun i a ha => ?_⟩
  cases i with
  | zero => cases ha; exact ⟨b, h1, rfl⟩
  | succ i => exact h4 i a ha
theorem pick {α : Type} [Inhabited α] {n : Nat} {p : Nat → α → Prop} (h : ∀ i, i < n → ∃ a, p i a) : ∃ f : Nat → α, ∀ i, i < n → p i (f i) := by
 classical
 refine ⟨fun i => if hi : i < n then Classical.choose (h i hi) else default, fun i hi => ?_⟩
 simp only [hi, dif_pos]
 exact Classical.choose_spec (h i hi)
def Cells (w : World) (pvs : List PV) (cs : List Value) : Prop := pvs.length = cs.length ∧ ∀ (i : Nat) x v, pvs[i]? = some x → cs[i]? = some v → Flat M0 w x v ∧ x.one = true
theorem cells_append {w : World} {a b : List PV} {c d : List Value} (h1 : Cells w a c) (h2 : Cells w b d) : Cells w (a ++ b) (c ++ d) := by
 refine ⟨by simp [h1.1, h2.1], fun i x v hx hv => ?_⟩
 by_cases hi : i < a.length
 ·rw [List.getElem?_append_left hi] at hx
  rw [List.getElem?_append_left (by rw [← h1.1]; exact hi)] at hv
  exact h1.2 i x v hx hv
 ·rw [List.getElem?_append_right (by omega)] at hx
  rw [List.getElem?_append_right (by rw [← h1.1]; omega), ← h1.1] at hv
  exact h2.2 _ x v hx hv
theorem row_cells {n : Nat} {e : TypeId} {rcs : List PV} (h : RdT P n e rcs) (h1 : ∀ x, x ∈ rcs → x.one = true) : rowCells (mkRow (isS P e) rcs) = rcs := by
 cases n with
 | zero => exact h.elim
 | succ n =>
  unfold RdT at h
  unfold isS
  split at h
  ·rename_i hu; obtain ⟨m, rfl⟩ := h; simp [hu, mkRow, rowCells]
  ·rename_i hu; obtain ⟨m, rfl⟩ := h; simp [hu, mkRow, rowCells]
  ·rename_i hu; obtain ⟨nl, rows, rfl, _⟩ := h; simp [hu, mkRow, rowCells]
  ·rename_i hu; simp [hu, mkRow, rowCells]
  ·exact h.elim
section
variable {H : Type} {enc : TypeId × Value → H} {w : World} {sp : Nat → Bool} {hd : Bool}
theorem cellsAt {a : Addr} {n : Nat} {l : List Value} (h : w.cells? 0 a n = some l) : l.length = n ∧ ∀ (i : Nat) v, l[i]? = some v → w.cell? (a.add i) = some v := by
 unfold World.cells? at h
 rw [if_pos (Nat.zero_le _)] at h
 obtain ⟨h1, h2⟩ := mapM_get h
 rw [List.length_range] at h1
 refine ⟨h1, fun i v hv => ?_⟩
 have hi : i < n := by rw [← h1]; exact (List.getElem?_eq_some_iff.1 hv).1
 obtain ⟨b, hb, hbi⟩ := h2 i i (by simp [hi])
 rw [hbi] at hv
 injection hv with hv
 rw [← hv]; exact hb
theorem rd_fields {m : Nat} {r : TypeId → List PV → Prop} {ok : TypeId → Bool} (ih : ∀ t cs x, ok t = true → DataW.trod enc P w 0 sp hd m t cs = some x → cs.length = P.cellsOf t → ∃ pvs, Cells w pvs cs ∧ r t pvs) :
  ∀ (fs : List Field) (off : Nat) (cs : List Value) (tot : Nat) (xs : List (DataW H × List MemPlace)), flds P ok fs off tot = true → cs.length = tot → off ≤ tot →
  (fs.mapM fun f => DataW.trod enc P w 0 sp hd m f.type ((cs.drop f.offset).take (P.cellsOf f.type))) = some xs → ∃ pvs, Cells w pvs (cs.drop off) ∧ RdT.RdF r fs pvs
 | [], off, cs, tot, xs, hf, hl, ho, h => by
  simp only [flds, beq_iff_eq] at hf
  refine ⟨[], ⟨by simp; omega, fun i x v hx => by simp at hx⟩, rfl⟩
 | f :: fs, off, cs, tot, xs, hf, hl, ho, h => by
  simp only [flds, Bool.and_eq_true, beq_iff_eq] at hf
  obtain ⟨e1, e2, e3⟩ := hf
  rw [List.mapM_cons] at h
  simp only [bind, Option.bind_eq_some_iff, pure, Option.some.injEq] at h
  obtain ⟨y, h1, ys, h2, rfl⟩ := h
  have hle : off + P.cellsOf f.type ≤ tot := by
   have : ∀ (fs : List Field) (a b : Nat), flds P ok fs a b = true → a ≤ b := by
    intro fs
    induction fs with
    | nil => intro a b h; simp only [flds, beq_iff_eq] at h; omega
    | cons g gs ihg =>
     intro a b h
     simp only [flds, Bool.and_eq_true, beq_iff_eq] at h
     have := ihg _ _ h.2.2
     omega
   exact this _ _ _ e3
  rw [e1] at h1
  obtain ⟨p1, c1, r1⟩ := ih f.type _ _ e2 h1 (by simp; omega)
  obtain ⟨p2, c2, r2⟩ := rd_fields ih fs _ cs tot ys e3 hl hle h2
  refine ⟨p1 ++ p2, ?_, p1, p2, rfl, r1, r2⟩
  have : cs.drop off = (cs.drop off).take (P.cellsOf f.type) ++ cs.drop (off + P.cellsOf f.type) := by
   rw [← List.drop_drop, List.take_append_drop]
  rw [this]
  exact cells_append c1 c2
theorem rd : ∀ (m n : Nat) (t : TypeId) (cs : List Value) (x : DataW H × List MemPlace), okT P n t = true → DataW.trod enc P w 0 sp hd m t cs = some x → (∀ b, sp b = true) → cs.length = P.cellsOf t →
  ∃ pvs, Cells w pvs cs ∧ RdT P n t pvs := by
 intro m
 induction m with
 | zero => intro n t cs x _ h; simp [DataW.trod] at h
 | succ m ih =>
  intro n t cs x hok h hsp hlen
  cases n with
  | zero => simp [okT] at hok
  | succ n =>
   unfold okT at hok
   unfold RdT
   have one : ∀ {y : PV} {v : Value}, Flat M0 w y v → y.one = true → Cells w [y] [v] := by
    intro y v hf h1
    refine ⟨rfl, fun i a b ha hb => ?_⟩
    cases i with
    | zero => cases ha; cases hb; exact ⟨hf, h1⟩
    | succ i => simp at ha
   split at hok
   ·rename_i k hu
    have hl : cs.length = 1 := by rw [hlen]; simpa using hok
    match cs, hl with
    | [v], _ =>
     simp only [DataW.trod, hu] at h
     cases v <;> try (simp at h; done)
     rename_i k' m'
     simp only at h
     split at h
     ·rename_i hk
      obtain ⟨rfl, _⟩ := hk
      exact ⟨_, one (.int _ _) rfl, _, rfl⟩
     ·cases h
   ·rename_i hu
    have hl : cs.length = 1 := by rw [hlen]; simpa using hok
    match cs, hl with
    | [v], _ =>
     simp only [DataW.trod, hu] at h
     cases v <;> try (simp at h; done)
     exact ⟨_, one (.bool _) rfl, _, rfl⟩
   ·rename_i e hu
    simp only [Bool.and_eq_true, beq_iff_eq, bne_iff_ne] at hok
    obtain ⟨o1, o2, o3⟩ := hok
    have hl : cs.length = 1 := by rw [hlen]; exact o1
    match cs, hl with
    | [v], _ =>
     simp only [DataW.trod, hu] at h
     obtain ⟨a, len, cap, rfl⟩ : ∃ a len cap, v = .slice a len cap := by
      cases v with
      | slice a len cap => exact ⟨a, len, cap, rfl⟩
      | _ => simp at h
     cases a with
     | none =>
      match len, cap, h with
      | 0, 0, _ => exact ⟨[.sl (P.cellsOf e) true []], one (.nilsl _) rfl, true, [], rfl, fun _ => rfl, fun row hr => by simp at hr⟩
     | some a =>
      simp only at h
      split at h
      ·rename_i hc
       obtain ⟨_, hlc, hcm⟩ := hc
       simp only [Option.bind_eq_some_iff] at h
       obtain ⟨elems, he, h⟩ := h
       rw [if_pos (hsp _), Option.map_eq_some_iff] at h
       obtain ⟨rest, hr, _⟩ := h
       obtain ⟨_, he⟩ := mapM_get he
       obtain ⟨_, hr⟩ := mapM_get hr
       have hel : ∀ i, i < cap → ∃ (l : List Value) (y : DataW H × List MemPlace), w.cells? 0 (a.add (i * P.cellsOf e)) (P.cellsOf e) = some l ∧ DataW.trod enc P w 0 sp hd m e l = some y := by
        intro i hi
        by_cases hil : i < len
        ·obtain ⟨b, hb, _⟩ := he i i (by simp [hil])
         rw [Option.bind_eq_some_iff] at hb
         obtain ⟨l, h1, h2⟩ := hb
         exact ⟨l, b, h1, h2⟩
        ·obtain ⟨b, hb, _⟩ := hr (i - len) (i - len) (by rw [List.getElem?_range (by omega)])
         rw [show len + (i - len) = i by omega, Option.bind_eq_some_iff] at hb
         obtain ⟨l, h1, h2⟩ := hb
         exact ⟨l, b, h1, h2⟩
       by_cases hc0 : cap = 0
       ·subst hc0
        have : len = 0 := by omega
        subst this
        exact ⟨[.sl (P.cellsOf e) false []], one (.sl0 _ _) rfl, false, [], rfl, fun _ => rfl, fun row hr => by simp at hr⟩
       ·have hspot : a.spot = none := by
         obtain ⟨l, y, h1, _⟩ := hel 0 (by omega)
         obtain ⟨c1, c2⟩ := cellsAt h1
         have hl0' : 0 < l.length := by omega
         have hl0 : l[0]? = some l[0] := by simp [hl0']
         have := c2 0 _ hl0
         rw [Nat.zero_mul] at this
         have ha0 : (a.add 0).add 0 = a := by simp [Addr.add]
         rw [ha0] at this
         unfold World.cell? at this
         cases hsp2 : a.spot with
         | none => rfl
         | some q =>
          exfalso
          rw [hsp2] at this
          split at this <;> simp at this
        obtain ⟨ab, ao, asp⟩ := a
        simp only at hspot
        subst hspot
        have hrow : ∀ i, i < len → ∃ pvs : List PV, RdT P n e pvs ∧ pvs.length = P.cellsOf e ∧ ∀ (j : Nat) y, pvs[j]? = some y → ∃ u, w.cell? ⟨ab, ao + (i * P.cellsOf e + j), none⟩ = some u ∧ Flat M0 w y u ∧ y.one = true := by
         intro i hi
         obtain ⟨l, y, h1, h2⟩ := hel i (by omega)
         obtain ⟨c1, c2⟩ := cellsAt h1
         obtain ⟨pvs, hcs, hrd⟩ := ih n e l y o3 h2 hsp c1
         refine ⟨pvs, hrd, by rw [hcs.1, c1], fun j y hj => ?_⟩
         have hjl := (List.getElem?_eq_some_iff.1 hj).1
         have hjl' : j < l.length := by rw [← hcs.1]; exact hjl
         have hlj : l[j]? = some l[j] := by simp [hjl']
         have hcell := c2 j _ hlj
         rw [Addr.add_lit, Addr.add_lit, Nat.add_assoc] at hcell
         exact ⟨_, hcell, hcs.2 j _ _ hj hlj⟩
        obtain ⟨f, hf⟩ := pick hrow
        have hfr : ∀ i, i < len → rowCells (mkRow (isS P e) (f i)) = f i := by
         intro i hi
         refine row_cells (hf i hi).1 fun x hx => ?_
         obtain ⟨j, hj⟩ := List.getElem?_of_mem hx
         obtain ⟨u, _, _, h3⟩ := (hf i hi).2.2 j x hj
         exact h3
        have hget : ∀ (i : Nat) row, ((List.range len).map fun i => mkRow (isS P e) (f i))[i]? = some row → i < len ∧ row = mkRow (isS P e) (f i) := by
         intro i row hrw
         have hi : i < len := by have := (List.getElem?_eq_some_iff.1 hrw).1; simpa using this
         rw [List.getElem?_map, List.getElem?_range hi] at hrw
         exact ⟨hi, by simpa using hrw.symm⟩
        have hlenr : ((List.range len).map fun i => mkRow (isS P e) (f i)).length = len := by simp
        refine ⟨[.sl (P.cellsOf e) false ((List.range len).map fun i => mkRow (isS P e) (f i))], one ?_ rfl, false, _, rfl, (fun h => by cases h), fun row hrm => ?_⟩
        ·have hfl := Flat.sl (M := M0) (w := w) (P.cellsOf e) ((List.range len).map fun i => mkRow (isS P e) (f i)) ab ao cap (fun j => (w.cell? ⟨ab, ao + j, none⟩).getD undef) (by rw [hlenr]; exact hlc) hcm (fun j hj => ⟨?_, fun h => h⟩) (fun row hrm => ?_) (fun row hrm c hcm' => ?_) (fun i j row c hi hc => ?_)
         ·rw [hlenr] at hfl
          exact hfl
         ·rw [hlenr] at hj
          have hi : j / P.cellsOf e < len := (Nat.div_lt_iff_lt_mul (Nat.pos_of_ne_zero o2)).2 hj
          have hm : j % P.cellsOf e < P.cellsOf e := Nat.mod_lt _ (Nat.pos_of_ne_zero o2)
          obtain ⟨q1, q2, q3⟩ := hf _ hi
          have hy : (f (j / P.cellsOf e))[j % P.cellsOf e]? = some (f (j / P.cellsOf e))[j % P.cellsOf e] := by simp [show j % P.cellsOf e < (f (j / P.cellsOf e)).length by omega]
          obtain ⟨u, hu', _⟩ := q3 _ _ hy
          have hj' : j / P.cellsOf e * P.cellsOf e + j % P.cellsOf e = j := by rw [Nat.mul_comm]; exact Nat.div_add_mod j _
          rw [hj'] at hu'
          rw [hu']; rfl
         ·obtain ⟨i, hi⟩ := List.getElem?_of_mem hrm
          obtain ⟨h1, rfl⟩ := hget i row hi
          rw [hfr i h1]
          exact (hf i h1).2.1
         ·obtain ⟨i, hi⟩ := List.getElem?_of_mem hrm
          obtain ⟨h1, rfl⟩ := hget i row hi
          rw [hfr i h1] at hcm'
          obtain ⟨j, hj⟩ := List.getElem?_of_mem hcm'
          obtain ⟨u, _, _, h3⟩ := (hf i h1).2.2 j c hj
          exact h3
         ·obtain ⟨h1, rfl⟩ := hget i row hi
          rw [hfr i h1] at hc
          obtain ⟨u, h2, h3, h4⟩ := (hf i h1).2.2 j c hc
          simp only [h2, Option.getD_some]
          exact h3
        ·obtain ⟨i, hi⟩ := List.getElem?_of_mem hrm
         obtain ⟨h1, rfl⟩ := hget i row hi
         exact ⟨f i, (hf i h1).1, rfl⟩
      ·cases h
   ·rename_i fs hu
    simp only [DataW.trod, hu] at h
    rw [if_pos hlen, Option.map_eq_some_iff] at h
    ·obtain ⟨xs, hx, _⟩ := h
     have := rd_fields (r := RdT P n) (ok := okT P n) (fun t cs x h1 h2 h3 => ih n t cs x h1 h2 hsp h3) fs.toList 0 cs (P.cellsOf t) xs hok hlen (Nat.zero_le _) hx
     simpa using this
   ·simp at hok
theorem rd_arg {n : Nat} {t : TypeId} {v : Value} {d : DataW H} {ps : List MemPlace} (hok : okT P n t = true) (h : DataW.Trod enc P w 0 sp hd t v d ps) (hsp : ∀ b, sp b = true) {base : Nat} (hv : Value.okWide P w .any base t v) (hlen : v.cells.size = P.cellsOf t) :
  ∃ pvs, RdT P n t pvs ∧ Flat M0 w (mkRow (isS P t) pvs) v := by
 obtain ⟨fuel, h⟩ := h
 obtain ⟨pvs, hc, hr⟩ := rd fuel n t _ _ hok h hsp (by simpa using hlen)
 refine ⟨pvs, hr, ?_⟩
 have hv' := hv
 unfold Value.okWide at hv'
 cases n with
 | zero => exact hr.elim
 | succ n =>
  unfold RdT at hr
  unfold isS
  have fin : ∀ {x : PV}, Cells w [x] v.cells.toList → v.cells = #[v] → Flat M0 w x v := by
   intro x hc h1
   rw [h1] at hc
   exact (hc.2 0 x v rfl rfl).1
  split at hr
  ·rename_i hu
   simp only [hu] at hv'
   obtain ⟨m, rfl⟩ := hr
   have h1 : v.cells = #[v] := by cases v <;> first | rfl | (simp [Cell.okWide, Cell.ok, hu] at hv')
   simp only [hu]
   exact fin hc h1
  ·rename_i hu
   simp only [hu] at hv'
   obtain ⟨m, rfl⟩ := hr
   have h1 : v.cells = #[v] := by cases v <;> first | rfl | (simp [Cell.okWide, Cell.ok, hu] at hv')
   simp only [hu]
   exact fin hc h1
  ·rename_i hu
   simp only [hu] at hv'
   obtain ⟨nl, rows, rfl, _⟩ := hr
   have h1 : v.cells = #[v] := by cases v <;> first | rfl | (simp [Cell.okWide, Cell.ok, hu] at hv')
   simp only [hu]
   exact fin hc h1
  ·rename_i hu
   simp only [hu] at hv'
   obtain ⟨cs, rfl, _, _⟩ := hv'
   simp only [hu, mkRow, if_true]
   have hcs : (Value.agg cs).cells.toList = cs.toList := rfl
   rw [hcs] at hc
   refine .agg pvs cs (by have := hc.1; simpa using this.symm) (fun c hcm => ?_) (fun i c u h1 h2 => (hc.2 i c u h1 (by simpa using h2)).1)
   obtain ⟨i, hi⟩ := List.getElem?_of_mem hcm
   have hil := (List.getElem?_eq_some_iff.1 hi).1
   have hl := hc.1
   have : cs.toList[i]? = some cs.toList[i] := by simp [show i < cs.size by simp at hl; omega]
   exact (hc.2 i c _ hi this).2
  ·exact hr.elim
theorem len_of {n : Nat} {t : TypeId} {v : Value} (hok : okT P n t = true) {base : Nat} (hv : Value.okWide P w .any base t v) : v.cells.size = P.cellsOf t := by
 unfold Value.okWide at hv
 cases n with
 | zero => cases hok
 | succ n =>
  unfold okT at hok
  split at hok
  ·rename_i hu
   simp only [hu] at hv
   have h1 : v.cells = #[v] := by cases v <;> first | rfl | (simp [Cell.okWide, Cell.ok, hu] at hv)
   rw [h1]; have := eq_of_beq hok; rw [this]; rfl
  ·rename_i hu
   simp only [hu] at hv
   have h1 : v.cells = #[v] := by cases v <;> first | rfl | (simp [Cell.okWide, Cell.ok, hu] at hv)
   rw [h1]; have := eq_of_beq hok; rw [this]; rfl
  ·rename_i hu
   simp only [hu] at hv
   have h1 : v.cells = #[v] := by cases v <;> first | rfl | (simp [Cell.okWide, Cell.ok, hu] at hv)
   simp only [Bool.and_eq_true, beq_iff_eq] at hok
   rw [h1, hok.1]; rfl
  ·rename_i hu
   simp only [hu] at hv
   obtain ⟨cs, rfl, h, _⟩ := hv
   exact h
  ·cases hok
end
end Go.Proofs.YtoepoghmeajocaaGreatDoor.Vc
namespace Go.Proofs.YtoepoghmeajocaaGreatDoor.Vc
open Go.RowKit
inductive TV where
 | p (x : PV)
 | ow (size : Nat) (isNil : Bool) (rows : List PV)
inductive CapV where
 | p (x : PV)
 | addr (k size r off : Nat)
inductive RfV where
 | p (x : PV)
 | addr (k size r off : Nat)
 | bs (k size : Nat) (isAgg : Bool) (lo n : Nat)
 | mh (k : Nat)
inductive DV where
 | top
 | p (x : PV)
 | ow (size : Nat) (isNil : Bool) (rows : List PV)
 | tup (ds : List TV)
 | addr (k size r off : Nat)
 | bs (k size : Nat) (isAgg : Bool) (lo n : Nat)
 | fn (f : FuncId) (caps : List CapV)
 | mh (k : Nat)
 | ob (T : Ob)
 | agd (cs : List RfV)
instance : Inhabited DV := ⟨.top⟩
def TV.copy : TV → TV
 | .ow size n rows => .p (.sl size n rows)
 | x => x
def DV.copy : DV → DV
 | .ow size n rows => .p (.sl size n rows)
 | .tup ds => .tup (ds.map TV.copy)
 | .ob _ => .top
 | x => x
def Ob.dv : Ob → DV
 | .p x => .p x
 | T => .ob T
def dvs : List Ob → List DV
 | [] => []
 | T :: l => T.dv :: dvs l
def dvss : List (List Ob) → List (List DV)
 | [] => []
 | r :: l => dvs r :: dvss l
def zipR : List PV → List Ob → List (List DV)
 | k :: ks, v :: vs => [.p k, v.dv] :: zipR ks vs
 | _, _ => []
def RfV.ment (k : Nat) : RfV → Bool
 | .addr j _ _ _ | .bs j _ _ _ _ | .mh j => j == k
 | _ => false
def RfV.dv : RfV → DV
 | .p x => .p x
 | .addr k sz r o => .addr k sz r o
 | .bs k sz ag lo n => .bs k sz ag lo n
 | .mh k => .mh k
def rfDs : List RfV → List DV
 | [] => []
 | c :: cs => c.dv :: rfDs cs
theorem rfDs_eq (l : List RfV) : rfDs l = l.map RfV.dv := by induction l with | nil => rfl | cons x xs ih => simp [rfDs, ih]
def DV.ment (k : Nat) : DV → Bool
 | .addr j _ _ _ | .bs j _ _ _ _ | .mh j => j == k
 | .fn _ caps => caps.any fun | .addr j _ _ _ => j == k | _ => false
 | .agd cs => cs.any (RfV.ment k)
 | _ => false
def DV.isP : DV → Bool
 | .p _ => true
 | _ => false
structure Box where
 live : Bool
 size : Nat
 rows : List (List DV)
 old : Bool
structure St where
 t : List DV
 b : List (Option Box)
def setL {α : Type} : List α → Nat → α → List α
 | [], _, _ => []
 | _ :: xs, 0, v => v :: xs
 | x :: xs, n + 1, v => x :: setL xs n v
def getT : List DV → Nat → DV
 | [], _ => .top
 | x :: _, 0 => x
 | _ :: xs, n + 1 => getT xs n
def cellB : Option Box → Option Box
 | some bx => match bx.size with
  | 0 => none
  | _ + 1 => some bx
 | none => none
def mapB : Option Box → Option Box
 | some bx => match bx.size with
  | 0 => some bx
  | _ + 1 => none
 | none => none
def getM : List (Option Box) → Nat → Option Box
 | [], _ => none
 | x :: _, 0 => mapB x
 | _ :: xs, n + 1 => getM xs n
def getB : List (Option Box) → Nat → Option Box
 | [], _ => none
 | x :: _, 0 => cellB x
 | _ :: xs, n + 1 => getB xs n
theorem setL_length {α : Type} (l : List α) (n : Nat) (v : α) : (setL l n v).length = l.length := by
 induction l generalizing n with
 | nil => rfl
 | cons x xs ih => cases n <;> simp [setL, ih]
theorem getElem?_setL {α : Type} (l : List α) (n i : Nat) (v : α) : (setL l n v)[i]? = if i = n then l[i]?.map (fun _ => v) else l[i]? := by
 induction l generalizing n i with
 | nil => simp [setL]
 | cons x xs ih => cases n <;> cases i <;> simp [setL, ih]
theorem getT_eq (l : List DV) (n : Nat) : getT l n = (l[n]?).getD .top := by
 induction l generalizing n with
 | nil => simp [getT]
 | cons x xs ih => cases n <;> simp [getT, ih]
theorem cellB_some {x : Option Box} {bx : Box} (h : cellB x = some bx) : x = some bx ∧ bx.size ≠ 0 := by
 cases x with
 | none => cases h
 | some b =>
  simp only [cellB] at h
  split at h
  ·cases h
  ·rename_i e; injection h with h; subst h; exact ⟨rfl, by omega⟩
theorem mapB_some {x : Option Box} {bx : Box} (h : mapB x = some bx) : x = some bx ∧ bx.size = 0 := by
 cases x with
 | none => cases h
 | some b =>
  simp only [mapB] at h
  split at h
  ·rename_i e; injection h with h; subst h; exact ⟨rfl, e⟩
  ·cases h
theorem getB_eq (l : List (Option Box)) (n : Nat) : getB l n = cellB ((l[n]?).getD none) := by
 induction l generalizing n with
 | nil => simp [getB, cellB]
 | cons x xs ih => cases n <;> simp [getB, ih]
theorem getM_eq (l : List (Option Box)) (n : Nat) : getM l n = mapB ((l[n]?).getD none) := by
 induction l generalizing n with
 | nil => simp [getM, mapB]
 | cons x xs ih => cases n <;> simp [getM, ih]
def BornOk (es : Array MapEntry) (clock : Nat) : Prop := (∀ x ∈ es.toList, x.born < clock) ∧ (es.toList.map (·.born)).Nodup
def third : Bool → MapEntry → List DV
 | true, e => [.p (.int .i64 e.born)]
 | false, _ => []
theorem born_nil : BornOk #[] 0 := ⟨by simp, by simp⟩
theorem born_push {es : Array MapEntry} {clock : Nat} (h : BornOk es clock) {key val : Value} : BornOk (es.push { key, val, born := clock }) (clock + 1) := by
 obtain ⟨h1, h2⟩ := h
 refine ⟨fun x hx => ?_, ?_⟩
 ·simp only [Array.toList_push, List.mem_append, List.mem_singleton] at hx
  rcases hx with hx | rfl
  ·exact Nat.lt_succ_of_lt (h1 x hx)
  ·exact Nat.lt_succ_self _
 ·simp only [Array.toList_push, List.map_append, List.map_cons, List.map_nil]
  refine List.nodup_append.2 ⟨h2, by simp, fun a ha b hb => ?_⟩
  simp only [List.mem_singleton] at hb
  subst hb
  obtain ⟨x, hx, rfl⟩ := List.mem_map.1 ha
  exact Nat.ne_of_lt (h1 x hx)
theorem born_modify {es : Array MapEntry} {clock : Nat} (h : BornOk es clock) (i : Nat) (f : MapEntry → MapEntry) (hf : ∀ e, (f e).born = e.born) : BornOk (es.modify i f) clock := by
 have hb : (es.modify i f).toList.map (·.born) = es.toList.map (·.born) := by
  apply List.ext_getElem?
  intro j
  simp only [List.getElem?_map, Array.getElem?_toList, Array.getElem?_modify]
  split
  ·cases es[j]? <;> simp [hf]
  ·rfl
 refine ⟨fun x hx => ?_, by rw [hb]; exact h.2⟩
 have hm : x.born ∈ es.toList.map (·.born) := by rw [← hb]; exact List.mem_map.2 ⟨x, hx, rfl⟩
 obtain ⟨y, hy, e⟩ := List.mem_map.1 hm
 rw [← e]; exact h.1 y hy
theorem born_erase {es : Array MapEntry} {clock : Nat} (h : BornOk es clock) (i : Nat) : BornOk (es.eraseIdxIfInBounds i) clock := by
 have hs : (es.eraseIdxIfInBounds i).toList.Sublist es.toList := by
  unfold Array.eraseIdxIfInBounds
  split
  ·simp only [Array.toList_eraseIdx]; exact List.eraseIdx_sublist _ _
  ·exact List.Sublist.refl _
 exact ⟨fun x hx => h.1 x (hs.subset hx), (hs.map _).nodup h.2⟩
inductive Loc where
 | tmp (i : Nat)
 | cell (k r o : Nat)
 | box (k : Nat)
 | comp (L : Loc) (j : Nat)
deriving DecidableEq
structure Cx where
 ρ : Nat → Option Nat
 own : Nat → Option Loc
 M : Nat → Nat → Prop
 w : World
 ex : Nat → Option Nat
def OwRel (X : Cx) (base : Nat) (L : Loc) (size : Nat) (isNil : Bool) (rows : List PV) (v : Value) : Prop :=
 (rows = [] ∧ ((isNil = true ∧ v = .slice none 0 0) ∨ (isNil = false ∧ ∃ b o, v = .slice (some ⟨b, o, none⟩) 0 0))) ∨
 (isNil = false ∧ ∃ g cap cur ty, v = .slice (some ⟨g, 0, none⟩) rows.length cap ∧ X.own g = some L ∧ base ≤ g ∧ X.w.heap[g]? = some (.cells cur ty (0, 0)) ∧
  cur.size = cap * size ∧ Flat X.M X.w (.sl size false rows) v ∧ ∀ o, rows.length * size ≤ o → X.M g o)
inductive ObRel (X : Cx) (base : Nat) : Loc → Ob → Value → Prop
 | p (L : Loc) (x : PV) (v : Value) (h : Flat X.M X.w x v) : ObRel X base L (.p x) v
 | ptr (L : Loc) (cells : List Ob) (g : Nat) (cs : Array Value) (ty : TypeId) (ho : X.own g = some L) (hb : base ≤ g ∨ ∃ j, X.ex j = some g) (hh : X.w.heap[g]? = some (.cells cs ty (0, 0))) (hM : ∀ o, X.M g o)
   (hs : cells.length ≤ cs.size) (h1 : ∀ (j : Nat) T u, cells[j]? = some T → cs[j]? = some u → u.oneCell' = true)
   (hc : ∀ (j : Nat) T u, cells[j]? = some T → cs[j]? = some u → ObRel X base (.comp L j) T u) : ObRel X base L (.ptr cells) (.pointer (some ⟨g, 0, none⟩))
 | nils (L : Loc) (size : Nat) : ObRel X base L (.sl size true []) (.slice none 0 0)
 | sl0 (L : Loc) (size b o : Nat) : ObRel X base L (.sl size false []) (.slice (some ⟨b, o, none⟩) 0 0)
 | sl (L : Loc) (size : Nat) (rows : List (List Ob)) (g cap : Nat) (cs : Array Value) (ty : TypeId) (ho : X.own g = some L) (hb : base ≤ g ∨ ∃ j, X.ex j = some g) (hh : X.w.heap[g]? = some (.cells cs ty (0, 0))) (hM : ∀ o, X.M g o)
   (hl : rows.length ≤ cap) (hmax : cap ≤ maxLen) (hs : cap * size ≤ cs.size) (hw : ∀ row, row ∈ rows → row.length = size)
   (h1 : ∀ (r o : Nat) row T u, rows[r]? = some row → row[o]? = some T → cs[r * size + o]? = some u → u.oneCell' = true)
   (hc : ∀ (r o : Nat) row T u, rows[r]? = some row → row[o]? = some T → cs[r * size + o]? = some u → ObRel X base (.comp L (r * size + o)) T u) :
   ObRel X base L (.sl size false rows) (.slice (some ⟨g, 0, none⟩) rows.length cap)
 | mp (L : Loc) (keys : List PV) (vals : List Ob) (g : Nat) (es : Array MapEntry) (clock : Nat) (ho : X.own g = some L) (hb : base ≤ g ∨ ∃ j, X.ex j = some g) (hh : X.w.heap[g]? = some (.map es clock)) (hM : ∀ o, X.M g o)
   (hk : keys.length = es.size) (hv : vals.length = es.size) (hkey : ∀ (i : Nat) k e, keys[i]? = some k → es[i]? = some e → e.key = keyV k) (hbn : BornOk es clock)
   (hc : ∀ (i : Nat) T e, vals[i]? = some T → es[i]? = some e → ObRel X base (.comp L (i * 2 + 1)) T e.val) : ObRel X base L (.mp keys vals) (.map (some g))
 | ch (L : Loc) (items : List PV) (g cap sent got : Nat) (buf : Array Value) (ho : X.own g = some L) (hb : base ≤ g ∨ ∃ j, X.ex j = some g) (hh : X.w.heap[g]? = some (.chan cap buf false sent got false)) (hM : ∀ o, X.M g o)
   (hs : buf.size = items.length) (hc : ∀ (i : Nat) x u, items[i]? = some x → buf[i]? = some u → Flat X.M X.w x u) : ObRel X base L (.ch cap items) (.chan (some g))
def CRel (X : Cx) : CapV → Value → Prop
 | .p x, v => Flat X.M X.w x v
 | .addr k size r off, v => ∃ blk, X.ρ k = some blk ∧ v = .pointer (some ⟨blk, r * size + off, none⟩)
def TRel (X : Cx) (base : Nat) (L : Loc) : TV → Value → Prop
 | .p x, v => Flat X.M X.w x v
 | .ow size n rows, v => OwRel X base L size n rows v
def RRel (X : Cx) : RfV → Value → Prop
 | .p x, v => Flat X.M X.w x v
 | .addr k size r off, v => ∃ blk, X.ρ k = some blk ∧ v = .pointer (some ⟨blk, r * size + off, none⟩)
 | .bs k size _ lo n, v => ∃ blk cap, X.ρ k = some blk ∧ n ≤ cap ∧ cap ≤ maxLen ∧ (∃ cs ty, X.w.heap[blk]? = some (.cells cs ty (0, 0)) ∧ (lo + cap) * size ≤ cs.size) ∧ v = .slice (some ⟨blk, lo * size, none⟩) n cap
 | .mh k, v => ∃ blk, X.ρ k = some blk ∧ v = .map (some blk)
def VRel (X : Cx) (base : Nat) (L : Loc) : DV → Value → Prop
 | .top, _ => True
 | .p x, v => Flat X.M X.w x v
 | .ow size n rows, v => OwRel X base L size n rows v
 | .tup ds, v => ∃ vs : Array Value, v = .tuple vs ∧ vs.size = ds.length ∧ ∀ (j : Nat) d u, ds[j]? = some d → vs[j]? = some u → TRel X base (.comp L j) d u
 | .addr k size r off, v => ∃ blk, X.ρ k = some blk ∧ v = .pointer (some ⟨blk, r * size + off, none⟩)
 | .bs k size _ lo n, v => ∃ blk cap, X.ρ k = some blk ∧ n ≤ cap ∧ cap ≤ maxLen ∧ (∃ cs ty, X.w.heap[blk]? = some (.cells cs ty (0, 0)) ∧ (lo + cap) * size ≤ cs.size) ∧ v = .slice (some ⟨blk, lo * size, none⟩) n cap
 | .fn f caps, v => ∃ vs : Array Value, v = .func (.func f) #[] vs ∧ vs.size = caps.length ∧ ∀ (j : Nat) c u, caps[j]? = some c → vs[j]? = some u → CRel X c u
 | .mh k, v => ∃ blk, X.ρ k = some blk ∧ v = .map (some blk)
 | .ob T, v => ObRel X base L T v
 | .agd cs, v => ∃ vs : Array Value, v = .agg vs ∧ vs.size = cs.length ∧ ∀ (j : Nat) c u, cs[j]? = some c → vs[j]? = some u → RRel X c u ∧ u.oneCell' = true
theorem RRel.dv {X : Cx} {c : RfV} {v : Value} (h : RRel X c v) (base : Nat) (L : Loc) : VRel X base L c.dv v := by cases c <;> exact h
structure BoxRel (X : Cx) (base k : Nat) (bx : Box) (blk : Nat) (cs : Array Value) (ty : TypeId) : Prop where
 ρ : X.ρ k = some blk
 own : X.own blk = some (.box k)
 hbase : (base ≤ blk ∨ ∃ j, X.ex j = some blk) ∧ (bx.old = true → X.ex k = some blk)
 heap : X.w.heap[blk]? = some (.cells cs ty (0, 0))
 size : bx.rows.length * bx.size ≤ cs.size
 width : ∀ row, row ∈ bx.rows → row.length = bx.size
 cells : ∀ (r o : Nat) row d u, bx.rows[r]? = some row → row[o]? = some d → cs[r * bx.size + o]? = some u → VRel X base (.cell k r o) d u ∧ u.oneCell' = true
 live : bx.live = true → ∀ o, X.M blk o
 fixed : bx.live = false → (∀ o, o < bx.rows.length * bx.size → ¬ X.M blk o) ∧ ∀ row, row ∈ bx.rows → ∀ d, d ∈ row → d.isP = true
def MapRel (X : Cx) (base k : Nat) (bx : Box) : Prop :=
 ∃ blk es clock, X.ρ k = some blk ∧ X.own blk = some (.box k) ∧ ((base ≤ blk ∨ ∃ j, X.ex j = some blk) ∧ (bx.old = true → X.ex k = some blk)) ∧ X.w.heap[blk]? = some (.map es clock) ∧ es.size = bx.rows.length ∧ (∀ o, X.M blk o) ∧ BornOk es clock ∧
  ∀ (i : Nat) row e, bx.rows[i]? = some row → es[i]? = some e → ∃ (q : PV) (n : Bool) (d : DV), row = .p q :: d :: third n e ∧ e.key = keyV q ∧ VRel X base (.cell k i 1) d e.val
def BX (X : Cx) (base k : Nat) (bx : Box) : Prop :=
 if bx.size = 0 then MapRel X base k bx else ∃ blk cs ty, BoxRel X base k bx blk cs ty
theorem BX.cell {X : Cx} {base k : Nat} {bx : Box} {blk : Nat} {cs : Array Value} {ty : TypeId} (hne : bx.size ≠ 0) (h : BoxRel X base k bx blk cs ty) : BX X base k bx := by
 unfold BX; rw [if_neg hne]; exact ⟨_, _, _, h⟩
def SzAt (w w' : World) (g : Nat) : Prop := ∀ cs ty, w.heap[g]? = some (.cells cs ty (0, 0)) → ∃ cs' ty', w'.heap[g]? = some (.cells cs' ty' (0, 0)) ∧ cs'.size = cs.size
theorem SzAt.of {w w' : World} {g : Nat} (h : w'.heap[g]? = w.heap[g]?) : SzAt w w' g := fun cs ty e => ⟨cs, ty, h.trans e, rfl⟩
theorem SzAt.refl (w : World) (g : Nat) : SzAt w w g := .of rfl
theorem SzAt.trans {w w' w'' : World} {g : Nat} (h : SzAt w w' g) (k : SzAt w' w'' g) : SzAt w w'' g := fun cs ty e => by
 obtain ⟨cs', ty', e1, e2⟩ := h cs ty e
 obtain ⟨cs2, ty2, e3, e4⟩ := k cs' ty' e1
 exact ⟨cs2, ty2, e3, e4.trans e2⟩
theorem SzAt.heap {w w' : World} {cs : Array Value} {ty : TypeId} {g : Nat} {new : Array Value} {ty' : TypeId} (hs : w.heap[g]? = some (.cells cs ty (0, 0))) (hn : w'.heap[g]? = some (.cells new ty' (0, 0))) (hl : new.size = cs.size)
  (ho : ∀ b, b ≠ g → b < w.heap.size → w'.heap[b]? = w.heap[b]?) (b : Nat) : SzAt w w' b := by
 intro cs' ty2 hg
 by_cases e : b = g
 ·subst e; rw [hs] at hg; injection hg with hg; injection hg with hg1 hg2; subst hg1; exact ⟨new, ty', hn, hl⟩
 ·exact ⟨cs', ty2, (ho b e (Array.getElem?_eq_some_iff.1 hg).1).trans hg, rfl⟩
theorem SzAt.below {w w' : World} (h : ∀ b, b < w.heap.size → w'.heap[b]? = w.heap[b]?) (b : Nat) : SzAt w w' b :=
 fun cs' ty2 hg => ⟨cs', ty2, (h b (Array.getElem?_eq_some_iff.1 hg).1).trans hg, rfl⟩
structure Gl where
 base : Nat
 M0 : Nat → Nat → Prop
 w0 : World
 ex : Nat → Option Nat
structure BelowX (ex : Nat → Option Nat) (B : Nat) (w w' : World) : Prop where
 os : w'.os = w.os
 tape : w'.tape = w.tape
 output : w'.output = w.output
 size : w.heap.size ≤ w'.heap.size
 block : ∀ k, k < B → (∀ j, ex j ≠ some k) → w'.heap[k]? = w.heap[k]?
 sz : ∀ k, k < B → SzAt w w' k
theorem BelowX.refl (ex : Nat → Option Nat) (B : Nat) (w : World) : BelowX ex B w w := ⟨rfl, rfl, rfl, Nat.le_refl _, fun _ _ _ => rfl, fun _ _ => .refl _ _⟩
theorem BelowX.trans {ex : Nat → Option Nat} {B : Nat} {a b c : World} (h : BelowX ex B a b) (k : BelowX ex B b c) : BelowX ex B a c :=
 ⟨k.os.trans h.os, k.tape.trans h.tape, k.output.trans h.output, Nat.le_trans h.size k.size, fun i hi hx => (k.block i hi hx).trans (h.block i hi hx), fun i hi => (h.sz i hi).trans (k.sz i hi)⟩
theorem BelowX.of {ex : Nat → Option Nat} {B : Nat} {a b : World} (h : Below B a b) : BelowX ex B a b := ⟨h.os, h.tape, h.output, h.size, fun i hi _ => h.block i hi, fun i hi => .of (h.block i hi)⟩
theorem BelowX.below {ex : Nat → Option Nat} {B : Nat} {a b : World} (h : BelowX ex B a b) (hx : ∀ k, ex k = none) : Below B a b := ⟨h.os, h.tape, h.output, h.size, fun i hi => h.block i hi fun j e => by rw [hx j] at e; cases e⟩
structure Rel (G : Gl) (X : Cx) (s : St) (a : Act) : Prop where
 defers : a.defers = []
 size : a.tmps.size = s.t.length
 tmps : ∀ (i : Nat) d, s.t[i]? = some d → VRel X G.base (.tmp i) d (a.tmps.getD i undef)
 boxes : ∀ (k : Nat) bx, s.b[k]? = some (some bx) → BX X G.base k bx
 below : BelowX G.ex G.base G.w0 X.w
 hb : G.base ≤ X.w.heap.size
 mold : X.ex = G.ex ∧ ∀ b, b < G.base → (∀ j, G.ex j ≠ some b) → ∀ o, X.M b o ↔ G.M0 b o
theorem Rel.cbox {G : Gl} {X : Cx} {s : St} {a : Act} (h : Rel G X s a) {k : Nat} {bx : Box} (hb : s.b[k]? = some (some bx)) (hne : bx.size ≠ 0) : ∃ blk cs ty, BoxRel X G.base k bx blk cs ty := by
 have := h.boxes k bx hb
 unfold BX at this; rwa [if_neg hne] at this
structure Ev (S : Loc → Prop) (X X' : Cx) : Prop where
 keeps : Keeps X.M X.w X'.M X'.w
 own : ∀ g L, X.own g = some L → S L → g < X.w.heap.size → X'.own g = some L ∧ X'.w.heap[g]? = X.w.heap[g]? ∧ ∀ o, X.M g o → X'.M g o
 ex : X'.ex = X.ex
 sz : ∀ g, SzAt X.w X'.w g
theorem Ev.refl (S : Loc → Prop) (X : Cx) : Ev S X X := ⟨Keeps.refl _ _, fun _ _ h _ _ => ⟨h, rfl, fun _ h => h⟩, rfl, fun _ => .refl _ _⟩
theorem ObRel.map {X X' : Cx} {base base' : Nat} (R : Loc → Loc → Prop) (hR : ∀ L L' j, R L L' → R (.comp L j) (.comp L' j)) (hk : Keeps X.M X.w X'.M X'.w)
  (ho : ∀ g L L', R L L' → X.own g = some L → (base ≤ g ∨ ∃ j, X.ex j = some g) → (∀ o, X.M g o) → g < X.w.heap.size →
   X'.own g = some L' ∧ (base' ≤ g ∨ ∃ j, X'.ex j = some g) ∧ X'.w.heap[g]? = X.w.heap[g]? ∧ ∀ o, X'.M g o)
  {L : Loc} {T : Ob} {v : Value} (h : ObRel X base L T v) : ∀ {L' : Loc}, R L L' → ObRel X' base' L' T v := by
 induction h with
 | p L x v h => exact fun _ => .p _ _ _ (h.mono hk)
 | ptr L cells g cs ty h1 h2 h3 h4 h5 h6 _ ih =>
  intro L' hL
  obtain ⟨e1, e2, e3, e4⟩ := ho g L L' hL h1 h2 h4 (Array.getElem?_eq_some_iff.1 h3).1
  exact .ptr _ _ g cs ty e1 e2 (e3.trans h3) e4 h5 h6 fun j T u hT hu => ih j T u hT hu (hR _ _ j hL)
 | nils L size => exact fun _ => .nils _ _
 | sl0 L size b o => exact fun _ => .sl0 _ _ _ _
 | sl L size rows g cap cs ty h1 h2 h3 h4 h5 h6 h7 h8 h9 _ ih =>
  intro L' hL
  obtain ⟨e1, e2, e3, e4⟩ := ho g L L' hL h1 h2 h4 (Array.getElem?_eq_some_iff.1 h3).1
  exact .sl _ _ _ g cap cs ty e1 e2 (e3.trans h3) e4 h5 h6 h7 h8 h9 fun r o row T u hr hT hu => ih r o row T u hr hT hu (hR _ _ _ hL)
 | mp L keys vals g es clock h1 h2 h3 h4 h5 h6 h7 hbn _ ih =>
  intro L' hL
  obtain ⟨e1, e2, e3, e4⟩ := ho g L L' hL h1 h2 h4 (Array.getElem?_eq_some_iff.1 h3).1
  exact .mp _ _ _ g es clock e1 e2 (e3.trans h3) e4 h5 h6 h7 hbn fun i T e hT he => ih i T e hT he (hR _ _ _ hL)
 | ch L items g cap sent got buf h1 h2 h3 h4 h5 h6 =>
  intro L' hL
  obtain ⟨e1, e2, e3, e4⟩ := ho g L L' hL h1 h2 h4 (Array.getElem?_eq_some_iff.1 h3).1
  exact .ch _ _ g cap sent got buf e1 e2 (e3.trans h3) e4 h5 fun i x u hx hu => (h6 i x u hx hu).mono hk
theorem ObRel.mono {S : Loc → Prop} (hc : ∀ L j, S L → S (.comp L j)) {X X' : Cx} (h : Ev S X X') {base : Nat} {L : Loc} (hS : S L) {T : Ob} {v : Value} (hv : ObRel X base L T v) : ObRel X' base L T v :=
 hv.map (fun L L' => L = L' ∧ S L) (fun L L' j ⟨e, hs⟩ => ⟨by rw [e], hc _ _ hs⟩) h.keeps (fun g L L' ⟨e, hs⟩ h1 h2 h3 h4 => by
  subst e
  obtain ⟨e1, e2, e3⟩ := h.own g L h1 hs h4
  exact ⟨e1, by rw [h.ex]; exact h2, e2, fun o => e3 o (h3 o)⟩) ⟨rfl, hS⟩
theorem OwRel.mono {S : Loc → Prop} {X X' : Cx} (h : Ev S X X') {base : Nat} {L : Loc} (hS : S L) {size : Nat} {n : Bool} {rows : List PV} {v : Value}
  (hv : OwRel X base L size n rows v) : OwRel X' base L size n rows v := by
 rcases hv with hv | ⟨h0, g, cap, cur, ty, h1, h2, h3, h4, h5, h6, h7⟩
 ·exact .inl hv
 ·have hlt : g < X.w.heap.size := (Array.getElem?_eq_some_iff.1 h4).1
  obtain ⟨e1, e2, e3⟩ := h.own g L h2 hS hlt
  exact .inr ⟨h0, g, cap, cur, ty, h1, e1, h3, e2.trans h4, h5, h6.mono h.keeps, fun o ho => e3 o (h7 o ho)⟩
theorem CRel.mono {X X' : Cx} (hk : Keeps X.M X.w X'.M X'.w) {c : CapV} {v : Value} (hρ : ∀ k size r off, c = .addr k size r off → X'.ρ k = X.ρ k) (h : CRel X c v) : CRel X' c v := by
 cases c with
 | p x => exact Flat.mono hk h
 | addr k size r off => obtain ⟨blk, h1, h2⟩ := h; exact ⟨blk, (hρ k size r off rfl).trans h1, h2⟩
theorem TRel.mono {S : Loc → Prop} {X X' : Cx} (h : Ev S X X') {base : Nat} {L : Loc} (hS : S L) {d : TV} {v : Value} (hv : TRel X base L d v) : TRel X' base L d v := by
 cases d with
 | p x => exact Flat.mono h.keeps hv
 | ow size n rows => exact OwRel.mono h hS hv
theorem RRel.mono {X X' : Cx} (hk : Keeps X.M X.w X'.M X'.w) (hz : ∀ g, SzAt X.w X'.w g) {c : RfV} {v : Value} (hρ : ∀ k, c.ment k = true → X'.ρ k = X.ρ k) (h : RRel X c v) : RRel X' c v := by
 cases c with
 | p x => exact Flat.mono hk h
 | addr k size r off => obtain ⟨blk, h1, h2⟩ := h; exact ⟨blk, (hρ k (by simp [RfV.ment])).trans h1, h2⟩
 | bs k size _ lo n =>
  obtain ⟨blk, cap, h1, h2, h3, ⟨cs, ty, h4, h5⟩, h6⟩ := h
  obtain ⟨cs', ty', e1, e2⟩ := hz blk cs ty h4
  exact ⟨blk, cap, (hρ k (by simp [RfV.ment])).trans h1, h2, h3, ⟨cs', ty', e1, by rw [e2]; exact h5⟩, h6⟩
 | mh k => obtain ⟨blk, h1, h2⟩ := h; exact ⟨blk, (hρ k (by simp [RfV.ment])).trans h1, h2⟩
theorem VRel.mono {S : Loc → Prop} (hc : ∀ L j, S L → S (.comp L j)) {X X' : Cx} (h : Ev S X X') {base : Nat} {L : Loc} (hS : S L) {d : DV} {v : Value}
  (hρ : ∀ k, d.ment k = true → X'.ρ k = X.ρ k) (hv : VRel X base L d v) : VRel X' base L d v := by
 cases d with
 | top => trivial
 | p x => exact Flat.mono h.keeps hv
 | ow size n rows => exact OwRel.mono h hS hv
 | tup ds =>
  obtain ⟨vs, h1, h2, h3⟩ := hv
  exact ⟨vs, h1, h2, fun j d u hd hu => TRel.mono h (hc L j hS) (h3 j d u hd hu)⟩
 | addr k size r off => obtain ⟨blk, h1, h2⟩ := hv; exact ⟨blk, (hρ k (by simp [DV.ment])).trans h1, h2⟩
 | bs k size _ lo n =>
  obtain ⟨blk, cap, h1, h2, h3, ⟨cs, ty, h4, h5⟩, h6⟩ := hv
  obtain ⟨cs', ty', e1, e2⟩ := h.sz blk cs ty h4
  exact ⟨blk, cap, (hρ k (by simp [DV.ment])).trans h1, h2, h3, ⟨cs', ty', e1, by rw [e2]; exact h5⟩, h6⟩
 | mh k => obtain ⟨blk, h1, h2⟩ := hv; exact ⟨blk, (hρ k (by simp [DV.ment])).trans h1, h2⟩
 | ob T => exact ObRel.mono hc h hS hv
 | agd cs =>
  obtain ⟨vs, h1, h2, h3⟩ := hv
  refine ⟨vs, h1, h2, fun j c u hj hu => ⟨(h3 j c u hj hu).1.mono h.keeps h.sz fun k hk => hρ k ?_, (h3 j c u hj hu).2⟩⟩
  simp only [DV.ment, List.any_eq_true]
  exact ⟨c, List.mem_of_getElem? hj, hk⟩
 | fn f caps =>
  obtain ⟨vs, h1, h2, h3⟩ := hv
  refine ⟨vs, h1, h2, fun j c u hj hu => CRel.mono h.keeps (fun k size r off e => hρ k ?_) (h3 j c u hj hu)⟩
  subst e
  simp only [DV.ment, List.any_eq_true]
  exact ⟨_, List.mem_of_getElem? hj, by simp⟩
theorem OwRel.flat {X : Cx} {base : Nat} {L : Loc} {size : Nat} {n : Bool} {rows : List PV} {v : Value} (h : OwRel X base L size n rows v) : Flat X.M X.w (.sl size n rows) v := by
 rcases h with ⟨rfl, ⟨rfl, rfl⟩ | ⟨rfl, b, o, rfl⟩⟩ | ⟨rfl, g, cap, cur, ty, h1, h2, h3, h4, h5, h6, h7⟩
 ·exact .nilsl _
 ·exact .sl size [] b o 0 (fun _ => undef) (Nat.le_refl _) (Nat.zero_le _) (fun j hj => by simp at hj) (fun _ h => by simp at h) (fun _ h => by simp at h) (fun _ _ _ _ h => by simp at h)
 ·exact h6
theorem TRel.copy {X : Cx} {base : Nat} {L : Loc} {d : TV} {v : Value} (h : TRel X base L d v) (L' : Loc) : TRel X base L' d.copy v := by
 cases d with
 | p x => exact h
 | ow size n rows => exact OwRel.flat h
theorem VRel.copy {X : Cx} {base : Nat} {L : Loc} {d : DV} {v : Value} (h : VRel X base L d v) (L' : Loc) : VRel X base L' d.copy v := by
 cases d with
 | ow size n rows => exact OwRel.flat h
 | tup ds =>
  obtain ⟨vs, h1, h2, h3⟩ := h
  refine ⟨vs, h1, by simp [h2], fun j d u hd hu => ?_⟩
  rw [List.getElem?_map] at hd
  cases hj : ds[j]? with
  | none => rw [hj] at hd; simp at hd
  | some d0 => rw [hj] at hd; simp at hd; subst hd; exact TRel.copy (h3 j d0 u hj hu) _
 | top => trivial
 | p x => exact h
 | addr k size r off => exact h
 | bs k size _ lo n => exact h
 | mh k => exact h
 | ob T => trivial
 | agd cs => exact h
 | fn f caps => exact h
end Go.Proofs.YtoepoghmeajocaaGreatDoor.Vc
namespace Go.Proofs.YtoepoghmeajocaaGreatDoor.Vc
open Go.RowKit
inductive O where
 | t (n : Nat)
 | c (d : DV)
def O.val (t : List DV) : O → DV
 | .t n => getT t n
 | .c d => d
inductive KO where
 | ldo (j : Nat) (ag : Bool)
 | callo (f : FuncId) (gr : Bool)
 | callvo (gr : Bool)
 | bldo (zero : List PV) (offs : List (Nat × Nat))
 | eqp (neq : Bool)
 | appd (size bytes : Nat) (ag : Bool)
 | bsld (size n : Nat) (ag : Bool)
 | slx (size : Nat)
 | lookx (q : Option IntKind) (zero : PV) (ok : Bool)
 | mupx (q : Option IntKind)
 | mdel (q : Option IntKind)
 | mlen
 | callr (f : FuncId)
 | mpe (q : Option IntKind)
 | ents
 | lda (n : Nat)
inductive Kd where
 | mov (take : Bool)
 | pick
 | box (k size : Nat)
 | alloc (k size : Nat) (zero : List DV)
 | build (zero : List PV) (offs : List (Nat × Nat))
 | bsl (size n : Nat)
 | load (n : Nat) (isAgg take : Bool)
 | loadp (n : Nat) (isAgg : Bool)
 | store (n : Nat)
 | bin (op : BinOp)
 | eqnil (neq : Bool)
 | un (op : UnOp)
 | conv (k : IntKind)
 | fad (off : Nat)
 | fld (off n : Nat) (isAgg : Bool)
 | iad (size : Nat)
 | sidx
 | len
 | lenD
 | slen
 | app (size bytes : Nat)
 | ext (j : Nat)
 | extp (j : Nat)
 | call (f : FuncId)
 | callv
 | mkfn (f : FuncId)
 | mksl (k size bytes : Nat) (isAgg : Bool) (zero : List DV)
 | slc (size : Nat) (lo hi : Bool)
 | ssl (lo hi : Bool)
 | slb (k size : Nat)
 | callm (f : FuncId) (k : Nat)
 | stk
 | eqat (neq : Bool)
 | eqs (n : Nat) (neq : Bool)
 | eqb (neq : Bool)
 | mkz (size bytes : Nat) (row : PV)
 | s2b
 | mkmap (k : Nat)
 | look (q : IntKind) (zero : PV)
 | mupd (q : IntKind)
 | nilchk
 | mn
 | mx
 | «at» (k : Nat) (κ : Kd)
 | pl (κ : Kd)
 | ob (κ : KO)
structure Ins where
 d : Option Nat
 g : Option (Nat × Bool)
 k : Kd
 xs : List O
def pvOf : DV → Option PV
 | .p x => some x
 | .ow size n rows => some (.sl size n rows)
 | _ => none
def pvsOf : List DV → Option (List PV)
 | [] => some []
 | d :: ds => match pvOf d, pvsOf ds with
  | some x, some xs => some (x :: xs)
  | _, _ => none
def cellsP : List DV → Option (List PV)
 | [] => some []
 | .p x :: ds => match cellsP ds with
  | some xs => some (x :: xs)
  | none => none
 | _ :: _ => none
def rowsP (isAgg : Bool) : List (List DV) → Option (List PV)
 | [] => some []
 | row :: rs => match cellsP row, rowsP isAgg rs with
  | some cs, some xs => some ((if isAgg then .agg cs else cs.headD (.bool false)) :: xs)
  | _, _ => none
def CapV.frz (b : List (Option Box)) : CapV → Option PV
 | .p x => some x
 | .addr k size r off => match getB b k with
  | some bx => if bx.live then none else match cellsP bx.rows.flatten with
   | some cs => some (.ptr cs (r * size + off))
   | none => none
  | none => none
def capsF (b : List (Option Box)) : List CapV → Option (List PV)
 | [] => some []
 | c :: cs => match c.frz b, capsF b cs with
  | some x, some xs => some (x :: xs)
  | _, _ => none
def bsF (b : List (Option Box)) (k size : Nat) (isAgg : Bool) (lo n : Nat) : Option PV := match getB b k with
 | some bx => if bx.live = false ∧ (isAgg = true ∨ size = 1) ∧ size = bx.size ∧ lo = 0 ∧ n = bx.rows.length then match rowsP isAgg bx.rows with
  | some rows => some (.sl size false rows)
  | none => none
  else none
 | none => none
def RfV.frz (b : List (Option Box)) : RfV → Option PV
 | .p x => some x
 | .addr k size r off => CapV.frz b (.addr k size r off)
 | .bs k size ag lo n => bsF b k size ag lo n
 | .mh _ => none
def rfsF (b : List (Option Box)) : List RfV → Option (List PV)
 | [] => some []
 | c :: cs => match c.frz b, rfsF b cs with
  | some x, some xs => some (x :: xs)
  | _, _ => none
def DV.frz (b : List (Option Box)) : DV → Option PV
 | .p x => some x
 | .ow size n rows => some (.sl size n rows)
 | .addr k size r off => CapV.frz b (.addr k size r off)
 | .bs k size isAgg lo n => match getB b k with
  | some bx => if bx.live = false ∧ (isAgg = true ∨ size = 1) ∧ size = bx.size ∧ lo = 0 ∧ n = bx.rows.length then match rowsP isAgg bx.rows with
   | some rows => some (.sl size false rows)
   | none => none
   else none
  | none => none
 | .fn f caps => match capsF b caps with
  | some xs => some (.fn f xs)
  | none => none
 | .agd cs => match rfsF b cs with
  | some xs => some (.agg xs)
  | none => none
 | _ => none
def frzs (b : List (Option Box)) : List DV → Option (List PV)
 | [] => some []
 | d :: ds => match d.frz b, frzs b ds with
  | some x, some xs => some (x :: xs)
  | _, _ => none
def DV.plain : DV → Bool
 | .p _ | .ow _ _ _ | .tup _ => true
 | _ => false
def FnOK (P : Program) (f : FuncId) : Prop := ∃ fn, P.funcs[f]? = some fn ∧ fn.body.isSome = true ∧ fn.name ≠ "runtime.NumGoroutine"
def PureCall (P : Program) (f : FuncId) (args : List PV) (r : DV) : Prop :=
 r.plain = true ∧ ∀ (M0 : Nat → Nat → Prop) (w : World) (cargs : Array Value), cargs.size = args.length →
  (∀ (j : Nat) x v, args[j]? = some x → cargs[j]? = some v → Flat M0 w x v) →
  (FnOK P f ∧ Calls P f cargs w fun e w' => ∃ v X, e = .returned v ∧ X.w = w' ∧ VRel X w.heap.size (.tmp 0) r v ∧ (∀ b, b < w.heap.size → ∀ o, X.M b o ↔ M0 b o) ∧
   Below w.heap.size w w') ∨
  ∃ v X, (callFunc f cargs).run P w = .ok (.value v) X.w ∧ VRel X w.heap.size (.tmp 0) r v ∧ (∀ b, b < w.heap.size → ∀ o, X.M b o ↔ M0 b o) ∧ Below w.heap.size w X.w
def allP : List DV → Bool
 | [] => true
 | d :: ds => d.isP && allP ds
def allPR : List (List DV) → Bool
 | [] => true
 | r :: rs => allP r && allPR rs
def mcx (M0 : Nat → Nat → Prop) (w : World) (blk : Nat) : Cx :=
 {ρ := fun i => if i = 0 then some blk else none
  own := fun g => if g = blk then some (.box 0) else none
  M := M0
  w := w
  ex := fun i => if i = 0 then some blk else none }
def MCall (P : Program) (f : FuncId) (size : Nat) (args : List DV) (rows rows' : List (List DV)) (r : DV) : Prop :=
 FnOK P f ∧ r.plain = true ∧ allPR rows' = true ∧ ∀ (M0 : Nat → Nat → Prop) (w : World) (cargs : Array Value) (blk : Nat) (cs : Array Value) (ty : TypeId), cargs.size = args.length →
  BoxRel (mcx M0 w blk) w.heap.size 0 ⟨true, size, rows, true⟩ blk cs ty →
  (∀ (i : Nat) d v, args[i]? = some d → cargs[i]? = some v → VRel (mcx M0 w blk) w.heap.size (.tmp i) d v) →
  Calls P f cargs w fun e w' => ∃ v X cs' ty', e = .returned v ∧ X.w = w' ∧ VRel X w.heap.size (.tmp 0) r v ∧ BoxRel X w.heap.size 0 ⟨true, size, rows', true⟩ blk cs' ty' ∧
   (∀ b, b < w.heap.size → b ≠ blk → ∀ o, X.M b o ↔ M0 b o) ∧ BelowX (fun i => if i = 0 then some blk else none) w.heap.size w w'
def capsH (ν : Nat → Option Nat) : List CapV → Option (List CapV)
 | [] => some []
 | .p x :: cs => match capsH ν cs with
  | some l => some (.p x :: l)
  | none => none
 | .addr k sz r o :: cs => match ν k, capsH ν cs with
  | some k', some l => some (.addr k' sz r o :: l)
  | _, _ => none
def handD (ν : Nat → Option Nat) : DV → DV
 | .p x => .p x
 | .ow size nl rows => .p (.sl size nl rows)
 | .addr k sz r o => match ν k with
  | some k' => .addr k' sz r o
  | none => .top
 | .bs k sz ag lo n => match ν k with
  | some k' => .bs k' sz ag lo n
  | none => .top
 | .mh k => match ν k with
  | some k' => .mh k'
  | none => .top
 | .fn f caps => match capsH ν caps with
  | some l => .fn f l
  | none => .top
 | .ob T => .ob T
 | _ => .top
def handR (ν : Nat → Option Nat) : List DV → List DV
 | [] => []
 | d :: ds => handD ν d :: handR ν ds
def handRs0 (ν : Nat → Option Nat) : List (List DV) → List (List DV)
 | [] => []
 | r :: rs => handR ν r :: handRs0 ν rs
def handRs (ν : Nat → Option Nat) (rows : List (List DV)) : List (List DV) := bif allPR rows then rows else handRs0 ν rows
def resD (ν : Nat → Option Nat) (r : DV) : DV := if r.plain then r else handD ν r
def capRefs : List CapV → List Nat → List Nat
 | [], l => l
 | .addr k _ _ _ :: cs, l => k :: capRefs cs l
 | _ :: cs, l => capRefs cs l
def refsD : DV → List Nat → List Nat
 | .addr k _ _ _, l | .bs k _ _ _ _, l | .mh k, l => k :: l
 | .fn _ caps, l => capRefs caps l
 | _, l => l
def refsR : List DV → List Nat → List Nat
 | [], l => l
 | d :: ds, l => refsD d (refsR ds l)
def refsRs : List (List DV) → List Nat → List Nat
 | [], l => l
 | r :: rs, l => refsR r (refsRs rs l)
def elemN (k : Nat) : List Nat → Bool
 | [] => false
 | q :: l => if Nat.beq k q then true else elemN k l
def getR : List (Option Box) → Nat → Option Box
 | [], _ => none
 | x :: _, 0 => x
 | _ :: xs, n + 1 => getR xs n
def reachO (b : List (Option Box)) : Nat → List Nat → List Nat → List Nat
 | 0, _, ks => ks
 | _ + 1, [], ks => ks
 | n + 1, k :: ws, ks => if elemN k ks then reachO b n ws ks else match getR b k with
  | some bx => if bx.live then reachO b n (bif allPR bx.rows then ws else refsRs bx.rows ws) (ks ++ [k]) else reachO b n ws ks
  | none => reachO b n ws ks
def numO (k : Nat) : List Nat → Nat → Nat
 | [], i => i
 | q :: ks, i => if Nat.beq q k then i else numO k ks (i + 1)
def nuO (ks : List Nat) (k : Nat) : Option Nat := if elemN k ks then some (numO k ks 0) else none
def sigO : List Nat → Nat → Nat → Nat
 | [], L, i => L + i
 | k :: _, _, 0 => k
 | _ :: ks, L, i + 1 => sigO ks L i
def nuB (ks : List Nat) (L m : Nat) (i : Nat) : Option Nat := if Nat.blt i m then some (sigO ks L i) else none
structure Hand (X : Cx) (bs : List Box) : Prop where
 full : ∀ j g, X.ex j = some g → ∀ o, X.M g o
 boxes : ∀ (i : Nat) bx, bs[i]? = some bx → BX X X.w.heap.size i bx
structure Back (X X' : Cx) (m : Nat) (bs' : List (Option Box)) (r : DV) (v : Value) : Prop where
 ex : X'.ex = X.ex
 val : VRel X' X.w.heap.size (.tmp 0) r v
 boxes : ∀ (i : Nat) bx, bs'[i]? = some (some bx) → bx.live = true ∧ BX X' X.w.heap.size i bx
 rho : ∀ i, i < m → X'.ρ i = X.ρ i
 mem : ∀ b, b < X.w.heap.size → (∀ j, X.ex j ≠ some b) → ∀ o, X'.M b o ↔ X.M b o
 below : BelowX X.ex X.w.heap.size X.w X'.w
def DV.isRef : DV → Bool
 | .addr _ _ _ _ | .bs _ _ _ _ _ | .mh _ => true
 | _ => false
def OCall (P : Program) (f : FuncId) (args : List DV) (bs : List Box) (bs' : List (Option Box)) (r : DV) : Prop :=
 FnOK P f ∧ (r.plain = true ∨ r.isRef = true) ∧ bs.length ≤ bs'.length ∧
 ∀ (X : Cx) (cargs : Array Value), cargs.size = args.length → Hand X bs → (∀ (i : Nat) d v, args[i]? = some d → cargs[i]? = some v → VRel X X.w.heap.size (.tmp i) d v) →
  Calls P f cargs X.w fun e w' => ∃ v X', e = .returned v ∧ X'.w = w' ∧ Back X X' bs.length bs' r v
def rootsO (b : List (Option Box)) : List DV → List Nat
 | [] => []
 | d :: ds => match d.frz b with
  | some _ => rootsO b ds
  | none => refsD d (rootsO b ds)
def ksO (b : List (Option Box)) (xs : List DV) : List Nat := reachO b 4000 (rootsO b xs) []
def DV.isRefF : DV → Bool
 | .addr _ _ _ _ | .bs _ _ _ _ _ | .mh _ | .fn _ _ => true
 | _ => false
def argsO (b : List (Option Box)) (ν : Nat → Option Nat) : List DV → Option (List DV)
 | [] => some []
 | d :: ds => match argsO b ν ds with
  | some xs => match d.frz b with
   | some x => some (.p x :: xs)
   | none => if d.isRefF then some (handD ν d :: xs) else none
  | none => none
def handB (b : List (Option Box)) (ν : Nat → Option Nat) (k : Nat) : Box :=
 match getR b k with
 | some bx => ⟨true, bx.size, handRs ν bx.rows, true⟩
 | none => ⟨true, 1, [], true⟩
def handO (b : List (Option Box)) (ν : Nat → Option Nat) : List Nat → List Box
 | [] => []
 | k :: ks => handB b ν k :: handO b ν ks
def oldB (b : List (Option Box)) (k : Nat) : Bool :=
 match getR b k with
 | some bx => bx.old
 | none => false
def backB (ν : Nat → Option Nat) (old : Bool) : Option Box → Option Box
 | some bx => some ⟨true, bx.size, handRs ν bx.rows, old⟩
 | none => none
def newO (ν : Nat → Option Nat) : List (Option Box) → List (Option Box)
 | [] => []
 | x :: l => backB ν false x :: newO ν l
def backO (ν : Nat → Option Nat) : List Nat → List (Option Box) → List (Option Box) → List (Option Box)
 | [], l, b => b ++ newO ν l
 | k :: ks, x :: l, b => backO ν ks l (setL b k (backB ν (oldB b k) x))
 | _ :: _, [], b => b
def capsD : List CapV → List DV
 | [] => []
 | .p x :: cs => .p x :: capsD cs
 | .addr k sz r o :: cs => .addr k sz r o :: capsD cs
def capsLt (n : Nat) : List CapV → Bool
 | [] => true
 | .addr k _ _ _ :: cs => Nat.blt k n && capsLt n cs
 | _ :: cs => capsLt n cs
def ltDs (n : Nat) : List DV → Bool
 | [] => true
 | .addr k _ _ _ :: l | .bs k _ _ _ _ :: l | .mh k :: l => Nat.blt k n && ltDs n l
 | _ :: l => ltDs n l
def ltD (n : Nat) : DV → Bool
 | .addr k _ _ _ | .bs k _ _ _ _ | .mh k => Nat.blt k n
 | .fn _ caps => capsLt n caps
 | .agd cs => ltDs n (rfDs cs)
 | _ => true
def ltT (n : Nat) : List DV → Bool
 | [] => true
 | d :: ds => ltD n d && ltT n ds
def ltRs0 (n : Nat) : List (List DV) → Bool
 | [] => true
 | r :: rs => ltT n r && ltRs0 n rs
def ltRs (n : Nat) (rows : List (List DV)) : Bool := bif allPR rows then true else ltRs0 n rows
def ltB (n : Nat) : List (Option Box) → Bool
 | [] => true
 | some bx :: l => ltRs n bx.rows && ltB n l
 | none :: l => ltB n l
def kdesc : Option IntKind → TypeDesc
 | some q => .int q
 | none => .string
def keyP : Option IntKind → PV → Bool
 | some q, .int q' _ => decide (q' = q)
 | none, .str _ => true
 | _, _ => false
def sameK : PV → PV → Bool
 | .int _ x, .int _ n => decide (n = x)
 | .str s, .str u => decide (u.data.toList = s.data.toList)
 | _, _ => false
def findX (q : Option IntKind) (x : PV) : List (List DV) → Option (Option DV)
 | [] => some none
 | [.p k, d] :: rs => if keyP q k = true then (if sameK x k = true then some (some d) else findX q x rs) else none
 | _ => none
def updX (q : Option IntKind) (x : PV) (v : DV) : List (List DV) → Option (List (List DV))
 | [] => some [[.p x, v]]
 | [.p k, u] :: rs => if keyP q k = true then (if sameK x k = true then some ([.p k, v] :: rs) else match updX q x v rs with
  | some l => some ([.p k, u] :: l)
  | none => none) else none
 | _ => none
def delX (q : Option IntKind) (x : PV) : List (List DV) → Option (List (List DV))
 | [] => some []
 | [.p k, u] :: rs => if keyP q k = true then (if sameK x k = true then some rs else match delX q x rs with
  | some l => some ([.p k, u] :: l)
  | none => none) else none
 | _ => none
def rfOf : DV → Option RfV
 | .p x => some (.p x)
 | .ow sz nl rows => some (.p (.sl sz nl rows))
 | .addr k sz r o => some (.addr k sz r o)
 | .bs k sz ag lo n => some (.bs k sz ag lo n)
 | .mh k => some (.mh k)
 | _ => none
def rfsOfD : List DV → Option (List RfV)
 | [] => some []
 | d :: ds => match rfOf d, rfsOfD ds with
  | some x, some xs => some (x :: xs)
  | _, _ => none
def findE (q : Option IntKind) (x : PV) : List (List DV) → Option (PV × Int)
 | [.p k, .p v, .p (.int .i64 s)] :: rs => if keyP q k = true then (if sameK x k = true then some (v, s) else findE q x rs) else none
 | _ => none
def setE (s : Int) (d : DV) : List (List DV) → Option (List (List DV))
 | [.p k, u, .p (.int .i64 s')] :: rs => if s' = s then some ([.p k, d, .p (.int .i64 s')] :: rs) else match setE s d rs with
  | some l => some ([.p k, u, .p (.int .i64 s')] :: l)
  | none => none
 | _ => none
def argM (k : Nat) (b : List (Option Box)) : DV → Option DV
 | .bs k' sz ag lo n => if k' = k then some (.bs 0 sz ag lo n) else none
 | .addr k' sz r o => if k' = k then some (.addr 0 sz r o) else none
 | d => match d.frz b with
  | some x => some (.p x)
  | none => none
def argsM (k : Nat) (b : List (Option Box)) : List DV → Option (List DV)
 | [] => some []
 | d :: ds => match argM k b d, argsM k b ds with
  | some x, some xs => some (x :: xs)
  | _, _ => none
def bitsOf (op : BinOp) (k : IntKind) (x y : Int) : Int :=
 let a := BitVec.ofInt k.bits x
 let b := BitVec.ofInt k.bits y
 match op with
 | .and => k.wrap (a &&& b).toNat
 | .or => k.wrap (a ||| b).toNat
 | .xor => k.wrap (a ^^^ b).toNat
 | _ => k.wrap (a &&& ~~~b).toNat
def binPV (op : BinOp) (x y : PV) (K : PV → Prop) : Prop :=
 match x, y with
 | .int k a, .int k' b => match op with
  | .add => k = k' ∧ K (.int k (k.wrap (a + b)))
  | .sub => k = k' ∧ K (.int k (k.wrap (a - b)))
  | .mul => k = k' ∧ K (.int k (k.wrap (a * b)))
  | .quo => k = k' ∧ b ≠ 0 ∧ K (.int k (k.wrap (a.tdiv b)))
  | .rem => k = k' ∧ b ≠ 0 ∧ K (.int k (a.tmod b))
  | .and => k = k' ∧ K (.int k (bitsOf .and k a b))
  | .or => k = k' ∧ K (.int k (bitsOf .or k a b))
  | .xor => k = k' ∧ K (.int k (bitsOf .xor k a b))
  | .andNot => k = k' ∧ K (.int k (bitsOf .andNot k a b))
  | .shl => 0 ≤ b ∧ K (.int k (k.wrap (a * 2 ^ (min b.toNat k.bits))))
  | .shr => 0 ≤ b ∧ K (.int k (a.fdiv (2 ^ (min b.toNat k.bits))))
  | .eql => k = k' ∧ K (.bool (a == b))
  | .neq => k = k' ∧ K (.bool (a != b))
  | .lss => k = k' ∧ K (.bool (decide (a < b)))
  | .leq => k = k' ∧ K (.bool (decide (a ≤ b)))
  | .gtr => k = k' ∧ K (.bool (decide (a > b)))
  | .geq => k = k' ∧ K (.bool (decide (a ≥ b)))
 | .str a, .str b => match op with
  | .eql => K (.bool (a.toList == b.toList))
  | .neq => K (.bool !(a.toList == b.toList))
  | .add => (a.size + b.size ≤ 140737488355328) ∧ K (.str (a ++ b))
  | _ => False
 | _, _ => False
def setsL : List PV → Nat → List PV → List PV
 | l, _, [] => l
 | l, o, c :: cs => setsL (setL l o c) (o + 1) cs
def fillL : List PV → List (Nat × Nat) → List PV → Option (List PV)
 | z, [], [] => some z
 | z, o :: os, x :: xs => if (rowCells x).length = o.2 then fillL (setsL z o.1 (rowCells x)) os xs else none
 | _, _, _ => none
def takeP : List PV → Nat → Nat → List PV
 | _, _, 0 => []
 | [], _, _ => []
 | x :: xs, 0, n + 1 => x :: takeP xs 0 n
 | _ :: xs, o + 1, n + 1 => takeP xs o (n + 1)
def takeD : List DV → Nat → Nat → List DV
 | _, _, 0 => []
 | [], _, _ => []
 | x :: xs, 0, n + 1 => x :: takeD xs 0 n
 | _ :: xs, o + 1, n + 1 => takeD xs o (n + 1)
def storeD : List DV → Nat → List DV → List DV
 | l, _, [] => l
 | l, o, c :: cs => storeD (setL l o c) (o + 1) cs
def copies : List DV → List DV
 | [] => []
 | d :: ds => d.copy :: copies ds
def cellsOfD : DV → Option (List DV)
 | .p x => some ((rowCells x).map .p)
 | .top => none
 | .tup _ => none
 | .ob _ => none
 | .agd cs => some (rfDs cs)
 | d => some [d]
def findM (q : IntKind) (x : Int) : List (List DV) → Option (Option PV)
 | [] => some none
 | [.p (.int q' n), .p v] :: rs => if q' = q then (if n = x then some (some v) else findM q x rs) else none
 | _ => none
def updM (q : IntKind) (x : Int) (v : PV) : List (List DV) → Option (List (List DV))
 | [] => some [[.p (.int q x), .p v]]
 | [.p (.int q' n), .p u] :: rs => if q' = q then (if n = x then some ([.p (.int q' n), .p v] :: rs) else match updM q x v rs with
  | some l => some ([.p (.int q' n), .p u] :: l)
  | none => none) else none
 | _ => none
def loadP (cells : List PV) (off n : Nat) (isAgg : Bool) (K : PV → Prop) : Prop :=
 if isAgg then off + n ≤ cells.length ∧ K (.agg (takeP cells off n))
 else ∃ c, cells[off]? = some c ∧ K c
def sliceLen : DV → Option Nat
 | .p (.sl _ _ rows) => some rows.length
 | .ow _ _ rows => some rows.length
 | .bs _ _ _ _ n => some n
 | _ => none
def TV.dv : TV → DV
 | .p x => .p x
 | .ow size n rows => .ow size n rows
def eqsP : List PV → List PV → Option Bool
 | [], [] => some true
 | .int k a :: xs, .int k' b :: ys => if k = k' then match eqsP xs ys with
  | some r => some ((a == b) && r)
  | none => none
  else none
 | _, _ => none
def opnK (j : Nat) (ag : Bool) (T : Ob) (K0 : PV → Prop) (K : DV → Box → Prop) : Prop :=
 match T with
 | .ptr cells => cells ≠ [] ∧ K (.addr j cells.length 0 0) ⟨true, cells.length, [dvs cells], false⟩
 | .sl size nl rows => size ≠ 0 ∧ (rows = [] → K0 (.sl size nl [])) ∧ (rows ≠ [] → K (.bs j size ag 0 rows.length) ⟨true, size, dvss rows, false⟩)
 | .mp keys vals => K (.mh j) ⟨true, 0, zipR keys vals, false⟩
 | _ => False
def rowsD : List PV → List (List DV)
 | [] => []
 | x :: xs => (rowCells x).map DV.p :: rowsD xs
def copiesR : List (List DV) → List (List DV)
 | [] => []
 | r :: rs => copies r :: copiesR rs
def appRows (b : List (Option Box)) (size : Nat) : DV → Option (List (List DV))
 | .bs k sz _ lo n => match getB b k with
  | some bx => if bx.live = true ∧ sz = size ∧ bx.size = size ∧ lo = 0 ∧ n = bx.rows.length then some (copiesR bx.rows) else none
  | none => none
 | y => match y.frz b with
  | some (.sl sz _ rows) => if sz = size ∨ rows = [] then some (rowsD rows) else none
  | _ => none
def rfsOf : List PV → List RfV
 | [] => []
 | x :: xs => .p x :: rfsOf xs
def setsR : List RfV → Nat → List RfV → List RfV
 | l, _, [] => l
 | l, o, c :: cs => setsR (setL l o c) (o + 1) cs
def partR : DV → Option (List RfV)
 | .p x => some (rfsOf (rowCells x))
 | .ow size nl rows => some [.p (.sl size nl rows)]
 | .addr k sz r o => some [.addr k sz r o]
 | .bs k sz ag lo n => some [.bs k sz ag lo n]
 | .mh k => some [.mh k]
 | _ => none
def fillR : List RfV → List (Nat × Nat) → List DV → Option (List RfV)
 | z, [], [] => some z
 | z, o :: os, x :: xs => match partR x with
  | some cs => if cs.length = o.2 then fillR (setsR z o.1 cs) os xs else none
  | none => none
 | _, _, _ => none
def callO (P : Program) (f : FuncId) (gr : Bool) (xs : List DV) (b : List (Option Box)) (K : DV → List (Option Box) → Prop) : Prop :=
 match argsO b (nuO (ksO b xs)) xs with
 | some args => ∃ bs' r, OCall P f args (handO b (nuO (ksO b xs)) (ksO b xs)) bs' r ∧ (gr = true ∨ bs'.length = (ksO b xs).length) ∧
   K (resD (nuB (ksO b xs) b.length bs'.length) r) (backO (nuB (ksO b xs) b.length bs'.length) (ksO b xs) bs' b)
 | none => False
def semO (P : Program) (κ : KO) (vs : List DV) (b : List (Option Box)) (K : DV → List (Option Box) → Prop) : Prop :=
 match κ, vs with
 | .ldo j ag, [.addr k sz r off] => match getB b k with
  | some bx => sz = bx.size ∧ ∃ row, bx.rows[r]? = some row ∧ ∃ d, row[off]? = some d ∧ match d with
   | .ob T => bx.live = true ∧ j ≠ k ∧ opnK j ag T (fun x => K (.p x) b) fun d' bx' => K d' (setL (setL b k (some { bx with rows := setL bx.rows r (setL row off d') })) j (some bx'))
   | d => K d.copy b
  | none => False
 | .ldo _ _, [.p (.ptr cells off)] => ∃ c, cells[off]? = some c ∧ K (.p c) b
 | .callo f gr, xs => callO P f gr xs b K
 | .callvo gr, fx :: xs => match fx with
  | .fn f caps => callO P f gr (xs ++ capsD caps) b K
  | _ => False
 | .bldo zero offs, xs => match fillR (rfsOf zero) offs xs with
  | some cs => K (.agd cs) b
  | none => False
 | .eqp neq, [x, .p (.atom (.pointer none))] => match x with
  | .addr _ _ _ _ => K (.p (.bool neq)) b
  | .p (.atom (.pointer none)) => K (.p (.bool (!neq))) b
  | .p (.ptr _ _) => K (.p (.bool neq)) b
  | _ => False
 | .appd size bytes ag, [x, y] => match appRows b size y with
  | some new => match x with
   | .p (.sl sz true []) => sz = size ∧ new.length * bytes ≤ 140737488355328 ∧ new.length ≤ maxLen ∧ (new = [] → K (.p (.sl size true [])) b) ∧
     (new ≠ [] → K (.bs b.length size ag 0 new.length) (b ++ [some ⟨true, size, new, false⟩]))
   | .bs k sz _ lo n => match getB b k with
    | some bx => bx.live = true ∧ sz = size ∧ bx.size = size ∧ lo = 0 ∧ n = bx.rows.length ∧ (bx.rows.length + new.length) * bytes ≤ 140737488355328 ∧ bx.rows.length + new.length ≤ maxLen ∧ 
      K (.bs b.length size ag 0 (bx.rows.length + new.length)) (setL b k none ++ [some ⟨true, size, copiesR bx.rows ++ new, false⟩])
    | none => False
   | _ => False
  | none => False
 | .bsld size n ag, xs => size = 1 ∧ xs.length = n ∧ n ≠ 0 ∧ (xs.all DV.isRef) = true ∧ (xs.all (ltD b.length)) = true ∧ K (.bs b.length 1 ag 0 n) (b ++ [some ⟨true, 1, xs.map fun x => [x], false⟩])
 | .slx size, [.bs k sz ag lo n, .p (.int _ h)] => sz = size ∧ lo = 0 ∧ 0 ≤ h ∧ h ≤ n ∧ match getB b k with
  | some bx => sz = bx.size ∧ bx.live = true ∧ h ≤ bx.rows.length ∧ K (.bs k sz ag 0 h.toNat) (setL b k (some { bx with rows := bx.rows.take h.toNat }))
  | none => False
 | .slx size, [.p (.sl sz nl rows), .p (.int _ h)] => (sz = size ∨ rows = []) ∧ 0 ≤ h ∧ h ≤ rows.length ∧ K (.p (.sl sz nl (rows.take h.toNat))) b
 | .lookx q zero ok, [.mh k, .p x] => keyP q x = true ∧ match getM b k with
  | some bx => match findX q x bx.rows with
   | some (some d) => if ok then ∃ v, d = .p v ∧ K (.tup [.p v, .p (.bool true)]) b else K d.copy b
   | some none => K (if ok then .tup [.p zero, .p (.bool false)] else .p zero) b
   | none => False
  | none => False
 | .mupx q, [.mh k, .p x, d] => keyP q x = true ∧ (d.isRef || d.isP) = true ∧ match getM b k with
  | some bx => match updX q x d bx.rows with
   | some rows => K .top (setL b k (some { bx with rows := rows }))
   | none => False
  | none => False
 | .mdel q, [.mh k, .p x] => keyP q x = true ∧ match getM b k with
  | some bx => match delX q x bx.rows with
   | some rows => K .top (setL b k (some { bx with rows := copiesR rows }))
   | none => False
  | none => False
 | .mlen, [.mh k] => match getM b k with
  | some bx => K (.p (.int .i64 bx.rows.length)) b
  | none => False
 | .callr f, xs => callO P f false xs b fun v b' => b' = b ∧ K v b
 | .mpe q, [.mh k, .p x] => keyP q x = true ∧ match getM b k with
  | some bx => match findE q x bx.rows with
   | some (v, s) => K (.tup [.p v, .p (.int .i64 s)]) b
   | none => False
  | none => False
 | .lda n, [.addr k sz r off] => match getB b k with
  | some bx => sz = bx.size ∧ ∃ row, bx.rows[r]? = some row ∧ off + n ≤ row.length ∧ match rfsOfD (takeD row off n) with
   | some cs => K (.agd cs) b
   | none => False
  | none => False
 | .ents, [.mh k, .p (.int .i64 s), d] => (d.isRef || d.isP) = true ∧ match getM b k with
  | some bx => match setE s d bx.rows with
   | some rows => K .top (setL b k (some { bx with rows := rows }))
   | none => False
  | none => False
 | _, _ => False
def semI (P : Program) (κ : Kd) (vs : List DV) (b : List (Option Box)) (K : DV → List (Option Box) → Prop) : Prop :=
 match κ, vs with
 | .mov take, [x] => K (if take then x else x.copy) b
 | .pick, [.p (.bool c), x, y] => (c = true → K x.copy b) ∧ (c = false → K y.copy b)
 | .box k size, [x] => match cellsOfD x with
  | some cs => cs.length = size ∧ x.ment k = false ∧ K (.addr k size 0 0) (setL b k (some ⟨true, size, [copies cs], false⟩))
  | none => False
 | .alloc k size zero, [] => zero.length = size ∧ K (.addr k size 0 0) (setL b k (some ⟨true, size, [zero], false⟩))
 | .build zero offs, xs => match pvsOf xs with
  | some ps => match fillL zero offs ps with
   | some cs => K (.p (.agg cs)) b
   | none => False
  | none => False
 | .bsl size n, xs => match pvsOf xs with
  | some rows => rows.length = n ∧ (∀ r, r ∈ rows → (rowCells r).length = size) ∧ K (.ow size false rows) b
  | none => False
 | .load n isAgg take, [.addr k sz r off] => match getB b k with
  | some bx => sz = bx.size ∧ ∃ row, bx.rows[r]? = some row ∧ off + n ≤ row.length ∧
    if isAgg then match pvsOf (takeD row off n) with
     | some cs => K (.p (.agg cs)) b
     | none => False
    else ∃ d, row[off]? = some d ∧ K (if take then d else d.copy) (if take then setL b k (some { bx with rows := setL bx.rows r (setL row off d.copy) }) else b)
  | none => False
 | .load n isAgg _, [.p (.ptr cells off)] => loadP cells off n isAgg fun x => K (.p x) b
 | .loadp n isAgg, [.p (.ptr cells off)] => loadP cells off n isAgg fun x => K (.p x) b
 | .store n, [.addr k sz r off, v] => match getB b k, cellsOfD v with
  | some bx, some cs => sz = bx.size ∧ bx.live = true ∧ cs.length = n ∧ ∃ row, bx.rows[r]? = some row ∧ off + n ≤ row.length ∧
    K .top (setL b k (some { bx with rows := setL bx.rows r (storeD row off cs) }))
  | _, _ => False
 | .bin op, [.p x, .p y] => binPV op x y fun z => K (.p z) b
 | .eqnil neq, [x, .ow _ true []] => match x with
  | .p (.sl _ n _) => K (.p (.bool (if neq then !n else n))) b
  | .ow _ n _ => K (.p (.bool (if neq then !n else n))) b
  | _ => False
 | .un op, [.p (.bool x)] => match op with
  | .not => K (.p (.bool !x)) b
  | _ => False
 | .un op, [.p (.int k x)] => match op with
  | .neg => K (.p (.int k (k.wrap (0 - x)))) b
  | _ => False
 | .conv k, [.p (.int _ n)] => K (.p (.int k (k.wrap n))) b
 | .fad off, [.addr k size r o] => K (.addr k size r (o + off)) b
 | .fad off, [.p (.ptr cells o)] => K (.p (.ptr cells (o + off))) b
 | .fld off n isAgg, [.p (.agg cs)] => loadP cs off n isAgg fun x => K (.p x) b
 | .iad size, [x, .p (.int _ i)] => match x with
  | .p (.sl sz _ rows) => sz = size ∧ 0 ≤ i ∧ ∃ row, rows[i.toNat]? = some row ∧ K (.p (.ptr (rowCells row) 0)) b
  | .ow sz _ rows => sz = size ∧ 0 ≤ i ∧ ∃ row, rows[i.toNat]? = some row ∧ K (.p (.ptr (rowCells row) 0)) b
  | .bs k sz _ lo n => sz = size ∧ 0 ≤ i ∧ i < n ∧ K (.addr k sz (lo + i.toNat) 0) b
  | _ => False
 | .sidx, [.p (.str s), .p (.int _ i)] => 0 ≤ i ∧ ∃ c, s.data.toList[i.toNat]? = some c ∧ K (.p (.int .u8 c.toNat)) b
 | .len, [x] => match sliceLen x with
  | some n => n ≤ maxLen → K (.p (.int .i64 n)) b
  | none => False
 | .lenD, [x] => match sliceLen x with
  | some n => K (.p (.int .i64 n)) b
  | none => False
 | .slen, [.p (.str z)] => K (.p (.int .i64 z.size)) b
 | .app size bytes, [.ow sz nl rows, y] => match y.frz b with
  | some (.sl sz2 _ rows2) => (sz = size ∨ (nl = true ∧ rows = [])) ∧ (sz2 = size ∨ rows2 = []) ∧ (rows.length + rows2.length) * bytes ≤ 140737488355328 ∧
    rows.length + rows2.length ≤ maxLen ∧ K (.ow size (nl && rows2.isEmpty) (rows ++ rows2)) b
  | _ => False
 | .app size bytes, [.p (.sl sz true []), y] => match y.frz b with
  | some (.sl sz2 _ rows2) => sz = size ∧ (sz2 = size ∨ rows2 = []) ∧ rows2.length * bytes ≤ 140737488355328 ∧ rows2.length ≤ maxLen ∧ K (.ow size rows2.isEmpty rows2) b
  | _ => False
 | .ext j, [.tup ds] => match ds[j]? with
  | some d => K d.dv b
  | none => False
 | .extp j, [.tup ds] => match ds[j]? with
  | some d => K d.dv.copy b
  | none => False
 | .call f, xs => match frzs b xs with
  | some args => ∃ r, PureCall P f args r ∧ K r b
  | none => False
 | .callv, fx :: xs => match fx.frz b, frzs b xs with
  | some (.fn f caps), some args => ∃ r, PureCall P f (args ++ caps) r ∧ K r b
  | _, _ => False
 | .mkfn f, xs => match frzs b xs with
  | some caps => K (.p (.fn f caps)) b
  | none => False
 | .mksl k size bytes isAgg zero, [.p (.int _ n), .p (.int _ m)] => n = m ∧ 0 ≤ n ∧ n * bytes ≤ 140737488355328 ∧ n ≤ maxLen ∧ zero.length = size ∧
   K (.bs k size isAgg 0 n.toNat) (setL b k (some ⟨true, size, List.replicate n.toNat zero, false⟩))
 | .slc size lo hi, x :: ys => match x with
  | .p (.sl sz nl rows) => (sz = size ∨ rows = []) ∧ match lo, hi, ys with
   | true, true, [.p (.int _ l), .p (.int _ h)] => 0 ≤ l ∧ l ≤ h ∧ h ≤ rows.length ∧ K (.p (.sl sz nl ((rows.take h.toNat).drop l.toNat))) b
   | true, false, [.p (.int _ l)] => 0 ≤ l ∧ l ≤ rows.length ∧ K (.p (.sl sz nl (rows.drop l.toNat))) b
   | false, true, [.p (.int _ h)] => 0 ≤ h ∧ h ≤ rows.length ∧ K (.p (.sl sz nl (rows.take h.toNat))) b
   | _, _, _ => False
  | _ => False
 | .ssl lo hi, .p (.str z) :: ys => match lo, hi, ys with
  | true, true, [.p (.int _ l), .p (.int _ h)] => 0 ≤ l ∧ l ≤ h ∧ h ≤ z.size ∧ K (.p (.str (z.extract l.toNat h.toNat))) b
  | true, false, [.p (.int _ l)] => 0 ≤ l ∧ l ≤ z.size ∧ K (.p (.str (z.extract l.toNat z.size))) b
  | false, true, [.p (.int _ h)] => 0 ≤ h ∧ h ≤ z.size ∧ K (.p (.str (z.extract 0 h.toNat))) b
  | _, _, _ => False
 | .slb k size, [.bs k' sz ag lo n, .p (.int _ h)] => k' = k ∧ sz = size ∧ lo = 0 ∧ 0 ≤ h ∧ h ≤ n ∧ match getB b k with
  | some bx => h ≤ bx.rows.length ∧ K (.bs k sz ag 0 h.toNat) (setL b k (some { bx with rows := bx.rows.take h.toNat }))
  | none => False
 | .callm f k, xs => match getB b k, argsM k b xs with
  | some bx, some args => bx.live = true ∧ allPR bx.rows = true ∧ ∃ rows' r, MCall P f bx.size args bx.rows rows' r ∧ K r (setL b k (some { bx with rows := rows' }))
  | _, _ => False
 | .mkmap k, [] => K (.mh k) (setL b k (some ⟨true, 0, [], false⟩))
 | .look q zero, [.mh k, .p (.int q' x)] => q' = q ∧ match getM b k with
  | some bx => match findM q x bx.rows with
   | some (some v) => K (.p v) b
   | some none => K (.p zero) b
   | none => False
  | none => False
 | .mupd q, [.mh k, .p (.int q' x), .p v] => q' = q ∧ v.one = true ∧ match getM b k with
  | some bx => match updM q x v bx.rows with
   | some rows => K .top (setL b k (some { bx with rows := rows }))
   | none => False
  | none => False
 | .eqat neq, [.p (.atom .nilIface), .p (.atom .nilIface)] => K (.p (.bool (!neq))) b
 | .eqs n neq, [.p (.agg xs), .p (.agg ys)] => xs.length = n ∧ match eqsP xs ys with
  | some r => K (.p (.bool (if neq then !r else r))) b
  | none => False
 | .eqb neq, [.p (.bool x), .p (.bool y)] => K (.p (.bool (if neq then !(x == y) else x == y))) b
 | .mkz size bytes row, [.p (.int _ n), .p (.int _ m)] => n = m ∧ 0 ≤ n ∧ n * bytes ≤ 140737488355328 ∧ n ≤ maxLen ∧ (rowCells row).length = size ∧
   K (.ow size false (List.replicate n.toNat row)) b
 | .s2b, [.p (.str z)] => z.size ≤ maxLen ∧ K (.p (.sl 1 false (z.data.toList.map fun c => .int .u8 c.toNat))) b
 | .nilchk, [x] => match x with
  | .addr _ _ _ _ => K x b
  | .p (.ptr _ _) => K x b
  | .p (.fn _ _) => K x b
  | _ => False
 | .mn, [.p (.int k x), .p (.int k' y)] => k = k' ∧ K (.p (.int k (if y < x then y else x))) b
 | .mx, [.p (.int k x), .p (.int k' y)] => k = k' ∧ K (.p (.int k (if y > x then y else x))) b
 | .ob κ, vs => semO P κ vs b K
 | _, _ => False
def semJ (P : Program) (κ : Kd) (vs : List DV) (b : List (Option Box)) (K : DV → List (Option Box) → Prop) : Prop :=
 match κ with
 | .at k κ' => match vs with
  | .addr k' _ _ _ :: _ => k' = k ∧ semI P κ' vs b K
  | _ => False
 | .pl κ' => (pvsOf vs).isSome = true ∧ semI P κ' vs b K
 | κ' => semI P κ' vs b K
def Kd.core : Kd → Kd
 | .at _ κ => κ
 | .pl κ => κ
 | κ => κ
def degr : Kd → List O → List DV → List DV
 | .mov true, [.t n], t => setL t n (getT t n).copy
 | .app _ _, .t n :: _, t => setL t n (getT t n).copy
 | .store _, [_, .t n], t => setL t n (getT t n).copy
 | .ext j, [.t n], t => match getT t n with
  | .tup ds => match ds[j]? with
   | some d => setL t n (.tup (setL ds j d.copy))
   | none => t
  | _ => t
 | _, _, t => t
def putD (t : List DV) (d : Option Nat) (v : DV) : List DV :=
 match d with
 | some i => setL t i v
 | none => t
def noRefT (k : Nat) : List DV → Bool
 | [] => true
 | d :: ds => !d.ment k && noRefT k ds
def noRefR (k : Nat) : List (List DV) → Bool
 | [] => true
 | r :: rs => noRefT k r && noRefR k rs
def noRefB (k : Nat) : Nat → List (Option Box) → Bool
 | _, [] => true
 | i, x :: xs => (i == k || match x with | some bx => noRefR k bx.rows | none => true) && noRefB k (i + 1) xs
def newBox : Kd → Option Nat
 | .box k _ | .alloc k _ _ | .mksl k _ _ _ _ | .mkmap k | .ob (.ldo k _) => some k
 | _ => none
def growB : Kd → Bool
 | .ob (.callo _ true) | .ob (.callvo true) | .ob (.appd _ _ _) | .ob (.bsld _ _ _) => true
 | _ => false
def fresh (i : Ins) (s : St) : Prop :=
 match newBox i.k with
 | some k => k < s.b.length ∧ noRefT k (putD s.t i.d .top) = true ∧ noRefB k 0 s.b = true
 | none => bif growB i.k then (ltT s.b.length (putD s.t i.d .top) && ltB s.b.length s.b) = true else True
def exec (P : Program) (i : Ins) (s : St) (K : St → Prop) : Prop :=
 fresh i s ∧ semJ P i.k (i.xs.map (O.val s.t)) s.b fun v b' => K ⟨putD (degr i.k.core i.xs s.t) i.d v, b'⟩
def execG (P : Program) (i : Ins) (s : St) (K : St → Prop) : Prop :=
 match i.g with
 | none => exec P i s K
 | some (j, want) => match getT s.t j with
  | .p (.bool c) => (c = want → exec P i ⟨setL s.t j (.p (.bool want)), s.b⟩ K) ∧ (c = (!want) → K ⟨putD (setL s.t j (.p (.bool (!want)))) i.d (.tup []), s.b⟩)
  | .tup [] => K ⟨putD s.t i.d (.tup []), s.b⟩
  | _ => False
def execs (P : Program) : List Ins → St → (St → Prop) → Prop
 | [], s, K => K s
 | i :: is, s, K => execG P i s fun s' => execs P is s' K
end Go.Proofs.YtoepoghmeajocaaGreatDoor.Vc
namespace Go.Proofs.YtoepoghmeajocaaGreatDoor.Vc
open Go.RowKit
variable {P : Program}
def Post (G : Gl) (K : St → Prop) (a : Act) (w : World) : Prop := ∃ s X, Rel G X s a ∧ X.w = w ∧ K s
theorem Rel.get {G : Gl} {X : Cx} {s : St} {a : Act} (h : Rel G X s a) (n : Nat) : VRel X G.base (.tmp n) (getT s.t n) (a.tmps.getD n undef) := by
 rw [getT_eq]
 cases hn : s.t[n]? with
 | none => trivial
 | some d => exact h.tmps n d hn
theorem put_tmps (a : Act) (d : Option Nat) (u : Value) (i : Nat) : (a.put d u).tmps.getD i undef = if d = some i ∧ i < a.tmps.size then u else a.tmps.getD i undef := by
 cases d with
 | none => simp [Act.put]
 | some j =>
  simp only [Act.put, Option.some.injEq]
  by_cases hij : j = i
  ·subst hij
   by_cases hlt : j < a.tmps.size
   ·simp [Array.getD, hlt]
   ·simp [Array.getD, hlt]
  ·by_cases hlt : i < a.tmps.size
   ·simp [Array.getD, hlt, hij]
   ·simp [Array.getD, hlt]
theorem put_size (a : Act) (d : Option Nat) (u : Value) : (a.put d u).tmps.size = a.tmps.size := by cases d <;> simp [Act.put]
theorem put_defers (a : Act) (d : Option Nat) (u : Value) : (a.put d u).defers = a.defers := by cases d <;> simp [Act.put]
theorem putD_length (t : List DV) (d : Option Nat) (v : DV) : (putD t d v).length = t.length := by cases d <;> simp [putD, setL_length]
theorem putD_get (t : List DV) (d : Option Nat) (v : DV) (i : Nat) : (putD t d v)[i]? = if d = some i then t[i]?.map (fun _ => v) else t[i]? := by
 cases d with
 | none => simp [putD]
 | some j => simp only [putD, getElem?_setL, Option.some.injEq]; by_cases h : i = j <;> simp [h, eq_comm]
theorem Rel.put {G : Gl} {X : Cx} {s : St} {a : Act} (h : Rel G X s a) {d : Option Nat} {v : DV} {u : Value} (hv : ∀ j, d = some j → VRel X G.base (.tmp j) v u) :
  Rel G X ⟨putD s.t d v, s.b⟩ (a.put d u) := by
 refine ⟨by rw [put_defers]; exact h.defers, by rw [put_size]; simp [putD_length, h.size], ?_, h.boxes, h.below, h.hb, h.mold⟩
 intro i e he
 simp only [putD_get] at he
 rw [put_tmps]
 by_cases hd : d = some i
 ·rw [if_pos hd] at he
  cases ht : s.t[i]? with
  | none => rw [ht] at he; simp at he
  | some e0 =>
   rw [ht] at he
   simp at he
   subst he
   have hlt : i < s.t.length := (List.getElem?_eq_some_iff.1 ht).1
   rw [if_pos ⟨hd, by rw [h.size]; exact hlt⟩]
   exact hv i hd
 ·rw [if_neg hd] at he
  rw [if_neg (fun hh => hd hh.1)]
  exact h.tmps i e he
theorem Rel.weak {G : Gl} {X : Cx} {s : St} {a : Act} (h : Rel G X s a) (n : Nat) (v : DV) (hv : VRel X G.base (.tmp n) v (a.tmps.getD n undef)) : Rel G X ⟨setL s.t n v, s.b⟩ a := by
 refine ⟨h.defers, by simp [setL_length, h.size], ?_, h.boxes, h.below, h.hb, h.mold⟩
 intro i e he
 rw [getElem?_setL] at he
 by_cases hi : i = n
 ·subst hi
  rw [if_pos rfl] at he
  cases ht : s.t[i]? with
  | none => rw [ht] at he; simp at he
  | some e0 => rw [ht] at he; simp at he; subst he; exact hv
 ·rw [if_neg hi] at he
  exact h.tmps i e he
inductive OT : Operand → O → Prop
 | tmp (n : Nat) : OT (.tmp n) (.t n)
 | int (k : IntKind) (n : Int) : OT (.const (.int k n)) (.c (.p (.int k n)))
 | bool (b : Bool) : OT (.const (.bool b)) (.c (.p (.bool b)))
 | str (s : ByteArray) : OT (.const (.string s)) (.c (.p (.str s)))
 | nil (n : Nat) : OT (.const (.slice none 0 0)) (.c (.ow n true []))
 | nilp (n : Nat) : OT (.const (.slice none 0 0)) (.c (.p (.sl n true [])))
 | func (f : FuncId) : OT (.func f) (.c (.p (.fn f [])))
 | atom (v : Value) (h : v.oneCell' = true) : OT (.const v) (.c (.p (.atom v)))
 | any (x : Operand) : OT x (.c .top)
theorem VRel.const {X : Cx} {base : Nat} {L : Loc} {a : Act} {t : List DV} {x : Operand} {o : O} (h : OT x o) (hn : ∀ n, o ≠ .t n) : VRel X base L (o.val t) (a.eval x) := by
 cases h with
 | tmp n => exact absurd rfl (hn n)
 | int k n => exact Flat.int k n
 | bool b => exact Flat.bool b
 | str s => exact Flat.str s
 | nil n => exact .inl ⟨rfl, .inl ⟨rfl, rfl⟩⟩
 | nilp n => exact Flat.nilsl n
 | func f => exact Flat.fn f [] #[] rfl (fun i c v h => by simp at h)
 | atom v h => exact Flat.atom v h
 | any x => trivial
theorem Rel.opnd {G : Gl} {X : Cx} {s : St} {a : Act} (h : Rel G X s a) {x : Operand} {o : O} (ho : OT x o) : ∃ L, VRel X G.base L (o.val s.t) (a.eval x) := by
 cases ho with
 | tmp n => exact ⟨.tmp n, h.get n⟩
 | _ => exact ⟨.tmp 0, VRel.const (by first | exact .int _ _ | exact .bool _ | exact .str _ | exact .nil _ | exact .nilp _ | exact .func _ | exact .any _ | (exact .atom _ (by assumption))) (by intro n hn; cases hn)⟩
theorem wp_value {G : Gl} {X : Cx} {s : St} {a : Act} {o : Oper} {K : St → Prop} {Q : Exit → Act → World → Prop} {v : DV} {u : Value}
  (h : Rel G X s a) (hrun : (execOp a.eval o).run P X.w = .ok (.value u) X.w) (hv : ∀ j, o.dst = some j → VRel X G.base (.tmp j) v u)
  (hK : K ⟨putD s.t o.dst v, s.b⟩) : o.wp P a X.w (Post G K) Q := by
 unfold Oper.wp
 rw [hrun, Oper.upon_value]
 exact ⟨_, X, h.put hv, rfl, hK⟩
theorem wp_pv {G : Gl} {X : Cx} {s : St} {a : Act} {o : Oper} {K : St → Prop} {Q : Exit → Act → World → Prop} {z : PV} {u : Value}
  (h : Rel G X s a) (hrun : (execOp a.eval o).run P X.w = .ok (.value u) X.w) (hv : Flat X.M X.w z u)
  (hK : K ⟨putD s.t o.dst (.p z), s.b⟩) : o.wp P a X.w (Post G K) Q := wp_value (v := .p z) h hrun (fun _ _ => hv) hK
theorem pv_of {X : Cx} {base : Nat} {L : Loc} {d : DV} {x : PV} {v : Value} (h : VRel X base L d v) (hx : pvOf d = some x) : Flat X.M X.w x v := by
 cases d <;> simp [pvOf] at hx
 ·subst hx; exact h
 ·subst hx; exact OwRel.flat h
theorem Flat.intv {M : Nat → Nat → Prop} {w : World} {k : IntKind} {n : Int} {v : Value} (h : Flat M w (.int k n) v) : v = .int k n := by cases h; rfl
theorem Flat.boolv {M : Nat → Nat → Prop} {w : World} {b : Bool} {v : Value} (h : Flat M w (.bool b) v) : v = .bool b := by cases h; rfl
theorem Flat.strv {M : Nat → Nat → Prop} {w : World} {s : ByteArray} {v : Value} (h : Flat M w (.str s) v) : v = .string s := by cases h; rfl
theorem run_binPV {G : Gl} {X : Cx} {s : St} {a : Act} {Q : Exit → Act → World → Prop} {o : Oper} {K : St → Prop} (h : Rel G X s a) (op : BinOp) (t t' : TypeId) (x y : Operand) (ho : o.op = .binOp op t x y t')
  {p q : PV} (hx : Flat X.M X.w p (a.eval x)) (hy : Flat X.M X.w q (a.eval y)) (hK : binPV op p q fun z => K ⟨putD s.t o.dst (.p z), s.b⟩) : o.wp P a X.w (Post G K) Q := by
 cases p <;> cases q <;> simp only [binPV] at hK <;> try exact hK.elim
 case int.int k m k' n =>
  have ex := hx.intv
  have ey := hy.intv
  cases op <;> simp only at hK
  case quo | rem =>
   obtain ⟨rfl, hn, hK⟩ := hK
   refine wp_pv (z := .int _ _) h ?_ (Flat.int _ _) hK
   simp [execOp, ho, ex, ey, binOp, Op.intDiv, hn, eqGuard]
  case shl | shr =>
   obtain ⟨hn, hK⟩ := hK
   refine wp_pv (z := .int _ _) h ?_ (Flat.int _ _) hK
   simp [execOp, ho, ex, ey, binOp, Op.shift, Int.not_lt.2 hn, eqGuard]
  all_goals
   obtain ⟨rfl, hK⟩ := hK
   first | refine wp_pv (z := .int _ _) h ?_ (Flat.int _ _) hK | refine wp_pv (z := .bool _) h ?_ (Flat.bool _) hK
   simp [execOp, ho, ex, ey, binOp, Op.intArith, Op.intCmp, Op.intBits, bitsOf, eqGuard]
 case str.str m n =>
  have ex := hx.strv
  have ey := hy.strv
  cases op <;> simp only at hK <;> try exact hK.elim
  case add =>
   obtain ⟨hn, hK⟩ := hK
   refine wp_pv (z := .str _) h ?_ (Flat.str _) hK
   have hn' : ¬ ((m.size + n.size : Nat) : Int) > IntKind.i64.max := by
    have : IntKind.i64.max = 9223372036854775807 := by decide
    rw [this]; omega
   simp only [execOp, ho, ex, ey, binOp, Op.stringOp, eqGuard, if_neg hn']
   simp
  all_goals
   refine wp_pv (z := .bool _) h ?_ (Flat.bool _) hK
   simp [execOp, ho, ex, ey, binOp, Op.stringOp, eqGuard]
end Go.Proofs.YtoepoghmeajocaaGreatDoor.Vc
