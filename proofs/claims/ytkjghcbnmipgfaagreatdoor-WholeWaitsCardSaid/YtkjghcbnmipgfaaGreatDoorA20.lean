/- Part of a proof over a Go program: En. No condition. -/
import Derived.Test.YtkjghcbnmipgfaaGreatDoorA01
import Derived.ProofKit
set_option linter.unusedSectionVars false
set_option linter.unusedSimpArgs false
set_option linter.unusedVariables false
namespace Go.Proofs.YtkjghcbnmipgfaaGreatDoor.Vc
open Go.RowKit
variable {P : Program}
abbrev M0 : Nat → Nat → Prop := fun _ _ => False
/-- One value, or a struct. -/
def isS (P : Program) (t : TypeId) : Bool := match P.underlying t with
  | some (.struct _) => true
  | _ => false
def mkRow (ag : Bool) (cs : List PV) : PV := if ag then .agg cs else cs.headD (.bool false)
/-- The data of a type's cells. -/
def RdT (P : Program) : Nat → TypeId → List PV → Prop
  | 0, _, _ => False
  | n + 1, t, cs => match P.underlying t with
    | some (.int k) => ∃ m, cs = [.int k m]
    | some .bool => ∃ b, cs = [.bool b]
    | some (.slice e) => ∃ nl rows, cs = [.sl (P.cellsOf e) nl rows] ∧ (nl = true → rows = []) ∧ ∀ row, row ∈ rows → ∃ rcs, RdT P n e rcs ∧ row = mkRow (isS P e) rcs
    | some (.struct fs) => RdF (RdT P n) fs.toList cs
    | _ => False
where
  RdF (r : TypeId → List PV → Prop) : List Field → List PV → Prop
  | [], cs => cs = []
  | f :: fs, cs => ∃ a b, cs = a ++ b ∧ r f.type a ∧ RdF r fs b
/-- Fields one behind the other. -/
def flds (P : Program) (r : TypeId → Bool) : List Field → Nat → Nat → Bool
  | [], off, tot => off == tot
  | f :: fs, off, tot => f.offset == off && (r f.type && flds P r fs (off + P.cellsOf f.type) tot)
def okT (P : Program) : Nat → TypeId → Bool
  | 0, _ => false
  | n + 1, t => match P.underlying t with
    | some (.int _) | some .bool => P.cellsOf t == 1
    | some (.slice e) => P.cellsOf t == 1 && (P.cellsOf e != 0 && okT P n e)
    | some (.struct fs) => flds P (okT P n) fs.toList 0 (P.cellsOf t)
    | _ => false
theorem mapM_get {α β : Type} {f : α → Option β} : ∀ {l : List α} {r : List β}, l.mapM f = some r → r.length = l.length ∧ ∀ (i : Nat) a, l[i]? = some a → ∃ b, f a = some b ∧ r[i]? = some b := by
  intro l
  induction l with
  | nil => intro r h; simp at h; subst h; exact ⟨rfl, fun i a h => by simp at h⟩
  | cons x xs ih =>
    intro r h
    rw [List.mapM_cons] at h
    simp only [bind, Option.bind_eq_some_iff, pure, Option.some.injEq] at h
    obtain ⟨b, h1, bs, h2, rfl⟩ := h
    obtain ⟨h3, h4⟩ := ih h2
    refine ⟨by simp [h3], fun i a ha => ?_⟩
    cases i with
    | zero => cases ha; exact ⟨b, h1, rfl⟩
    | succ i => exact h4 i a ha
theorem pick {α : Type} [Inhabited α] {n : Nat} {p : Nat → α → Prop} (h : ∀ i, i < n → ∃ a, p i a) : ∃ f : Nat → α, ∀ i, i < n → p i (f i) := by
  classical
  refine ⟨fun i => if hi : i < n then Classical.choose (h i hi) else default, fun i hi => ?_⟩
  simp only [hi, dif_pos]
  exact Classical.choose_spec (h i hi)
/-- The cells hold the data. -/
def Cells (w : World) (pvs : List PV) (cs : List Value) : Prop := pvs.length = cs.length ∧ ∀ (i : Nat) x v, pvs[i]? = some x → cs[i]? = some v → Flat M0 w x v ∧ x.one = true
theorem cells_append {w : World} {a b : List PV} {c d : List Value} (h1 : Cells w a c) (h2 : Cells w b d) : Cells w (a ++ b) (c ++ d) := by
  refine ⟨by simp [h1.1, h2.1], fun i x v hx hv => ?_⟩
  by_cases hi : i < a.length
  · rw [List.getElem?_append_left hi] at hx
    rw [List.getElem?_append_left (by rw [← h1.1]; exact hi)] at hv
    exact h1.2 i x v hx hv
  · rw [List.getElem?_append_right (by omega)] at hx
    rw [List.getElem?_append_right (by rw [← h1.1]; omega), ← h1.1] at hv
    exact h2.2 _ x v hx hv
theorem row_cells {n : Nat} {e : TypeId} {rcs : List PV} (h : RdT P n e rcs) (h1 : ∀ x, x ∈ rcs → x.one = true) : rowCells (mkRow (isS P e) rcs) = rcs := by
  cases n with
  | zero => exact h.elim
  | succ n =>
    unfold RdT at h
    unfold isS
    split at h
    · rename_i hu; obtain ⟨m, rfl⟩ := h; simp [hu, mkRow, rowCells]
    · rename_i hu; obtain ⟨m, rfl⟩ := h; simp [hu, mkRow, rowCells]
    · rename_i hu; obtain ⟨nl, rows, rfl, _⟩ := h; simp [hu, mkRow, rowCells]
    · rename_i hu; simp [hu, mkRow, rowCells]
    · exact h.elim
section
variable {H : Type} {enc : TypeId × Value → H} {w : World} {sp : Nat → Bool} {hd : Bool}
theorem cellsAt {a : Addr} {n : Nat} {l : List Value} (h : w.cells? 0 a n = some l) : l.length = n ∧ ∀ (i : Nat) v, l[i]? = some v → w.cell? (a.add i) = some v := by
  unfold World.cells? at h
  rw [if_pos (Nat.zero_le _)] at h
  obtain ⟨h1, h2⟩ := mapM_get h
  rw [List.length_range] at h1
  refine ⟨h1, fun i v hv => ?_⟩
  have hi : i < n := by rw [← h1]; exact (List.getElem?_eq_some_iff.1 hv).1
  obtain ⟨b, hb, hbi⟩ := h2 i i (by simp [hi])
  rw [hbi] at hv
  injection hv with hv
  rw [← hv]; exact hb
theorem rd_fields {m : Nat} {r : TypeId → List PV → Prop} {ok : TypeId → Bool} (ih : ∀ t cs x, ok t = true → DataW.trod enc P w 0 sp hd m t cs = some x → cs.length = P.cellsOf t → ∃ pvs, Cells w pvs cs ∧ r t pvs) :
    ∀ (fs : List Field) (off : Nat) (cs : List Value) (tot : Nat) (xs : List (DataW H × List MemPlace)), flds P ok fs off tot = true → cs.length = tot → off ≤ tot →
    (fs.mapM fun f => DataW.trod enc P w 0 sp hd m f.type ((cs.drop f.offset).take (P.cellsOf f.type))) = some xs → ∃ pvs, Cells w pvs (cs.drop off) ∧ RdT.RdF r fs pvs
  | [], off, cs, tot, xs, hf, hl, ho, h => by
    simp only [flds, beq_iff_eq] at hf
    refine ⟨[], ⟨by simp; omega, fun i x v hx => by simp at hx⟩, rfl⟩
  | f :: fs, off, cs, tot, xs, hf, hl, ho, h => by
    simp only [flds, Bool.and_eq_true, beq_iff_eq] at hf
    obtain ⟨e1, e2, e3⟩ := hf
    rw [List.mapM_cons] at h
    simp only [bind, Option.bind_eq_some_iff, pure, Option.some.injEq] at h
    obtain ⟨y, h1, ys, h2, rfl⟩ := h
    have hle : off + P.cellsOf f.type ≤ tot := by
      have : ∀ (fs : List Field) (a b : Nat), flds P ok fs a b = true → a ≤ b := by
        intro fs
        induction fs with
        | nil => intro a b h; simp only [flds, beq_iff_eq] at h; omega
        | cons g gs ihg =>
          intro a b h
          simp only [flds, Bool.and_eq_true, beq_iff_eq] at h
          have := ihg _ _ h.2.2
          omega
      exact this _ _ _ e3
    rw [e1] at h1
    obtain ⟨p1, c1, r1⟩ := ih f.type _ _ e2 h1 (by simp; omega)
    obtain ⟨p2, c2, r2⟩ := rd_fields ih fs _ cs tot ys e3 hl hle h2
    refine ⟨p1 ++ p2, ?_, p1, p2, rfl, r1, r2⟩
    have : cs.drop off = (cs.drop off).take (P.cellsOf f.type) ++ cs.drop (off + P.cellsOf f.type) := by
      rw [← List.drop_drop, List.take_append_drop]
    rw [this]
    exact cells_append c1 c2
theorem rd : ∀ (m n : Nat) (t : TypeId) (cs : List Value) (x : DataW H × List MemPlace), okT P n t = true → DataW.trod enc P w 0 sp hd m t cs = some x → (∀ b, sp b = true) → cs.length = P.cellsOf t →
    ∃ pvs, Cells w pvs cs ∧ RdT P n t pvs := by
  intro m
  induction m with
  | zero => intro n t cs x _ h; simp [DataW.trod] at h
  | succ m ih =>
    intro n t cs x hok h hsp hlen
    cases n with
    | zero => simp [okT] at hok
    | succ n =>
      unfold okT at hok
      unfold RdT
      have one : ∀ {y : PV} {v : Value}, Flat M0 w y v → y.one = true → Cells w [y] [v] := by
        intro y v hf h1
        refine ⟨rfl, fun i a b ha hb => ?_⟩
        cases i with
        | zero => cases ha; cases hb; exact ⟨hf, h1⟩
        | succ i => simp at ha
      split at hok
      · rename_i k hu
        have hl : cs.length = 1 := by rw [hlen]; simpa using hok
        match cs, hl with
        | [v], _ =>
          simp only [DataW.trod, hu] at h
          cases v <;> try (simp at h; done)
          rename_i k' m'
          simp only at h
          split at h
          · rename_i hk
            obtain ⟨rfl, _⟩ := hk
            exact ⟨_, one (.int _ _) rfl, _, rfl⟩
          · cases h
      · rename_i hu
        have hl : cs.length = 1 := by rw [hlen]; simpa using hok
        match cs, hl with
        | [v], _ =>
          simp only [DataW.trod, hu] at h
          cases v <;> try (simp at h; done)
          exact ⟨_, one (.bool _) rfl, _, rfl⟩
      · rename_i e hu
        simp only [Bool.and_eq_true, beq_iff_eq, bne_iff_ne] at hok
        obtain ⟨o1, o2, o3⟩ := hok
        have hl : cs.length = 1 := by rw [hlen]; exact o1
        match cs, hl with
        | [v], _ =>
          simp only [DataW.trod, hu] at h
          obtain ⟨a, len, cap, rfl⟩ : ∃ a len cap, v = .slice a len cap := by
            cases v with
            | slice a len cap => exact ⟨a, len, cap, rfl⟩
            | _ => simp at h
          cases a with
          | none =>
            match len, cap, h with
            | 0, 0, _ => exact ⟨[.sl (P.cellsOf e) true []], one (.nilsl _) rfl, true, [], rfl, fun _ => rfl, fun row hr => by simp at hr⟩
          | some a =>
            simp only at h
            split at h
            · rename_i hc
              obtain ⟨_, hlc, hcm⟩ := hc
              simp only [Option.bind_eq_some_iff] at h
              obtain ⟨elems, he, h⟩ := h
              rw [if_pos (hsp _), Option.map_eq_some_iff] at h
              obtain ⟨rest, hr, _⟩ := h
              obtain ⟨_, he⟩ := mapM_get he
              obtain ⟨_, hr⟩ := mapM_get hr
              have hel : ∀ i, i < cap → ∃ (l : List Value) (y : DataW H × List MemPlace), w.cells? 0 (a.add (i * P.cellsOf e)) (P.cellsOf e) = some l ∧ DataW.trod enc P w 0 sp hd m e l = some y := by
                intro i hi
                by_cases hil : i < len
                · obtain ⟨b, hb, _⟩ := he i i (by simp [hil])
                  rw [Option.bind_eq_some_iff] at hb
                  obtain ⟨l, h1, h2⟩ := hb
                  exact ⟨l, b, h1, h2⟩
                · obtain ⟨b, hb, _⟩ := hr (i - len) (i - len) (by rw [List.getElem?_range (by omega)])
                  rw [show len + (i - len) = i by omega, Option.bind_eq_some_iff] at hb
                  obtain ⟨l, h1, h2⟩ := hb
                  exact ⟨l, b, h1, h2⟩
              by_cases hc0 : cap = 0
              · subst hc0
                have : len = 0 := by omega
                subst this
                exact ⟨[.sl (P.cellsOf e) false []], one (.sl0 _ _) rfl, false, [], rfl, fun _ => rfl, fun row hr => by simp at hr⟩
              · have hspot : a.spot = none := by
                  obtain ⟨l, y, h1, _⟩ := hel 0 (by omega)
                  obtain ⟨c1, c2⟩ := cellsAt h1
                  have hl0' : 0 < l.length := by omega
                  have hl0 : l[0]? = some l[0] := by simp [hl0']
                  have := c2 0 _ hl0
                  rw [Nat.zero_mul] at this
                  have ha0 : (a.add 0).add 0 = a := by simp [Addr.add]
                  rw [ha0] at this
                  unfold World.cell? at this
                  cases hsp2 : a.spot with
                  | none => rfl
                  | some q =>
                    exfalso
                    rw [hsp2] at this
                    split at this <;> simp at this
                obtain ⟨ab, ao, asp⟩ := a
                simp only at hspot
                subst hspot
                have hrow : ∀ i, i < len → ∃ pvs : List PV, RdT P n e pvs ∧ pvs.length = P.cellsOf e ∧ ∀ (j : Nat) y, pvs[j]? = some y → ∃ u, w.cell? ⟨ab, ao + (i * P.cellsOf e + j), none⟩ = some u ∧ Flat M0 w y u ∧ y.one = true := by
                  intro i hi
                  obtain ⟨l, y, h1, h2⟩ := hel i (by omega)
                  obtain ⟨c1, c2⟩ := cellsAt h1
                  obtain ⟨pvs, hcs, hrd⟩ := ih n e l y o3 h2 hsp c1
                  refine ⟨pvs, hrd, by rw [hcs.1, c1], fun j y hj => ?_⟩
                  have hjl := (List.getElem?_eq_some_iff.1 hj).1
                  have hjl' : j < l.length := by rw [← hcs.1]; exact hjl
                  have hlj : l[j]? = some l[j] := by simp [hjl']
                  have hcell := c2 j _ hlj
                  rw [Addr.add_lit, Addr.add_lit, Nat.add_assoc] at hcell
                  exact ⟨_, hcell, hcs.2 j _ _ hj hlj⟩
                obtain ⟨f, hf⟩ := pick hrow
                have hfr : ∀ i, i < len → rowCells (mkRow (isS P e) (f i)) = f i := by
                  intro i hi
                  refine row_cells (hf i hi).1 fun x hx => ?_
                  obtain ⟨j, hj⟩ := List.getElem?_of_mem hx
                  obtain ⟨u, _, _, h3⟩ := (hf i hi).2.2 j x hj
                  exact h3
                have hget : ∀ (i : Nat) row, ((List.range len).map fun i => mkRow (isS P e) (f i))[i]? = some row → i < len ∧ row = mkRow (isS P e) (f i) := by
                  intro i row hrw
                  have hi : i < len := by have := (List.getElem?_eq_some_iff.1 hrw).1; simpa using this
                  rw [List.getElem?_map, List.getElem?_range hi] at hrw
                  exact ⟨hi, by simpa using hrw.symm⟩
                have hlenr : ((List.range len).map fun i => mkRow (isS P e) (f i)).length = len := by simp
                refine ⟨[.sl (P.cellsOf e) false ((List.range len).map fun i => mkRow (isS P e) (f i))], one ?_ rfl, false, _, rfl, (fun h => by cases h), fun row hrm => ?_⟩
                · have hfl := Flat.sl (M := M0) (w := w) (P.cellsOf e) ((List.range len).map fun i => mkRow (isS P e) (f i)) ab ao cap (fun j => (w.cell? ⟨ab, ao + j, none⟩).getD undef) (by rw [hlenr]; exact hlc) hcm (fun j hj => ⟨?_, fun h => h⟩) (fun row hrm => ?_) (fun row hrm c hcm' => ?_) (fun i j row c hi hc => ?_)
                  · rw [hlenr] at hfl
                    exact hfl
                  · rw [hlenr] at hj
                    have hi : j / P.cellsOf e < len := (Nat.div_lt_iff_lt_mul (Nat.pos_of_ne_zero o2)).2 hj
                    have hm : j % P.cellsOf e < P.cellsOf e := Nat.mod_lt _ (Nat.pos_of_ne_zero o2)
                    obtain ⟨q1, q2, q3⟩ := hf _ hi
                    have hy : (f (j / P.cellsOf e))[j % P.cellsOf e]? = some (f (j / P.cellsOf e))[j % P.cellsOf e] := by simp [show j % P.cellsOf e < (f (j / P.cellsOf e)).length by omega]
                    obtain ⟨u, hu', _⟩ := q3 _ _ hy
                    have hj' : j / P.cellsOf e * P.cellsOf e + j % P.cellsOf e = j := by rw [Nat.mul_comm]; exact Nat.div_add_mod j _
                    rw [hj'] at hu'
                    rw [hu']; rfl
                  · obtain ⟨i, hi⟩ := List.getElem?_of_mem hrm
                    obtain ⟨h1, rfl⟩ := hget i row hi
                    rw [hfr i h1]
                    exact (hf i h1).2.1
                  · obtain ⟨i, hi⟩ := List.getElem?_of_mem hrm
                    obtain ⟨h1, rfl⟩ := hget i row hi
                    rw [hfr i h1] at hcm'
                    obtain ⟨j, hj⟩ := List.getElem?_of_mem hcm'
                    obtain ⟨u, _, _, h3⟩ := (hf i h1).2.2 j c hj
                    exact h3
                  · obtain ⟨h1, rfl⟩ := hget i row hi
                    rw [hfr i h1] at hc
                    obtain ⟨u, h2, h3, h4⟩ := (hf i h1).2.2 j c hc
                    simp only [h2, Option.getD_some]
                    exact h3
                · obtain ⟨i, hi⟩ := List.getElem?_of_mem hrm
                  obtain ⟨h1, rfl⟩ := hget i row hi
                  exact ⟨f i, (hf i h1).1, rfl⟩
            · cases h
      · rename_i fs hu
        simp only [DataW.trod, hu] at h
        rw [if_pos hlen, Option.map_eq_some_iff] at h
        · obtain ⟨xs, hx, _⟩ := h
          have := rd_fields (r := RdT P n) (ok := okT P n) (fun t cs x h1 h2 h3 => ih n t cs x h1 h2 hsp h3) fs.toList 0 cs (P.cellsOf t) xs hok hlen (Nat.zero_le _) hx
          simpa using this
      · simp at hok
/-- An argument. -/
theorem rd_arg {n : Nat} {t : TypeId} {v : Value} {d : DataW H} {ps : List MemPlace} (hok : okT P n t = true) (h : DataW.Trod enc P w 0 sp hd t v d ps) (hsp : ∀ b, sp b = true) {base : Nat} (hv : Value.okWide P w .any base t v) (hlen : v.cells.size = P.cellsOf t) :
    ∃ pvs, RdT P n t pvs ∧ Flat M0 w (mkRow (isS P t) pvs) v := by
  obtain ⟨fuel, h⟩ := h
  obtain ⟨pvs, hc, hr⟩ := rd fuel n t _ _ hok h hsp (by simpa using hlen)
  refine ⟨pvs, hr, ?_⟩
  have hv' := hv
  unfold Value.okWide at hv'
  cases n with
  | zero => exact hr.elim
  | succ n =>
    unfold RdT at hr
    unfold isS
    have fin : ∀ {x : PV}, Cells w [x] v.cells.toList → v.cells = #[v] → Flat M0 w x v := by
      intro x hc h1
      rw [h1] at hc
      exact (hc.2 0 x v rfl rfl).1
    split at hr
    · rename_i hu
      simp only [hu] at hv'
      obtain ⟨m, rfl⟩ := hr
      have h1 : v.cells = #[v] := by cases v <;> first | rfl | (simp [Cell.okWide, Cell.ok, hu] at hv')
      simp only [hu]
      exact fin hc h1
    · rename_i hu
      simp only [hu] at hv'
      obtain ⟨m, rfl⟩ := hr
      have h1 : v.cells = #[v] := by cases v <;> first | rfl | (simp [Cell.okWide, Cell.ok, hu] at hv')
      simp only [hu]
      exact fin hc h1
    · rename_i hu
      simp only [hu] at hv'
      obtain ⟨nl, rows, rfl, _⟩ := hr
      have h1 : v.cells = #[v] := by cases v <;> first | rfl | (simp [Cell.okWide, Cell.ok, hu] at hv')
      simp only [hu]
      exact fin hc h1
    · rename_i hu
      simp only [hu] at hv'
      obtain ⟨cs, rfl, _, _⟩ := hv'
      simp only [hu, mkRow, if_true]
      have hcs : (Value.agg cs).cells.toList = cs.toList := rfl
      rw [hcs] at hc
      refine .agg pvs cs (by have := hc.1; simpa using this.symm) (fun c hcm => ?_) (fun i c u h1 h2 => (hc.2 i c u h1 (by simpa using h2)).1)
      obtain ⟨i, hi⟩ := List.getElem?_of_mem hcm
      have hil := (List.getElem?_eq_some_iff.1 hi).1
      have hl := hc.1
      have : cs.toList[i]? = some cs.toList[i] := by simp [show i < cs.size by simp at hl; omega]
      exact (hc.2 i c _ hi this).2
    · exact hr.elim
theorem len_of {n : Nat} {t : TypeId} {v : Value} (hok : okT P n t = true) {base : Nat} (hv : Value.okWide P w .any base t v) : v.cells.size = P.cellsOf t := by
  unfold Value.okWide at hv
  cases n with
  | zero => cases hok
  | succ n =>
    unfold okT at hok
    split at hok
    · rename_i hu
      simp only [hu] at hv
      have h1 : v.cells = #[v] := by cases v <;> first | rfl | (simp [Cell.okWide, Cell.ok, hu] at hv)
      rw [h1]; have := eq_of_beq hok; rw [this]; rfl
    · rename_i hu
      simp only [hu] at hv
      have h1 : v.cells = #[v] := by cases v <;> first | rfl | (simp [Cell.okWide, Cell.ok, hu] at hv)
      rw [h1]; have := eq_of_beq hok; rw [this]; rfl
    · rename_i hu
      simp only [hu] at hv
      have h1 : v.cells = #[v] := by cases v <;> first | rfl | (simp [Cell.okWide, Cell.ok, hu] at hv)
      simp only [Bool.and_eq_true, beq_iff_eq] at hok
      rw [h1, hok.1]; rfl
    · rename_i hu
      simp only [hu] at hv
      obtain ⟨cs, rfl, h, _⟩ := hv
      exact h
    · cases hok
end
end Go.Proofs.YtkjghcbnmipgfaaGreatDoor.Vc
