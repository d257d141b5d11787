/- Part of a proof over a Go program: VcNew. No condition. -/
import Derived.Test.YtnjphclbpgajpaaGreatDoorQ07
set_option linter.unnecessarySimpa false
set_option linter.unusedSectionVars false
set_option linter.unusedSimpArgs false
set_option linter.unusedVariables false
namespace Go.Proofs.YtnjphclbpgajpaaGreatDoor.Vc
open Go.RowKit
variable {P : Program}
theorem noRefT_iff {k : Nat} {t : List DV} : noRefT k t = true ↔ ∀ d, d ∈ t → d.ment k = false := by
 induction t with
 | nil => simp [noRefT]
 | cons d ds ih => simp [noRefT, ih]
theorem noRefR_iff {k : Nat} {rs : List (List DV)} : noRefR k rs = true ↔ ∀ r, r ∈ rs → ∀ d, d ∈ r → d.ment k = false := by
 induction rs with
 | nil => simp [noRefR]
 | cons r rs ih => simp [noRefR, ih, noRefT_iff]
theorem noRefB_iff {k : Nat} : ∀ {i : Nat} {b : List (Option Box)}, noRefB k i b = true ↔ ∀ (j : Nat) bx, b[j]? = some (some bx) → i + j ≠ k → noRefR k bx.rows = true := by
 intro i b
 induction b generalizing i with
 | nil => simp [noRefB]
 | cons x xs ih =>
  simp only [noRefB, Bool.and_eq_true, Bool.or_eq_true, beq_iff_eq, ih]
  constructor
  ·rintro ⟨h1, h2⟩ j bx hj hne
   cases j with
   | zero =>
    simp at hj
    subst hj
    rcases h1 with h1 | h1
    ·exact absurd h1 (by simpa using hne)
    ·exact h1
   | succ j => exact h2 j bx (by simpa using hj) (by omega)
  ·intro h
   refine ⟨?_, fun j bx hj hne => h (j + 1) bx (by simpa using hj) (by omega)⟩
   by_cases hik : i = k
   ·exact .inl hik
   ·right
    cases x with
    | none => rfl
    | some bx => exact h 0 bx rfl (by simpa using hik)
structure NoK (k : Nat) (s : St) : Prop where
 t : ∀ d, d ∈ s.t → d.ment k = false
 b : ∀ (j : Nat) bx, s.b[j]? = some (some bx) → j ≠ k → ∀ r, r ∈ bx.rows → ∀ d, d ∈ r → d.ment k = false
theorem NoK.get {k : Nat} {s : St} (h : NoK k s) (n : Nat) : (getT s.t n).ment k = false := by
 rw [getT_eq]
 cases hn : s.t[n]? with
 | none => rfl
 | some d => exact h.t d (List.mem_of_getElem? hn)
def addrK : Kd → Bool
 | .mov _ | .pick | .fad _ | .iad _ | .nilchk => true
 | _ => false
theorem dv_plain (d : TV) : d.dv.plain = true := by cases d <;> rfl
theorem dvc_plain (d : TV) : d.dv.copy.plain = true := by cases d <;> rfl
theorem plain_ment {k : Nat} {d : DV} (h : d.plain = true) : d.ment k = false := by cases d <;> first | rfl | cases h
theorem semI_plain {κ : Kd} (hκ : clsA κ = true) (ha : addrK κ = false) {vs : List DV} {b b' : List (Option Box)} {v : DV} (h : semI P κ vs b (fun v1 b1 => v1 = v ∧ b1 = b')) : v.plain = true := by
 cases κ <;> simp [clsA] at hκ <;> simp [addrK] at ha
 all_goals
  unfold semI at h
  (repeat' split at h) <;> (try contradiction)
 all_goals first
  | (rw [loadP_ang] at h; obtain ⟨z, h1, h2, h3⟩ := h; subst h2; rfl)
  | (obtain ⟨_, _, _, _, _, rfl, _⟩ := h; rfl)
  | (rw [binPV_ang] at h; obtain ⟨z, h1, h2, h3⟩ := h; subst h2; rfl)
  | (obtain ⟨rfl, _⟩ := h; first | rfl | exact dv_plain _ | exact dvc_plain _)
  | (obtain ⟨_, rfl, _⟩ := h; rfl)
  | (obtain ⟨_, _, rfl, _⟩ := h; rfl)
  | (obtain ⟨_, _, _, rfl, _⟩ := h; rfl)
  | (obtain ⟨_, _, _, _, rfl, _⟩ := h; rfl)
  | exact h.2.elim
theorem copy_ment {k : Nat} {d : DV} (h : d.ment k = false) : d.copy.ment k = false := by rw [ment_copy]; exact h
theorem semI_mentA {κ : Kd} (hκ : clsA κ = true) {k : Nat} {vs : List DV} (hv : ∀ d, d ∈ vs → d.ment k = false) {b b' : List (Option Box)} {v : DV} (h : semI P κ vs b (fun v1 b1 => v1 = v ∧ b1 = b')) : v.ment k = false := by
 cases ha : addrK κ with
 | false => exact plain_ment (semI_plain hκ ha h)
 | true =>
  cases κ <;> simp [addrK] at ha
  case mov take =>
   unfold semI at h
   split at h <;> (try contradiction)
   rename_i x heq
   obtain ⟨h1, _⟩ := h
   subst h1
   have hx := hv x (by simp)
   split
   ·exact hx
   ·exact copy_ment hx
  case pick =>
   unfold semI at h
   split at h <;> (try contradiction)
   rename_i c x y heq
   have hx := hv x (by simp)
   have hy := hv y (by simp)
   cases c with
   | true => rw [← (h.1 rfl).1]; exact copy_ment hx
   | false => rw [← (h.2 rfl).1]; exact copy_ment hy
  case fad off =>
   unfold semI at h
   split at h <;> (try contradiction)
   ·rename_i k' size r o heq
    rw [← h.1]; exact hv (.addr k' size r o) (by simp)
   ·rw [← h.1]; rfl
  case iad size =>
   unfold semI at h
   split at h <;> (try contradiction)
   rename_i x k' i heq
   have hx := hv x (by simp)
   split at h
   ·obtain ⟨_, _, row, _, e, _⟩ := h; rw [← e]; rfl
   ·obtain ⟨_, _, row, _, e, _⟩ := h; rw [← e]; rfl
   ·obtain ⟨_, _, _, e, _⟩ := h; rw [← e]; exact hx
   ·exact h.elim
  case nilchk =>
   unfold semI at h
   split at h <;> (try contradiction)
   rename_i x heq
   have hx := hv x (by simp)
   split at h
   ·rw [← h.1]; exact hx
   ·rw [← h.1]; rfl
   ·rw [← h.1]; rfl
   ·exact h.elim
theorem mem_setL {α : Type} {x v : α} : ∀ {l : List α} {n : Nat}, x ∈ setL l n v → x ∈ l ∨ x = v
 | [], _, h => by simp [setL] at h
 | y :: ys, 0, h => by
  simp only [setL] at h
  rcases List.mem_cons.1 h with h | h
  ·exact .inr h
  ·exact .inl (List.mem_cons_of_mem _ h)
 | y :: ys, n + 1, h => by
  simp only [setL] at h
  rcases List.mem_cons.1 h with h | h
  ·exact .inl (h ▸ List.mem_cons_self)
  ·rcases mem_setL h with h | h
   ·exact .inl (List.mem_cons_of_mem _ h)
   ·exact .inr h
theorem mem_storeD {x : DV} : ∀ {cs : List DV} {l : List DV} {o : Nat}, x ∈ storeD l o cs → x ∈ l ∨ x ∈ cs
 | [], _, _, h => .inl h
 | c :: cs, l, o, h => by
  simp only [storeD] at h
  rcases mem_storeD h with h | h
  ·rcases mem_setL h with h | h
   ·exact .inl h
   ·exact .inr (h ▸ List.mem_cons_self)
  ·exact .inr (List.mem_cons_of_mem _ h)
theorem cellsOfD_ment {k : Nat} {y : DV} {cs : List DV} (h : cellsOfD y = some cs) (hy : y.ment k = false) : ∀ d, d ∈ cs → d.ment k = false := by
 intro d hd
 cases y with
 | agd rs =>
  simp only [cellsOfD, Option.some.injEq, rfDs_eq] at h
  subst h
  obtain ⟨c, hc, rfl⟩ := List.mem_map.1 hd
  cases hm : c.dv.ment k with
  | false => rfl
  | true =>
   have : (DV.agd rs).ment k = true := by
    simp only [DV.ment, List.any_eq_true]
    exact ⟨c, hc, by cases c <;> exact hm⟩
   rw [this] at hy; cases hy
 | p x =>
  simp only [cellsOfD, Option.some.injEq] at h
  subst h
  obtain ⟨c, _, rfl⟩ := List.mem_map.1 hd
  rfl
 | top => simp [cellsOfD] at h
 | tup ds => simp [cellsOfD] at h
 | ob T => simp [cellsOfD] at h
 | pk o => simp [cellsOfD] at h
 | _ => simp only [cellsOfD, Option.some.injEq] at h; subst h; simp at hd; subst hd; exact hy
def FreeB (k : Nat) (b : List (Option Box)) : Prop := ∀ (j : Nat) bx, b[j]? = some (some bx) → j ≠ k → ∀ r, r ∈ bx.rows → ∀ d, d ∈ r → d.ment k = false
theorem FreeB.set {k j : Nat} {b : List (Option Box)} (h : FreeB k b) {bx : Box} (hb : j ≠ k → ∀ r, r ∈ bx.rows → ∀ d, d ∈ r → d.ment k = false) : FreeB k (setL b j (some bx)) := by
 intro i bx' hi hne r hr d hd
 rw [getElem?_setL] at hi
 by_cases hij : i = j
 ·subst hij
  rw [if_pos rfl] at hi
  cases hx : b[i]? with
  | none => rw [hx] at hi; simp at hi
  | some y => rw [hx] at hi; simp at hi; subst hi; exact hb hne r hr d hd
 ·rw [if_neg hij] at hi
  exact h i bx' hi hne r hr d hd
theorem semJ_ment0 {κ : Kd} (hκ : (clsAJ κ || (atk κ).isSome) = true) {k : Nat} {vs : List DV} (hv : ∀ d, d ∈ vs → d.ment k = false) {b b' : List (Option Box)} (hb : FreeB k b) {v : DV}
  (h : semJ P κ vs b (fun v1 b1 => v1 = v ∧ b1 = b')) : v.ment k = false ∧ FreeB k b' := by
 rw [Bool.or_eq_true] at hκ
 rcases hκ with hκ | hκ
 ·have hk := semJ_keep (clsAB hκ) h
  subst hk
  refine ⟨?_, hb⟩
  unfold semJ at h
  split at h
  ·cases hκ
  ·simp only [clsAJ, Bool.or_eq_true] at hκ
   rcases hκ with hκ | hκ
   ·exact semI_mentA hκ hv h.2
   ·replace h := h.2
    rename_i κ'
    cases κ' <;> simp [plain2] at hκ
    case call f =>
     simp only [semI] at h
     split at h
     ·obtain ⟨r, h1, h2, _⟩ := h; subst h2; exact plain_ment h1.1
     ·exact h.elim
    case callv =>
     unfold semI at h
     split at h <;> (try contradiction)
     split at h
     ·obtain ⟨r, h1, h2, _⟩ := h; subst h2; exact plain_ment h1.1
     ·exact h.elim
    case mkfn f =>
     simp only [semI] at h
     split at h
     ·rw [← h.1]; rfl
     ·exact h.elim
    case app size bytes =>
     unfold semI at h
     split at h <;> (try contradiction)
     all_goals
      split at h
      ·obtain ⟨_, _, _, _, e, _⟩ := h; rw [← e]; rfl
      ·exact h.elim
  ·rename_i n1 n2
   refine semI_mentA ?_ hv h
   cases κ <;> first | exact hκ | exact (n1 _ _ rfl).elim | exact (n2 _ rfl).elim
 ·obtain ⟨j, hj⟩ := Option.isSome_iff_exists.1 hκ
  unfold atk at hj
  split at hj
  ·rename_i k' n ag take
   simp only [semJ] at h
   split at h
   ·obtain ⟨rfl, h⟩ := h
    rename_i k2 sz r off rest
    have hk2 : k2 ≠ k := by have := hv (.addr k2 sz r off) (by simp); simpa [DV.ment] using this
    cases rest with
    | cons _ _ => simp [semI] at h
    | nil =>
     simp only [semI] at h
     cases hbk : getB b k2 with
     | none => simp [hbk] at h
     | some bx =>
      simp only [hbk] at h
      obtain ⟨h1, row, h2, h3, h4⟩ := h
      have hrow := hb k2 bx (getB_some hbk) hk2 row (List.mem_of_getElem? h2)
      cases ag with
      | true =>
       simp only [if_true] at h4
       split at h4
       ·obtain ⟨e1, e2⟩ := h4; subst e2; exact ⟨by rw [← e1]; rfl, hb⟩
       ·exact h4.elim
      | false =>
       simp only [Bool.false_eq_true, if_false] at h4
       obtain ⟨d, h5, h6, h7⟩ := h4
       have hd := hrow d (List.mem_of_getElem? h5)
       cases take with
       | false =>
        simp only [Bool.false_eq_true, if_false] at h6 h7
        subst h7
        exact ⟨by rw [← h6]; exact copy_ment hd, hb⟩
       | true =>
        simp only [if_true] at h6 h7
        subst h7
        refine ⟨by rw [← h6]; exact hd, hb.set fun _ r' hr' d' hd' => ?_⟩
        rcases mem_setL hr' with hr' | hr'
        ·exact hb k2 bx (getB_some hbk) hk2 r' hr' d' hd'
        ·subst hr'
         rcases mem_setL hd' with hd' | hd'
         ·exact hrow d' hd'
         ·subst hd'; exact copy_ment hd
   ·exact h.elim
  ·rename_i k' n
   simp only [semJ] at h
   split at h
   ·obtain ⟨rfl, h⟩ := h
    rename_i k2 sz r off rest
    have hk2 : k2 ≠ k := by have := hv (.addr k2 sz r off) (by simp); simpa [DV.ment] using this
    match rest, h, hv with
    | [], h, _ => simp [semI] at h
    | _ :: _ :: _, h, _ => simp [semI] at h
    | [y], h, hv =>
     simp only [semI] at h
     cases hbk : getB b k2 with
     | none => simp [hbk] at h
     | some bx =>
      cases hc : cellsOfD y with
      | none => simp [hbk, hc] at h
      | some cs =>
       simp only [hbk, hc] at h
       obtain ⟨h1, h2, h3, row, h4, h5, h6, h7⟩ := h
       subst h7
       have hrow := hb k2 bx (getB_some hbk) hk2 row (List.mem_of_getElem? h4)
       have hcs := cellsOfD_ment hc (hv y (by simp))
       refine ⟨by rw [← h6]; rfl, hb.set fun _ r' hr' d' hd' => ?_⟩
       rcases mem_setL hr' with hr' | hr'
       ·exact hb k2 bx (getB_some hbk) hk2 r' hr' d' hd'
       ·subst hr'
        rcases mem_storeD hd' with hd' | hd'
        ·exact hrow d' hd'
        ·exact hcs d' hd'
   ·exact h.elim
  ·cases hj
theorem execG_al {a : Ins} {k size d : Nat} {zero : List DV} (hk : a.k = .alloc k size zero) (hg : a.g = none) (hx : a.xs = []) (hd : a.d = some d) {s : St} (hN : NoK k s) (hlt : k < s.b.length) {K : St → Prop} :
  execG P a s K ↔ (zero.length = size ∧ K ⟨setL s.t d (.addr k size 0 0), setL s.b k (some ⟨true, size, [zero], false⟩)⟩) := by
 unfold execG
 rw [hg]
 simp only [exec, fresh, hk, newBox, hx, hd, List.map_nil, semJ, semI, Kd.core, degr, putD]
 constructor
 ·exact fun h => h.2
 ·refine fun h => ⟨⟨hlt, noRefT_iff.2 fun x hx => ?_, noRefB_iff.2 fun j bx hj hne => noRefR_iff.2 (hN.b j bx hj (by simpa using hne))⟩, h⟩
  rcases mem_setL hx with hx | hx
  ·exact hN.t x hx
  ·subst hx; rfl
theorem atk_ne {κ : Kd} {j k : Nat} (hj : atk κ = some j) {vs : List DV} (hv : ∀ d, d ∈ vs → d.ment k = false) {b : List (Option Box)} {K : DV → List (Option Box) → Prop} (h : semJ P κ vs b K) : j ≠ k := by
 unfold atk at hj
 split at hj
 ·injection hj with hj
  subst hj
  simp only [semJ] at h
  split at h
  ·rename_i k2 sz r off rest
   have := hv (.addr k2 sz r off) (by simp)
   rw [← h.1]
   simpa [DV.ment] using this
  ·exact h.elim
 ·injection hj with hj
  subst hj
  simp only [semJ] at h
  split at h
  ·rename_i k2 sz r off rest
   have := hv (.addr k2 sz r off) (by simp)
   rw [← h.1]
   simpa [DV.ment] using this
  ·exact h.elim
 ·cases hj
theorem semJ_up0 {κ : Kd} (hκ : (clsAJ κ || (atk κ).isSome) = true) {k : Nat} {vs : List DV} (hv : ∀ d, d ∈ vs → d.ment k = false) {b b' : List (Option Box)} {v : DV} (x : Option Box)
  (h : semJ P κ vs b (fun v1 b1 => v1 = v ∧ b1 = b')) : semJ P κ vs (setL b k x) (fun v1 b1 => v1 = v ∧ b1 = setL b' k x) ∧ b'.length = b.length := by
 rw [Bool.or_eq_true] at hκ
 rcases hκ with hκ | hκ
 ·have hk := semJ_keep (clsAB hκ) h
  subst hk
  exact ⟨semJ_ind hκ h _, rfl⟩
 ·obtain ⟨j, hj⟩ := Option.isSome_iff_exists.1 hκ
  have hne := atk_ne hj hv h
  obtain ⟨l1, l2⟩ := semJ_loc hj h
  have := l2 (setL b k x) (getB_setL_ne _ _ _ _ (fun e => hne e.symm))
  rw [setB_comm _ _ _ _ _ (fun e => hne e.symm), ← l1] at this
  exact ⟨this, by rw [l1, setL_length]⟩
theorem semJ_down0 {κ : Kd} (hκ : (clsAJ κ || (atk κ).isSome) = true) {k : Nat} {vs : List DV} (hv : ∀ d, d ∈ vs → d.ment k = false) {b b2 : List (Option Box)} {v : DV} (x : Option Box)
  (h : semJ P κ vs (setL b k x) (fun v1 b1 => v1 = v ∧ b1 = b2)) : ∃ b', semJ P κ vs b (fun v1 b1 => v1 = v ∧ b1 = b') ∧ b2 = setL b' k x ∧ b'.length = b.length := by
 rw [Bool.or_eq_true] at hκ
 rcases hκ with hκ | hκ
 ·have hk := semJ_keep (clsAB hκ) h
  subst hk
  exact ⟨b, semJ_ind hκ h _, rfl, rfl⟩
 ·obtain ⟨j, hj⟩ := Option.isSome_iff_exists.1 hκ
  have hne := atk_ne hj hv h
  obtain ⟨l1, l2⟩ := semJ_loc hj h
  refine ⟨_, l2 b (getB_setL_ne _ _ _ _ (fun e => hne e.symm)).symm, ?_, by rw [setL_length]⟩
  rw [setB_comm _ _ _ _ _ hne, ← l1]
theorem getB_off {b : List (Option Box)} {k q : Nat} {x : Option Box} (h : q ≠ k) : getB (setL b k x) q = getB b q := by
 rw [getB_raw, getB_raw, getB_setL_ne _ _ _ _ (fun e => h e.symm)]
theorem frz_off {b : List (Option Box)} {k : Nat} {x : Option Box} {d : DV} (h : d.ment k = false) : d.frz (setL b k x) = d.frz b := by
 have cap : ∀ {c : CapV}, (∀ j sz r o, c = .addr j sz r o → j ≠ k) → c.frz (setL b k x) = c.frz b := by
  intro c hc
  cases c with
  | p y => rfl
  | addr j sz r o => simp only [CapV.frz, getB_off (hc j sz r o rfl)]
 cases d with
 | addr j sz r o => exact cap (c := .addr j sz r o) fun j' _ _ _ e => by injection e with e; subst e; intro e; subst e; simp [DV.ment] at h
 | bs j sz ag lo n => simp only [DV.frz]; rw [getB_off (fun e => by subst e; simp [DV.ment] at h)]
 | fn f caps =>
  have : ∀ (l : List CapV), (∀ c, c ∈ l → ∀ j sz r o, c = .addr j sz r o → j ≠ k) → capsF (setL b k x) l = capsF b l := by
   intro l
   induction l with
   | nil => intro _; rfl
   | cons c l ih => intro hl; simp only [capsF]; rw [cap (hl c (by simp)), ih (fun c hc => hl c (by simp [hc]))]
  simp only [DV.frz]
  rw [this caps fun c hc j sz r o e ej => ?_]
  subst e; subst ej
  have : (DV.fn f caps).ment j = true := by simp only [DV.ment, List.any_eq_true]; exact ⟨_, hc, by simp⟩
  rw [this] at h; cases h
 | agd cs =>
  have : ∀ (l : List RfV), (∀ c, c ∈ l → c.ment k = false) → rfsF (setL b k x) l = rfsF b l := by
   intro l
   induction l with
   | nil => intro _; rfl
   | cons c l ih =>
    intro hl
    have hc := hl c (by simp)
    have e : c.frz (setL b k x) = c.frz b := by
     cases c with
     | p y => rfl
     | addr j sz r o => exact cap (c := .addr j sz r o) fun j' _ _ _ e => by injection e with e; subst e; intro e; subst e; simp [RfV.ment] at hc
     | bs j sz ag lo n => simp only [RfV.frz, bsF]; rw [getB_off (fun e => by subst e; simp [RfV.ment] at hc)]
     | mh j => rfl
    simp only [rfsF, e, ih (fun c hc => hl c (by simp [hc]))]
  simp only [DV.frz]
  rw [this cs fun c hc => ?_]
  simp only [DV.ment] at h
  cases hm : c.ment k with
  | false => rfl
  | true => rw [List.any_eq_true.2 ⟨c, hc, hm⟩] at h; cases h
 | _ => rfl
theorem capRefs_mem {q : Nat} : ∀ {cs : List CapV} {l : List Nat}, q ∈ capRefs cs l → (∃ sz r o, CapV.addr q sz r o ∈ cs) ∨ q ∈ l
 | [], l, h => .inr h
 | .p x :: cs, l, h => by
  rcases capRefs_mem (cs := cs) h with ⟨sz, r, o, h⟩ | h
  ·exact .inl ⟨sz, r, o, by simp [h]⟩
  ·exact .inr h
 | .addr k sz r o :: cs, l, h => by
  simp only [capRefs] at h
  rcases List.mem_cons.1 h with rfl | h
  ·exact .inl ⟨sz, r, o, by simp⟩
  ·rcases capRefs_mem (cs := cs) h with ⟨sz, r, o, h⟩ | h
   ·exact .inl ⟨sz, r, o, by simp [h]⟩
   ·exact .inr h
theorem refsD_mem {q : Nat} {d : DV} {l : List Nat} (h : q ∈ refsD d l) : d.ment q = true ∨ q ∈ l := by
 cases d with
 | addr k sz r o => simp only [refsD] at h; rcases List.mem_cons.1 h with rfl | h; exact .inl (by simp [DV.ment]); exact .inr h
 | bs k sz ag lo n => simp only [refsD] at h; rcases List.mem_cons.1 h with rfl | h; exact .inl (by simp [DV.ment]); exact .inr h
 | mh k => simp only [refsD] at h; rcases List.mem_cons.1 h with rfl | h; exact .inl (by simp [DV.ment]); exact .inr h
 | fn f caps =>
  rcases capRefs_mem h with ⟨sz, r, o, h⟩ | h
  ·exact .inl (by simp only [DV.ment, List.any_eq_true]; exact ⟨_, h, by simp⟩)
  ·exact .inr h
 | _ => exact .inr h
theorem refsR_mem {q : Nat} : ∀ {ds : List DV} {l : List Nat}, q ∈ refsR ds l → (∃ d, d ∈ ds ∧ d.ment q = true) ∨ q ∈ l
 | [], l, h => .inr h
 | d :: ds, l, h => by
  rcases refsD_mem h with h | h
  ·exact .inl ⟨d, by simp, h⟩
  ·rcases refsR_mem h with ⟨d', h1, h2⟩ | h
   ·exact .inl ⟨d', by simp [h1], h2⟩
   ·exact .inr h
theorem refsRs_mem {q : Nat} : ∀ {rs : List (List DV)} {l : List Nat}, q ∈ refsRs rs l → (∃ r, r ∈ rs ∧ ∃ d, d ∈ r ∧ d.ment q = true) ∨ q ∈ l
 | [], l, h => .inr h
 | r :: rs, l, h => by
  rcases refsR_mem h with ⟨d, h1, h2⟩ | h
  ·exact .inl ⟨r, by simp, d, h1, h2⟩
  ·rcases refsRs_mem h with ⟨r', h1, h2⟩ | h
   ·exact .inl ⟨r', by simp [h1], h2⟩
   ·exact .inr h
theorem rootsO_off {b : List (Option Box)} {k : Nat} {x : Option Box} : ∀ {vs : List DV}, (∀ d, d ∈ vs → d.ment k = false) → rootsO (setL b k x) vs = rootsO b vs ∧ k ∉ rootsO b vs
 | [], _ => ⟨rfl, by simp [rootsO]⟩
 | d :: ds, h => by
  obtain ⟨h1, h2⟩ := rootsO_off (b := b) (k := k) (x := x) (vs := ds) (fun d hd => h d (by simp [hd]))
  simp only [rootsO, frz_off (h d (by simp)), h1]
  refine ⟨trivial, ?_⟩
  split
  ·exact h2
  ·intro hm
   rcases refsD_mem hm with hm | hm
   ·rw [h d (by simp)] at hm; cases hm
   ·exact h2 hm
theorem reachO_off {b : List (Option Box)} {k : Nat} {x : Option Box} (hb : FreeB k b) : ∀ {n : Nat} {ws ks : List Nat}, k ∉ ws → k ∉ ks → reachO (setL b k x) n ws ks = reachO b n ws ks ∧ k ∉ reachO b n ws ks
 | 0, _, _, _, h => ⟨rfl, h⟩
 | _ + 1, [], _, _, h => ⟨rfl, h⟩
 | n + 1, q :: ws, ks, hw, hk => by
  have hq : q ≠ k := fun e => hw (by simp [e])
  have hws : k ∉ ws := fun h => hw (by simp [h])
  simp only [reachO, getR_setL_ne hq]
  split
  ·exact reachO_off hb hws hk
  ·cases hg : getR b q with
   | none => exact reachO_off hb hws hk
   | some bx =>
    simp only
    split
    ·refine reachO_off hb ?_ (by simp [hk, Ne.symm hq])
     cases allPR bx.rows with
     | true => exact hws
     | false =>
      intro hm
      rcases refsRs_mem hm with ⟨r, h1, d, h2, h3⟩ | hm
      ·rw [hb q bx (getR_some.1 hg) hq r h1 d h2] at h3; cases h3
      ·exact hws hm
    ·exact reachO_off hb hws hk
theorem ksO_off {b : List (Option Box)} {k : Nat} {x : Option Box} (hb : FreeB k b) {vs : List DV} (hv : ∀ d, d ∈ vs → d.ment k = false) : ksO (setL b k x) vs = ksO b vs ∧ k ∉ ksO b vs := by
 obtain ⟨h1, h2⟩ := rootsO_off (b := b) (x := x) hv
 unfold ksO
 rw [h1]
 exact reachO_off hb h2 (by simp)
theorem argsO_off {b : List (Option Box)} {k : Nat} {x : Option Box} {ν : Nat → Option Nat} : ∀ {vs : List DV}, (∀ d, d ∈ vs → d.ment k = false) → argsO (setL b k x) ν vs = argsO b ν vs
 | [], _ => rfl
 | d :: ds, h => by simp only [argsO, frz_off (h d (by simp)), argsO_off (vs := ds) (fun d hd => h d (by simp [hd]))]
theorem handO_off {b : List (Option Box)} {k : Nat} {x : Option Box} {ν : Nat → Option Nat} : ∀ {ks : List Nat}, k ∉ ks → handO (setL b k x) ν ks = handO b ν ks
 | [], _ => rfl
 | q :: ks, h => by
  simp only [handO, handB]
  rw [getR_setL_ne (fun e => h (by simp [e])), handO_off (fun hm => h (by simp [hm]))]
theorem backO_off {k : Nat} {x : Option Box} {ν : Nat → Option Nat} : ∀ {ks : List Nat} {bs b : List (Option Box)}, k ∉ ks → bs.length = ks.length → backO ν ks bs (setL b k x) = setL (backO ν ks bs b) k x ∧ (backO ν ks bs b).length = b.length
 | [], [], b, _, _ => by simp [backO, newO]
 | [], _ :: _, b, _, h => by simp at h
 | _ :: _, [], b, _, h => by simp at h
 | q :: ks, y :: l, b, hk, hl => by
  have hq : q ≠ k := fun e => hk (by simp [e])
  have ho : oldB (setL b k x) q = oldB b q := by unfold oldB; rw [getR_setL_ne hq]
  simp only [backO, ho]
  rw [setB_comm _ _ _ _ _ (fun e => hq e.symm)]
  obtain ⟨h1, h2⟩ := backO_off (ks := ks) (bs := l) (b := setL b q (backB ν (oldB b q) y)) (fun h => hk (List.mem_cons_of_mem _ h)) (by simpa using hl)
  exact ⟨h1, by rw [h2, setL_length]⟩
theorem callO_up {f : FuncId} {k : Nat} {vs : List DV} (hv : ∀ d, d ∈ vs → d.ment k = false) {b b' : List (Option Box)} (hb : FreeB k b) {v : DV} (x : Option Box)
  (h : callO P f false vs b (fun v1 b1 => v1 = v ∧ b1 = b')) : callO P f false vs (setL b k x) (fun v1 b1 => v1 = v ∧ b1 = setL b' k x) ∧ b'.length = b.length := by
 unfold callO at h ⊢
 obtain ⟨k1, k2⟩ := ksO_off (x := x) hb hv
 rw [k1, argsO_off hv]
 split at h
 ·obtain ⟨bs', r, h1, h2, h3, h4⟩ := h
  have hl : bs'.length = (ksO b vs).length := by simpa using h2
  obtain ⟨e1, e2⟩ := backO_off (x := x) (ν := nuB (ksO b vs) b.length bs'.length) (b := b) k2 hl
  refine ⟨⟨bs', r, by rw [handO_off k2]; exact h1, h2, by rw [setL_length]; exact h3, by rw [setL_length, e1, h4]⟩, by rw [← h4, e2]⟩
 ·exact h.elim
theorem FreeB.off {k : Nat} {b : List (Option Box)} (hb : FreeB k b) (x : Option Box) : FreeB k (setL b k x) := by
 intro j bx hj hne
 rw [getElem?_setL, if_neg hne] at hj
 exact hb j bx hj hne
theorem setL_setLN {α : Type} : ∀ (l : List α) (n : Nat) (x y : α), setL (setL l n x) n y = setL l n y
 | [], _, _, _ => rfl
 | _ :: _, 0, _, _ => rfl
 | _ :: xs, n + 1, x, y => by simp only [setL]; rw [setL_setLN xs n x y]
theorem callO_down {f : FuncId} {k : Nat} {vs : List DV} (hv : ∀ d, d ∈ vs → d.ment k = false) {b b2 : List (Option Box)} (hb : FreeB k b) {v : DV} (x : Option Box)
  (h : callO P f false vs (setL b k x) (fun v1 b1 => v1 = v ∧ b1 = b2)) : ∃ b', callO P f false vs b (fun v1 b1 => v1 = v ∧ b1 = b') ∧ b2 = setL b' k x ∧ b'.length = b.length := by
 unfold callO at h ⊢
 obtain ⟨k1, k2⟩ := ksO_off (x := x) hb hv
 rw [k1, argsO_off hv] at h
 split at h
 ·obtain ⟨bs', r, h1, h2, h3, h4⟩ := h
  have hl : bs'.length = (ksO b vs).length := by simpa using h2
  rw [setL_length] at h3 h4
  obtain ⟨e1, e2⟩ := backO_off (x := x) (ν := nuB (ksO b vs) b.length bs'.length) (b := b) k2 hl
  exact ⟨_, ⟨bs', r, by rw [handO_off k2] at h1; exact h1, h2, h3, rfl⟩, by rw [← h4, e1], e2⟩
 ·exact h.elim
theorem handD_ment {ν : Nat → Option Nat} {k : Nat} (hν : ∀ i, ν i ≠ some k) (d : DV) : (handD ν d).ment k = false := by
 cases d with
 | addr j sz r o => simp only [handD]; split <;> first | rfl | (rename_i k' hk; simp only [DV.ment, beq_eq_false_iff_ne]; intro e; subst e; exact hν _ hk)
 | bs j sz ag lo n => simp only [handD]; split <;> first | rfl | (rename_i k' hk; simp only [DV.ment, beq_eq_false_iff_ne]; intro e; subst e; exact hν _ hk)
 | mh j => simp only [handD]; split <;> first | rfl | (rename_i k' hk; simp only [DV.ment, beq_eq_false_iff_ne]; intro e; subst e; exact hν _ hk)
 | fn f caps =>
  simp only [handD]
  split
  ·rename_i l hl
   cases hm : (DV.fn f l).ment k with
   | false => rfl
   | true =>
    exfalso
    simp only [DV.ment, List.any_eq_true] at hm
    obtain ⟨c, hc, hk⟩ := hm
    obtain ⟨e1, e2⟩ := capsH_get hl
    obtain ⟨j, hj⟩ := List.getElem?_of_mem hc
    have hjl : j < caps.length := by rw [← e1]; exact (List.getElem?_eq_some_iff.1 hj).1
    rcases e2 j caps[j] c (by simp [hjl]) hj with ⟨y, _, rfl⟩ | ⟨q, q', sz, r, o, h1, _, rfl⟩
    ·simp at hk
    ·simp at hk; subst hk; exact hν q h1
  ·rfl
 | _ => rfl
theorem backO_free {k : Nat} {ν : Nat → Option Nat} (hν : ∀ i, ν i ≠ some k) : ∀ {ks : List Nat} {bs b : List (Option Box)}, bs.length = ks.length → FreeB k b → FreeB k (backO ν ks bs b)
 | [], [], b, _, h => by simpa [backO, newO] using h
 | [], _ :: _, b, h, _ => by simp at h
 | _ :: _, [], b, h, _ => by simp at h
 | q :: ks, y :: l, b, hl, hb => by
  simp only [backO]
  refine backO_free hν (by simpa using hl) ?_
  cases y with
  | none =>
   intro j bx hj hne
   simp only [backB] at hj
   rw [getElem?_setL] at hj
   split at hj
   ·cases hx : b[j]? <;> rw [hx] at hj <;> simp at hj
   ·exact hb j bx hj hne
  | some bx =>
   refine hb.set fun _ r hr d hd => ?_
   simp only [handRs_eq] at hr
   obtain ⟨r0, _, rfl⟩ := List.mem_map.1 hr
   obtain ⟨d0, _, rfl⟩ := List.mem_map.1 hd
   exact handD_ment hν d0
theorem callO_ment {f : FuncId} {k : Nat} {vs : List DV} (hv : ∀ d, d ∈ vs → d.ment k = false) {b b' : List (Option Box)} (hb : FreeB k b) {v : DV}
  (h : callO P f false vs b (fun v1 b1 => v1 = v ∧ b1 = b')) : v.ment k = false ∧ FreeB k b' := by
 unfold callO at h
 obtain ⟨_, k2⟩ := ksO_off (x := none) hb hv
 split at h
 ·obtain ⟨bs', r, h1, h2, h3, h4⟩ := h
  have hl : bs'.length = (ksO b vs).length := by simpa using h2
  have hν : ∀ i, nuB (ksO b vs) b.length bs'.length i ≠ some k := fun i e => by
   obtain ⟨e1, e2⟩ := nuB_some e
   rw [hl] at e1
   have hi : (ksO b vs)[i]? = some (ksO b vs)[i] := by simp [e1]
   rw [sigO_get hi] at e2
   exact k2 (by rw [e2]; exact List.getElem_mem _)
  refine ⟨?_, by rw [← h4]; exact backO_free hν hl hb⟩
  rw [← h3]
  unfold resD
  split
  ·exact plain_ment (by assumption)
  ·exact handD_ment hν r
 ·exact h.elim
def isCo : Kd → Bool
 | .ob (.callo _ false) | .ob (.callr _) => true
 | _ => false
theorem isCo_eq {κ : Kd} (h : isCo κ = true) : ∃ f, κ = .ob (.callo f false) ∨ κ = .ob (.callr f) := by
 unfold isCo at h
 split at h
 ·exact ⟨_, .inl rfl⟩
 ·exact ⟨_, .inr rfl⟩
 ·cases h
theorem callr_up {f : FuncId} {vs : List DV} {b b' : List (Option Box)} {v : DV} (h : semJ P (.ob (.callr f)) vs b (fun v1 b1 => v1 = v ∧ b1 = b')) : b' = b ∧ callO P f false vs b (fun v1 b1 => v1 = v ∧ b1 = b) := by
 have h : callO P f false vs b (fun v1 b1 => b1 = b ∧ (v1 = v ∧ b = b')) := h
 obtain ⟨_, _, _, _, _, e⟩ := callO_ang h
 exact ⟨e.symm, callO_mono (fun v1 b1 h => ⟨h.2.1, h.1⟩) h⟩
theorem callr_dn {f : FuncId} {vs : List DV} {b : List (Option Box)} {v : DV} (h : callO P f false vs b (fun v1 b1 => v1 = v ∧ b1 = b)) : semJ P (.ob (.callr f)) vs b (fun v1 b1 => v1 = v ∧ b1 = b) :=
 show callO P f false vs b (fun v1 b1 => b1 = b ∧ (v1 = v ∧ b = b)) from callO_mono (fun v1 b1 h => ⟨h.2, h.1, rfl⟩) h
def tmK (κ : Kd) : Bool := clsAJ κ || (atk κ).isSome || isCo κ
def rawB' (b : List (Option Box)) (k : Nat) : Option Box := (b[k]?).getD none
theorem rawB'_set (b : List (Option Box)) (k : Nat) : setL b k (rawB' b k) = b := by
 refine List.ext_getElem? fun j => ?_
 rw [getElem?_setL]
 split
 ·rename_i e
  subst e
  cases h : b[j]? with
  | none => rfl
  | some x => simp [rawB', h]
 ·rfl
theorem semJ_ment {κ : Kd} (hκ : tmK κ = true) {k : Nat} {vs : List DV} (hv : ∀ d, d ∈ vs → d.ment k = false) {b b' : List (Option Box)} (hb : FreeB k b) {v : DV}
  (h : semJ P κ vs b (fun v1 b1 => v1 = v ∧ b1 = b')) : v.ment k = false ∧ FreeB k b' := by
 unfold tmK at hκ
 rw [Bool.or_eq_true] at hκ
 rcases hκ with hκ | hκ
 ·exact semJ_ment0 hκ hv hb h
 ·obtain ⟨f, rfl | rfl⟩ := isCo_eq hκ
  ·exact callO_ment hv hb h
  ·obtain ⟨rfl, h⟩ := callr_up h
   exact callO_ment hv hb h
theorem semJ_up {κ : Kd} (hκ : tmK κ = true) {k : Nat} {vs : List DV} (hv : ∀ d, d ∈ vs → d.ment k = false) {b b' : List (Option Box)} (hb : FreeB k b) {v : DV} (x : Option Box)
  (h : semJ P κ vs b (fun v1 b1 => v1 = v ∧ b1 = b')) : semJ P κ vs (setL b k x) (fun v1 b1 => v1 = v ∧ b1 = setL b' k x) ∧ b'.length = b.length := by
 unfold tmK at hκ
 rw [Bool.or_eq_true] at hκ
 rcases hκ with hκ | hκ
 ·exact semJ_up0 hκ hv x h
 ·obtain ⟨f, rfl | rfl⟩ := isCo_eq hκ
  ·exact callO_up hv hb x h
  ·obtain ⟨rfl, h⟩ := callr_up h
   exact ⟨callr_dn (callO_up hv hb x h).1, rfl⟩
theorem semJ_down {κ : Kd} (hκ : tmK κ = true) {k : Nat} {vs : List DV} (hv : ∀ d, d ∈ vs → d.ment k = false) {b b2 : List (Option Box)} (hb : FreeB k b) {v : DV} (x : Option Box)
  (h : semJ P κ vs (setL b k x) (fun v1 b1 => v1 = v ∧ b1 = b2)) : ∃ b', semJ P κ vs b (fun v1 b1 => v1 = v ∧ b1 = b') ∧ b2 = setL b' k x ∧ b'.length = b.length := by
 unfold tmK at hκ
 rw [Bool.or_eq_true] at hκ
 rcases hκ with hκ | hκ
 ·exact semJ_down0 hκ hv x h
 ·obtain ⟨f, rfl | rfl⟩ := isCo_eq hκ
  ·exact callO_down hv hb x h
  ·obtain ⟨e0, h0⟩ := callr_up h
   subst e0
   obtain ⟨b', h1, h2, h3⟩ := callO_down hv hb x h0
   have h4 := (callO_up hv hb (rawB' b k) h1).1
   rw [rawB'_set, show setL b' k (rawB' b k) = b from by rw [← setL_setLN b' k x, ← h2, setL_setLN, rawB'_set]] at h4
   exact ⟨b, callr_dn h4, rfl, rfl⟩
def cstB : List O → Bool
 | [] => true
 | .c (.p _) :: os | .c (.ow _ _ _) :: os | .c .top :: os => cstB os
 | .t _ :: os => cstB os
 | _ => false
theorem vals_free {k : Nat} {s : St} (hN : NoK k s) : ∀ {xs : List O}, cstB xs = true → ∀ d, d ∈ xs.map (O.val s.t) → d.ment k = false
 | [], _, d, hd => by simp at hd
 | .t n :: os, h, d, hd => by
  rcases List.mem_cons.1 hd with hd | hd
  ·subst hd; exact hN.get n
  ·exact vals_free hN (by simpa [cstB] using h) d hd
 | .c (.p x) :: os, h, d, hd => by
  rcases List.mem_cons.1 hd with hd | hd
  ·subst hd; rfl
  ·exact vals_free hN (by simpa [cstB] using h) d hd
 | .c (.ow a b c) :: os, h, d, hd => by
  rcases List.mem_cons.1 hd with hd | hd
  ·subst hd; rfl
  ·exact vals_free hN (by simpa [cstB] using h) d hd
 | .c .top :: os, h, d, hd => by
  rcases List.mem_cons.1 hd with hd | hd
  ·subst hd; rfl
  ·exact vals_free hN (by simpa [cstB] using h) d hd
 | .c (.tup _) :: _, h, _, _ => by simp [cstB] at h
 | .c (.addr _ _ _ _) :: _, h, _, _ => by simp [cstB] at h
 | .c (.bs _ _ _ _ _) :: _, h, _, _ => by simp [cstB] at h
 | .c (.fn _ _) :: _, h, _, _ => by simp [cstB] at h
def tame (i : Ins) : Bool := tmK i.k && ((newBox i.k).isNone && (nolen i.k.core && cstB i.xs))
theorem degV_ment {k : Nat} {κ : Kd} {d : DV} (h : d.ment k = false) : (degV κ d).ment k = false := by
 unfold degV
 split
 ·split
  ·split
   ·rfl
   ·exact h
  ·exact h
 ·exact copy_ment h
theorem NoK.step {k : Nat} {i : Ins} (hi : tame i = true) {s s' : St} (hN : NoK k s) (h : StepK P i s s') : NoK k s' ∧ s'.b.length = s.b.length := by
 simp only [tame, Bool.and_eq_true] at hi
 obtain ⟨h1, _, _, h4⟩ := hi
 cases h with
 | ex v g m e =>
  have hv := vals_free hN h4
  obtain ⟨m1, m2⟩ := semJ_ment h1 hv hN.b m
  refine ⟨⟨fun d hd => ?_, m2⟩, (semJ_up h1 hv hN.b none m).2⟩
  rw [e] at hd
  obtain ⟨n, hn⟩ := List.getElem?_of_mem hd
  rw [U_get] at hn
  split at hn
  ·cases hx : s.t[n]? with
   | none => rw [hx] at hn; simp at hn
   | some y => rw [hx] at hn; simp at hn; subst hn; exact m1
  ·split at hn
   ·cases hx : s.t[n]? with
    | none => rw [hx] at hn; simp at hn
    | some y => rw [hx] at hn; simp at hn; subst hn; exact degV_ment (hN.t y (List.mem_of_getElem? hx))
   ·exact hN.t d (List.mem_of_getElem? hn)
 | sk g e =>
  subst e
  refine ⟨⟨fun d hd => ?_, hN.b⟩, rfl⟩
  cases hdd : i.d with
  | none => rw [hdd] at hd; exact hN.t d hd
  | some n =>
   rw [hdd] at hd
   rcases mem_setL hd with hd | hd
   ·exact hN.t d hd
   ·subst hd; rfl
def al (k size d : Nat) (zero : List DV) (s : St) : St := ⟨setL s.t d (.addr k size 0 0), setL s.b k (some ⟨true, size, [zero], false⟩)⟩
theorem get_off {i : Ins} {d : Nat} (h : d ∉ looks i) (t : List DV) (x : DV) : ∀ n, n ∈ looks i → getT (setL t d x) n = getT t n := by
 intro n hn
 rw [getT_eq, getT_eq, getElem?_setL, if_neg (fun e => h (by subst e; exact hn))]
theorem U_off {i : Ins} {d : Nat} (h : d ∉ looks i) (hd : i.d ≠ some d) (v x : DV) (t : List DV) : U i v (setL t d x) = setL (U i v t) d x := by
 apply List.ext_getElem?
 intro n
 rw [U_get, getElem?_setL, getElem?_setL, U_get]
 by_cases e : n = d
 ·subst e
  have a2 : degS i.k.core i.xs ≠ some n := fun e' => h (looks_xs (degS_mem e'))
  simp [hd, a2]
 ·simp [e]
theorem top_off {i : Ins} {d : Nat} (hd : i.d ≠ some d) (x : DV) (t : List DV) : putD (setL t d x) i.d (.tup []) = setL (putD t i.d (.tup [])) d x := by
 cases hi : i.d with
 | none => rfl
 | some e =>
  have hne : d ≠ e := fun e' => hd (by rw [hi, e'])
  simp only [putD]
  apply List.ext_getElem?
  intro n
  simp only [getElem?_setL]
  by_cases h1 : n = d
  ·subst h1; simp [hne]
  ·by_cases h2 : n = e
   ·subst h2; simp [h1]
   ·simp [h1, h2]
theorem al_right {k size d : Nat} {zero : List DV} {i : Ins} (hi : tame i = true) (hl : d ∉ looks i) (hd : i.d ≠ some d) {s s' : St} (hN : NoK k s) (h : StepK P i s s') : StepK P i (al k size d zero s) (al k size d zero s') := by
 simp only [tame, Bool.and_eq_true] at hi
 obtain ⟨h1, _, _, h4⟩ := hi
 have g := get_off hl s.t (.addr k size 0 0)
 cases h with
 | ex v g1 m e =>
  refine .ex v ((gOK_congr (t := s.t) (t' := (al k size d zero s).t) g).2 g1) ?_ ?_
  ·rw [vals_congr (t := s.t) (t' := (al k size d zero s).t) g]
   exact (semJ_up h1 (vals_free hN h4) hN.b _ m).1
  ·simp only [al]; rw [e, U_off hl hd]
 | sk g1 e =>
  subst e
  refine .sk ((gNo_congr (t := s.t) (t' := (al k size d zero s).t) g).2 g1) ?_
  simp only [al]; rw [top_off hd]
theorem al_left {k size d : Nat} {zero : List DV} {i : Ins} (hi : tame i = true) (hl : d ∉ looks i) (hd : i.d ≠ some d) {s s2 : St} (hN : NoK k s) (h : StepK P i (al k size d zero s) s2) : ∃ s', StepK P i s s' ∧ s2 = al k size d zero s' := by
 simp only [tame, Bool.and_eq_true] at hi
 obtain ⟨h1, _, _, h4⟩ := hi
 have g := get_off hl s.t (.addr k size 0 0)
 cases h with
 | ex v g1 m e =>
  rw [gOK_congr (t := s.t) (t' := (al k size d zero s).t) g] at g1
  rw [vals_congr (t := s.t) (t' := (al k size d zero s).t) g] at m
  obtain ⟨b', m1, m2, _⟩ := semJ_down h1 (vals_free hN h4) hN.b _ m
  refine ⟨⟨U i v s.t, b'⟩, .ex v g1 m1 rfl, ?_⟩
  obtain ⟨t2, b2⟩ := s2
  simp only [al] at e m2 ⊢
  rw [e, m2, U_off hl hd]
 | sk g1 e =>
  rw [gNo_congr (t := s.t) (t' := (al k size d zero s).t) g] at g1
  refine ⟨⟨putD s.t i.d (.tup []), s.b⟩, .sk g1 rfl, ?_⟩
  rw [e]
  simp only [al]; rw [top_off hd]
theorem NoK.al {k k' size d : Nat} {zero : List DV} (hne : k' ≠ k) (hz : ∀ x, x ∈ zero → x.ment k = false) {s : St} (hN : NoK k s) : NoK k (Vc.al k' size d zero s) := by
 refine ⟨fun x hx => ?_, FreeB.set hN.b fun _ r hr x hx => ?_⟩
 ·rcases mem_setL hx with hx | hx
  ·exact hN.t x hx
  ·subst hx; simp [DV.ment, hne]
 ·simp at hr; subst hr; exact hz x hx
theorem al_al {k k' size size' d d' : Nat} {zero zero' : List DV} (hk : k ≠ k') (hd : d ≠ d') (s : St) : al k size d zero (al k' size' d' zero' s) = al k' size' d' zero' (al k size d zero s) := by
 simp only [al]
 rw [setB_comm _ _ _ _ _ hk.symm]
 congr 1
 apply List.ext_getElem?
 intro n
 simp only [getElem?_setL]
 by_cases h1 : n = d
 ·subst h1; simp [hd]
 ·by_cases h2 : n = d'
  ·subst h2; simp [h1]
  ·simp [h1, h2]
end Go.Proofs.YtnjphclbpgajpaaGreatDoor.Vc
