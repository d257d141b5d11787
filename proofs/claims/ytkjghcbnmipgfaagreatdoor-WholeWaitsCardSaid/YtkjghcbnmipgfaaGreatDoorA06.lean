/- Part of a proof over a Go program: MaLoad, MaFit, MaMost, MaSort, MaWin, MaPlan, MaPick, MaMay, MaLaws. No condition. -/
set_option linter.unusedSectionVars false
set_option linter.unusedSimpArgs false
set_option linter.unusedVariables false
namespace Go.Proofs.YtkjghcbnmipgfaaGreatDoor.Ma
structure Ld where
  c : Int
  d : Int
  t : Int
deriving DecidableEq
def Ld.ok (x : Ld) : Bool := decide (1 ≤ x.c) && decide (x.c ≤ 20000) && (decide (1 ≤ x.d) && decide (x.d ≤ x.t) && decide (x.t ≤ 200))
theorem Ld.ok_iff {x : Ld} : x.ok = true ↔ (1 ≤ x.c ∧ x.c ≤ 20000) ∧ (1 ≤ x.d ∧ x.d ≤ x.t) ∧ x.t ≤ 200 := by simp [Ld.ok, and_assoc]
/-- May they all be, are there few enough? -/
def mayL (l : List Ld) : Bool := decide (l.length ≤ 24) && l.all Ld.ok
theorem mayL_iff {l : List Ld} : mayL l = true ↔ l.length ≤ 24 ∧ ∀ x, x ∈ l → x.ok = true := by simp [mayL]
def sumL (f : Ld → Int) : List Ld → Int
  | [] => 0
  | x :: xs => f x + sumL f xs
theorem sumL_append (f : Ld → Int) (a b : List Ld) : sumL f (a ++ b) = sumL f a + sumL f b := by
  induction a with
  | nil => simp [sumL]
  | cons x xs ih => simp [sumL, ih]; omega
theorem sumL_perm {f : Ld → Int} {a b : List Ld} (h : a.Perm b) : sumL f a = sumL f b := by
  induction h with
  | nil => rfl
  | cons x _ ih => simp [sumL, ih]
  | swap x y l => simp [sumL]; omega
  | trans _ _ iha ihb => exact iha.trans ihb
theorem sumL_le {f g : Ld → Int} {l : List Ld} (h : ∀ x, x ∈ l → f x ≤ g x) : sumL f l ≤ sumL g l := by
  induction l with
  | nil => exact Int.le_refl _
  | cons x xs ih =>
    have := h x (List.mem_cons_self ..)
    have := ih fun y hy => h y (List.mem_cons_of_mem _ hy)
    simp only [sumL]; omega
theorem sumL_bound {f : Ld → Int} {l : List Ld} {B : Int} (h : ∀ x, x ∈ l → 0 ≤ f x ∧ f x ≤ B) : 0 ≤ sumL f l ∧ sumL f l ≤ l.length * B := by
  induction l with
  | nil => simp [sumL]
  | cons x xs ih =>
    have h1 := h x (List.mem_cons_self ..)
    have h2 := ih fun y hy => h y (List.mem_cons_of_mem _ hy)
    simp only [sumL, List.length_cons, Int.natCast_succ, Int.add_mul, Int.one_mul]
    omega
theorem sumL_congr {f g : Ld → Int} {l : List Ld} (h : ∀ x, x ∈ l → f x = g x) : sumL f l = sumL g l := by
  induction l with
  | nil => rfl
  | cons x xs ih => simp only [sumL]; rw [h x (List.mem_cons_self ..), ih fun y hy => h y (List.mem_cons_of_mem _ hy)]
/-- How much is asked in the first t ticks (t from 1 on). -/
def ask1 (t : Int) (x : Ld) : Int := x.c * ((t - 1) / x.t + 1)
def asked (l : List Ld) (t : Int) : Int := sumL (ask1 t) l
/-- How much is due. -/
def due1 (t : Int) (x : Ld) : Int := if x.d > t then 0 else x.c * ((t - x.d) / x.t + 1)
def dueL (l : List Ld) (t : Int) : Int := sumL (due1 t) l
theorem ask1_bound {x : Ld} (hx : x.ok = true) {t : Int} (h1 : 1 ≤ t) (h2 : t ≤ 20000) : 1 ≤ ask1 t x ∧ ask1 t x ≤ 400000000 := by
  rw [Ld.ok_iff] at hx
  have h3 : 0 ≤ (t - 1) / x.t := Int.ediv_nonneg (by omega) (by omega)
  have h4 : (t - 1) / x.t ≤ t - 1 := Int.ediv_le_self _ (by omega)
  unfold ask1
  refine ⟨?_, ?_⟩
  · calc (1 : Int) = 1 * 1 := by omega
      _ ≤ x.c * ((t - 1) / x.t + 1) := Int.mul_le_mul (by omega) (by omega) (by omega) (by omega)
  · calc x.c * ((t - 1) / x.t + 1) ≤ 20000 * 20000 := Int.mul_le_mul (by omega) (by omega) (by omega) (by omega)
      _ = 400000000 := by omega
theorem due1_bound {x : Ld} (hx : x.ok = true) {t : Int} (h2 : t ≤ 20000) : 0 ≤ due1 t x ∧ due1 t x ≤ 400000000 := by
  rw [Ld.ok_iff] at hx
  unfold due1
  split
  · omega
  · have h3 : 0 ≤ (t - x.d) / x.t := Int.ediv_nonneg (by omega) (by omega)
    have h4 : (t - x.d) / x.t ≤ t - x.d := Int.ediv_le_self _ (by omega)
    refine ⟨Int.mul_nonneg (by omega) (by omega), ?_⟩
    calc x.c * ((t - x.d) / x.t + 1) ≤ 20000 * 20000 := Int.mul_le_mul (by omega) (by omega) (by omega) (by omega)
      _ = 400000000 := by omega
theorem due_bound {l : List Ld} (hl : mayL l = true) {t : Int} (h2 : t ≤ 20000) : 0 ≤ dueL l t ∧ dueL l t ≤ 9600000000 := by
  rw [mayL_iff] at hl
  have h : 0 ≤ dueL l t ∧ dueL l t ≤ l.length * 400000000 := sumL_bound (l := l) (f := due1 t) (B := 400000000) fun x hx => due1_bound (hl.2 x hx) h2
  omega
theorem ask1_mono {x : Ld} (hx : x.ok = true) {s t : Int} (h : s ≤ t) : ask1 s x ≤ ask1 t x := by
  rw [Ld.ok_iff] at hx
  have h3 : (s - 1) / x.t ≤ (t - 1) / x.t := Int.ediv_le_ediv (by omega) (by omega)
  exact Int.mul_le_mul_of_nonneg_left (by omega) (by omega)
theorem asked_mono {l : List Ld} (hl : mayL l = true) {s t : Int} (h : s ≤ t) : asked l s ≤ asked l t := by
  rw [mayL_iff] at hl
  exact sumL_le fun x hx => ask1_mono (hl.2 x hx) h
theorem asked_pos {l : List Ld} (hl : mayL l = true) (hn : l ≠ []) {t : Int} (h : 1 ≤ t) (h2 : t ≤ 20000) : 1 ≤ asked l t := by
  rw [mayL_iff] at hl
  cases l with
  | nil => exact absurd rfl hn
  | cons x xs =>
    have h1 := ask1_bound (hl.2 x (List.mem_cons_self ..)) h h2
    have h3 : 0 ≤ sumL (ask1 t) xs ∧ sumL (ask1 t) xs ≤ xs.length * 400000000 := sumL_bound fun y hy => by have := ask1_bound (hl.2 y (List.mem_cons_of_mem _ hy)) h h2; omega
    simp only [asked, sumL]; omega
/-- 'e' is the busy time. -/
structure Busy (l : List Ld) (e : Int) : Prop where
  lo : 1 ≤ e
  hi : e ≤ 20000
  eq : asked l e = e
  least : ∀ s, 1 ≤ s → s < e → asked l s ≠ s
theorem Busy.uniq {l : List Ld} {e e' : Int} (h : Busy l e) (h' : Busy l e') : e = e' := by
  rcases Int.lt_trichotomy e e' with hlt | heq | hgt
  · exact absurd h.eq (h'.least e h.lo hlt)
  · exact heq
  · exact absurd h'.eq (h.least e' h'.lo hgt)
/-- Where not more is asked than there is time there is a busy time. -/
theorem busy_of_le {l : List Ld} (hl : mayL l = true) (hn : l ≠ []) {e : Int} (h1 : 1 ≤ e) (h2 : e ≤ 20000) (h : asked l e ≤ e) : ∃ e', Busy l e' ∧ e' ≤ e := by
  obtain ⟨n, rfl⟩ := Int.eq_ofNat_of_zero_le (show 0 ≤ e by omega)
  induction n using Nat.strongRecOn with
  | ind n ih =>
    by_cases hs : ∃ m : Nat, 1 ≤ m ∧ m < n ∧ asked l m ≤ m
    · obtain ⟨m, m1, m2, m3⟩ := hs
      obtain ⟨e', he, hle⟩ := ih m m2 (by omega) (by omega) m3
      exact ⟨e', he, by omega⟩
    · have hno : ∀ s : Int, 1 ≤ s → s < n → ¬ asked l s ≤ s := fun s s1 s2 hle => by
        obtain ⟨m, rfl⟩ := Int.eq_ofNat_of_zero_le (show 0 ≤ s by omega)
        exact hs ⟨m, by omega, by omega, hle⟩
      refine ⟨n, ⟨h1, h2, ?_, fun s s1 s2 e => hno s s1 s2 (by omega)⟩, Int.le_refl _⟩
      by_cases hb : (n : Int) = 1
      · have := asked_pos hl hn h1 h2; omega
      · have := hno (n - 1) (by omega) (by omega)
        have := asked_mono hl (s := (n : Int) - 1) (t := n) (by omega)
        omega
/-- The loads fit on a core. -/
def FitsP (l : List Ld) : Prop := mayL l = true ∧ (l = [] ∨ ∃ e, Busy l e ∧ ∀ t, 1 ≤ t → t ≤ e → dueL l t ≤ t)
open Classical in
noncomputable def fitsB (l : List Ld) : Bool := decide (FitsP l)
theorem fitsB_iff {l : List Ld} : fitsB l = true ↔ FitsP l := by simp [fitsB]
theorem fitsB_false {l : List Ld} : fitsB l = false ↔ ¬ FitsP l := by simp [fitsB]
theorem asked_perm {a b : List Ld} (h : a.Perm b) (t : Int) : asked a t = asked b t := sumL_perm h
theorem due_perm {a b : List Ld} (h : a.Perm b) (t : Int) : dueL a t = dueL b t := sumL_perm h
theorem mayL_perm {a b : List Ld} (h : a.Perm b) : mayL a = mayL b := by
  rw [Bool.eq_iff_iff, mayL_iff, mayL_iff, h.length_eq]
  exact ⟨fun ⟨h1, h2⟩ => ⟨h1, fun x hx => h2 x (h.mem_iff.2 hx)⟩, fun ⟨h1, h2⟩ => ⟨h1, fun x hx => h2 x (h.mem_iff.1 hx)⟩⟩
theorem Busy.perm {a b : List Ld} (h : a.Perm b) {e : Int} (hb : Busy a e) : Busy b e :=
  ⟨hb.lo, hb.hi, (asked_perm h e).symm.trans hb.eq, fun s h1 h2 hs => hb.least s h1 h2 ((asked_perm h s).trans hs)⟩
theorem FitsP.perm {a b : List Ld} (h : a.Perm b) (hf : FitsP a) : FitsP b := by
  obtain ⟨h1, h2⟩ := hf
  refine ⟨(mayL_perm h).symm.trans h1, ?_⟩
  rcases h2 with rfl | ⟨e, he, hd⟩
  · exact .inl h.nil_eq.symm
  · exact .inr ⟨e, he.perm h, fun t t1 t2 => (due_perm h t) ▸ hd t t1 t2⟩
theorem fitsB_perm {a b : List Ld} (h : a.Perm b) : fitsB a = fitsB b := by
  rw [Bool.eq_iff_iff, fitsB_iff, fitsB_iff]; exact ⟨FitsP.perm h, FitsP.perm h.symm⟩
/-- Less of the same. -/
theorem FitsP.less {l : List Ld} {c c' d t : Int} (hf : FitsP (l ++ [⟨c, d, t⟩])) (h1 : 1 ≤ c') (h2 : c' ≤ c) : FitsP (l ++ [⟨c', d, t⟩]) := by
  obtain ⟨hm, hf⟩ := hf
  have hm0 := mayL_iff.1 hm
  have hc := Ld.ok_iff.1 (hm0.2 ⟨c, d, t⟩ (by simp))
  have hm' : mayL (l ++ [⟨c', d, t⟩]) = true := by
    rw [mayL_iff]
    refine ⟨by simpa using hm0.1, fun x hx => ?_⟩
    rcases List.mem_append.1 hx with hx | hx
    · exact hm0.2 x (by simp [hx])
    · simp only [List.mem_singleton] at hx
      subst hx
      rw [Ld.ok_iff]
      simp only at hc ⊢
      omega
  have ha : ∀ s : Int, 1 ≤ s → asked (l ++ [⟨c', d, t⟩]) s ≤ asked (l ++ [⟨c, d, t⟩]) s := by
    intro s hs
    simp only [asked, sumL_append, sumL, ask1]
    have h3 : 0 ≤ (s - 1) / t := Int.ediv_nonneg (by omega) (by simp only at hc; omega)
    have := Int.mul_le_mul_of_nonneg_right h2 (show 0 ≤ (s - 1) / t + 1 by omega)
    omega
  have hd : ∀ s : Int, dueL (l ++ [⟨c', d, t⟩]) s ≤ dueL (l ++ [⟨c, d, t⟩]) s := by
    intro s
    simp only [dueL, sumL_append, sumL, due1]
    split
    · omega
    · have h3 : 0 ≤ (s - d) / t := Int.ediv_nonneg (by omega) (by simp only at hc; omega)
      have := Int.mul_le_mul_of_nonneg_right h2 (show 0 ≤ (s - d) / t + 1 by omega)
      omega
  refine ⟨hm', .inr ?_⟩
  rcases hf with hf | ⟨e, he, hdue⟩
  · simp at hf
  · obtain ⟨e', he', hle⟩ := busy_of_le hm' (by simp) he.lo he.hi (by have := ha e he.lo; have := he.eq; omega)
    exact ⟨e', he', fun s s1 s2 => by have := hdue s s1 (by omega); have := hd s; omega⟩
/-- What is due grows at deadlines alone. -/
theorem due1_step {x : Ld} (hx : x.ok = true) (t : Int) : due1 t x = due1 (t - 1) x + if t ≥ x.d ∧ (t - x.d) % x.t = 0 then x.c else 0 := by
  rw [Ld.ok_iff] at hx
  unfold due1
  by_cases h1 : x.d > t
  · rw [if_pos h1, if_pos (by omega), if_neg (by omega)]; omega
  · rw [if_neg h1]
    by_cases h2 : x.d > t - 1
    · have : t = x.d := by omega
      subst this
      rw [if_pos h2, if_pos ⟨by omega, by simp⟩]
      simp
    · rw [if_neg h2]
      have e1 := Int.mul_ediv_add_emod (t - x.d) x.t
      by_cases h3 : (t - x.d) % x.t = 0
      · rw [if_pos ⟨by omega, h3⟩]
        have e2 : (t - 1 - x.d) / x.t = (t - x.d) / x.t - 1 := by
          have : t - 1 - x.d = (x.t - 1) + x.t * ((t - x.d) / x.t - 1) := by
            rw [Int.mul_sub]; omega
          rw [this, Int.add_mul_ediv_left _ _ (by omega), Int.ediv_eq_zero_of_lt (by omega) (by omega)]; omega
        rw [e2]
        have : (t - x.d) / x.t - 1 + 1 = (t - x.d) / x.t := by omega
        rw [this, Int.mul_add]; omega
      · rw [if_neg fun h => h3 h.2]
        have hlt := Int.emod_lt_of_pos (t - x.d) (show 0 < x.t by omega)
        have hge := Int.emod_nonneg (t - x.d) (show x.t ≠ 0 by omega)
        have e2 : (t - 1 - x.d) / x.t = (t - x.d) / x.t := by
          have : t - 1 - x.d = ((t - x.d) % x.t - 1) + x.t * ((t - x.d) / x.t) := by omega
          rw [this, Int.add_mul_ediv_left _ _ (by omega), Int.ediv_eq_zero_of_lt (by omega) (by omega)]; omega
        rw [e2]; omega
theorem due_zero {l : List Ld} (hl : mayL l = true) : dueL l 0 = 0 := by
  rw [mayL_iff] at hl
  have : dueL l 0 = sumL (fun _ => 0) l := sumL_congr fun x hx => by
    have := Ld.ok_iff.1 (hl.2 x hx)
    unfold due1
    rw [if_pos (by omega)]
  rw [this]
  clear this hl
  induction l with
  | nil => rfl
  | cons x xs ih => simp [sumL, ih]
/-- Where at no deadline too much is dueL it never is. -/
theorem due_le_of {l : List Ld} (hl : mayL l = true) {F : Int} (h : ∀ x, x ∈ l → ∀ k : Int, 0 ≤ k → x.d + k * x.t < F → dueL l (x.d + k * x.t) ≤ x.d + k * x.t) : ∀ t, 0 ≤ t → t < F → dueL l t ≤ t := by
  intro t ht
  obtain ⟨n, rfl⟩ := Int.eq_ofNat_of_zero_le ht
  clear ht
  induction n with
  | zero => intro _; have := due_zero hl; simp only [Int.natCast_zero] at *; omega
  | succ n ih =>
    intro hF
    simp only [Int.natCast_succ] at *
    by_cases hx : ∃ x, x ∈ l ∧ ((n : Int) + 1 ≥ x.d ∧ ((n : Int) + 1 - x.d) % x.t = 0)
    · obtain ⟨x, hx, h1, h2⟩ := hx
      have hok := Ld.ok_iff.1 ((mayL_iff.1 hl).2 x hx)
      have e1 := Int.mul_ediv_add_emod ((n : Int) + 1 - x.d) x.t
      have e2 : (n : Int) + 1 = x.d + ((n : Int) + 1 - x.d) / x.t * x.t := by rw [Int.mul_comm]; omega
      have := h x hx (((n : Int) + 1 - x.d) / x.t) (Int.ediv_nonneg (by omega) (by omega)) (by omega)
      rw [← e2] at this
      exact this
    · have : dueL l ((n : Int) + 1) = dueL l n := sumL_congr fun x hm => by
        rw [due1_step ((mayL_iff.1 hl).2 x hm), if_neg fun hh => hx ⟨x, hm, hh⟩]
        have : (n : Int) + 1 - 1 = n := by omega
        rw [this]; omega
      have := ih (by omega)
      omega
end Go.Proofs.YtkjghcbnmipgfaaGreatDoor.Ma
namespace Go.Proofs.YtkjghcbnmipgfaaGreatDoor.Ma
open Classical in
/-- The busy time. -/
noncomputable def timeV (l : List Ld) : Int × Bool :=
  if mayL l = false then (0, false) else if l = [] then (0, true) else if h : ∃ e, Busy l e then (h.choose, true) else (0, false)
theorem timeV_bad {l : List Ld} (h : mayL l = false) : timeV l = (0, false) := by unfold timeV; rw [if_pos h]
theorem timeV_nil : timeV [] = (0, true) := by
  have : mayL [] = true := by decide
  unfold timeV; rw [if_neg (by rw [this]; decide), if_pos rfl]
theorem timeV_busy {l : List Ld} (h : mayL l = true) (hn : l ≠ []) {e : Int} (hb : Busy l e) : timeV l = (e, true) := by
  have hx : ∃ e, Busy l e := ⟨e, hb⟩
  unfold timeV
  rw [if_neg (by rw [h]; decide), if_neg hn, dif_pos hx, hx.choose_spec.uniq hb]
theorem timeV_none {l : List Ld} (h : mayL l = true) (hn : l ≠ []) (hb : ¬ ∃ e, Busy l e) : timeV l = (0, false) := by
  unfold timeV
  rw [if_neg (by rw [h]; decide), if_neg hn, dif_neg hb]
theorem timeV_ok {l : List Ld} (h : (timeV l).2 = true) : mayL l = true ∧ ((l = [] ∧ (timeV l).1 = 0) ∨ (l ≠ [] ∧ Busy l (timeV l).1)) := by
  cases hm : mayL l with
  | false => rw [timeV_bad hm] at h; cases h
  | true =>
    refine ⟨rfl, ?_⟩
    by_cases hn : l = []
    · subst hn; exact .inl ⟨rfl, by rw [timeV_nil]⟩
    · by_cases hb : ∃ e, Busy l e
      · obtain ⟨e, he⟩ := hb
        rw [timeV_busy hm hn he]
        exact .inr ⟨hn, he⟩
      · rw [timeV_none hm hn hb] at h; cases h
theorem timeV_range (l : List Ld) : 0 ≤ (timeV l).1 ∧ (timeV l).1 ≤ 20000 := by
  cases h : (timeV l).2 with
  | true =>
    rcases (timeV_ok h).2 with ⟨_, e⟩ | ⟨_, hb⟩
    · omega
    · have := hb.lo; have := hb.hi; omega
  | false =>
    unfold timeV at *
    split at h <;> rename_i h1
    · rw [if_pos h1]; simp
    · rw [if_neg h1]
      split at h <;> rename_i h2
      · cases h
      · rw [if_neg h2]
        split at h <;> rename_i h3
        · cases h
        · rw [dif_neg h3]; simp
/-- What the search for the busy time knows of the time at which it stands. -/
structure Seek (l : List Ld) (t : Int) : Prop where
  may : mayL l = true
  one : l ≠ []
  lo : 1 ≤ t
  up : t ≤ 20000 → t ≤ asked l t
  low : ∀ e, Busy l e → t ≤ e
theorem Seek.start {l : List Ld} (h : mayL l = true) (hn : l ≠ []) : Seek l 1 := ⟨h, hn, Int.le_refl _, fun _ => asked_pos h hn (Int.le_refl _) (by omega), fun _ he => he.lo⟩
theorem Seek.found {l : List Ld} {t : Int} (h : Seek l t) (ht : t ≤ 20000) (he : asked l t = t) : timeV l = (t, true) := by
  refine timeV_busy h.may h.one ⟨h.lo, ht, he, fun s h1 h2 hs => ?_⟩
  obtain ⟨e, he, hle⟩ := busy_of_le h.may h.one h1 (by omega) (by omega)
  have := h.low e he
  omega
theorem Seek.next {l : List Ld} {t : Int} (h : Seek l t) (ht : t ≤ 20000) (hne : asked l t ≠ t) : Seek l (asked l t) ∧ t < asked l t := by
  have h1 := h.up ht
  have h2 := h.lo
  exact ⟨⟨h.may, h.one, by omega, fun _ => asked_mono h.may h1, fun e he => by have := asked_mono h.may (h.low e he); have := he.eq; omega⟩, by omega⟩
theorem Seek.never {l : List Ld} {t : Int} (h : Seek l t) (ht : ¬ t ≤ 20000) : timeV l = (0, false) :=
  timeV_none h.may h.one fun ⟨e, he⟩ => by have := h.low e he; have := he.hi; omega
/-- The first time at which too much is dueL. -/
structure OverAt (l : List Ld) (e t : Int) : Prop where
  lo : 1 ≤ t
  hi : t ≤ e
  over : t < dueL l t
  first : ∀ s, 1 ≤ s → s < t → dueL l s ≤ s
theorem OverAt.uniq {l : List Ld} {e t t' : Int} (h : OverAt l e t) (h' : OverAt l e t') : t = t' := by
  rcases Int.lt_trichotomy t t' with hlt | heq | hgt
  · have := h'.first t h.lo hlt; have := h.over; omega
  · exact heq
  · have := h.first t' h'.lo hgt; have := h'.over; omega
open Classical in
noncomputable def firstV (l : List Ld) (e : Int) : Int := if h : ∃ t, OverAt l e t then h.choose else 0
theorem firstV_at {l : List Ld} {e t : Int} (h : OverAt l e t) : firstV l e = t := by
  have hx : ∃ t, OverAt l e t := ⟨t, h⟩
  unfold firstV; rw [dif_pos hx]; exact hx.choose_spec.uniq h
theorem firstV_none {l : List Ld} {e : Int} (h : ∀ t, 1 ≤ t → t ≤ e → dueL l t ≤ t) : firstV l e = 0 := by
  unfold firstV; rw [dif_neg fun ⟨t, ht⟩ => by have := h t ht.lo ht.hi; have := ht.over; omega]
theorem firstV_cases (l : List Ld) (e : Int) : OverAt l e (firstV l e) ∨ (firstV l e = 0 ∧ ∀ t, 1 ≤ t → t ≤ e → dueL l t ≤ t) := by
  by_cases hx : ∃ t, OverAt l e t
  · obtain ⟨t, ht⟩ := hx; rw [firstV_at ht]; exact .inl ht
  · refine .inr ⟨by unfold firstV; rw [dif_neg hx], fun t h1 h2 => ?_⟩
    obtain ⟨n, rfl⟩ := Int.eq_ofNat_of_zero_le (show 0 ≤ t by omega)
    induction n using Nat.strongRecOn with
    | ind n ih =>
      refine Int.not_lt.1 fun hlt => hx ⟨n, h1, h2, hlt, fun s s1 s2 => ?_⟩
      obtain ⟨m, rfl⟩ := Int.eq_ofNat_of_zero_le (show 0 ≤ s by omega)
      exact ih m (by omega) s1 (by omega)
theorem fitsB_eq (l : List Ld) : fitsB l = ((timeV l).2 && decide (firstV l (timeV l).1 = 0)) := by
  rw [Bool.eq_iff_iff, fitsB_iff, Bool.and_eq_true, decide_eq_true_eq]
  constructor
  · rintro ⟨h1, rfl | ⟨e, he, hd⟩⟩
    · rw [timeV_nil]; exact ⟨rfl, firstV_none fun t h1 h2 => by simp only at h2; omega⟩
    · have hn : l ≠ [] := fun e0 => by
        subst e0
        have h2 := he.eq; have := he.lo
        simp only [asked, sumL] at h2; omega
      rw [timeV_busy h1 hn he]
      exact ⟨rfl, firstV_none hd⟩
  · rintro ⟨h1, h2⟩
    obtain ⟨h3, h4⟩ := timeV_ok h1
    refine ⟨h3, ?_⟩
    rcases h4 with ⟨rfl, _⟩ | ⟨_, hb⟩
    · exact .inl rfl
    · refine .inr ⟨_, hb, ?_⟩
      rcases firstV_cases l (timeV l).1 with h | h
      · have := h.lo; omega
      · exact h.2
/-- What the search over deadlines knows: 'first' is too late by one or too much is dueL then; ahead of it, at the deadlines that were seen, not. -/
structure Look (l : List Ld) (e first : Int) (seen : Ld → Int → Prop) : Prop where
  may : mayL l = true
  fst : first = e + 1 ∨ (1 ≤ first ∧ first ≤ e ∧ first < dueL l first)
  ok : ∀ x, x ∈ l → ∀ k : Int, 0 ≤ k → seen x k → x.d + k * x.t < first → dueL l (x.d + k * x.t) ≤ x.d + k * x.t
theorem Look.end {l : List Ld} {e first : Int} {seen : Ld → Int → Prop} (h : Look l e first seen) (hs : ∀ x, x ∈ l → ∀ k, 0 ≤ k → x.d + k * x.t < first → seen x k) : firstV l e = if first > e then 0 else first := by
  have hd : ∀ t, 0 ≤ t → t < first → dueL l t ≤ t := due_le_of h.may fun x hx k hk hlt => h.ok x hx k hk (hs x hx k hk hlt) hlt
  rcases h.fst with h1 | ⟨h1, h2, h3⟩
  · rw [if_pos (by omega)]
    exact firstV_none fun t t1 t2 => hd t (by omega) (by omega)
  · rw [if_neg (by omega)]
    exact firstV_at ⟨h1, h2, h3, fun s s1 s2 => hd s (by omega) s2⟩
end Go.Proofs.YtkjghcbnmipgfaaGreatDoor.Ma
namespace Go.Proofs.YtkjghcbnmipgfaaGreatDoor.Ma
/-- With one more. -/
noncomputable def fitW (l : List Ld) (c d t : Int) : Bool := fitsB (l ++ [⟨c, d, t⟩])
theorem fitW_less {l : List Ld} {c c' d t : Int} (h : fitW l c d t = true) (h1 : 1 ≤ c') (h2 : c' ≤ c) : fitW l c' d t = true := by
  unfold fitW at *
  rw [fitsB_iff] at *
  exact h.less h1 h2
theorem fitW_ok {l : List Ld} {c d t : Int} (h : fitW l c d t = true) : (1 ≤ c ∧ c ≤ 20000) ∧ (1 ≤ d ∧ d ≤ t) ∧ t ≤ 200 := by
  unfold fitW at h
  rw [fitsB_iff] at h
  have := (mayL_iff.1 h.1).2 ⟨c, d, t⟩ (by simp)
  rwa [Ld.ok_iff] at this
noncomputable def mayM (l : List Ld) (d t : Int) : Bool := decide (l.length ≤ 23) && (decide (1 ≤ d) && (decide (d ≤ t) && (decide (t ≤ 200) && fitsB l)))
noncomputable def mostDown (l : List Ld) (d t : Int) : Nat → Int
  | 0 => 0
  | n + 1 => if fitW l (n + 1 : Int) d t then (n + 1 : Int) else mostDown l d t n
theorem mostDown_spec (l : List Ld) (d t : Int) (n : Nat) : 0 ≤ mostDown l d t n ∧ mostDown l d t n ≤ n ∧ (mostDown l d t n ≠ 0 → fitW l (mostDown l d t n) d t = true) ∧ ∀ c, mostDown l d t n < c → c ≤ n → fitW l c d t = false := by
  induction n with
  | zero => simp only [mostDown]; exact ⟨by omega, by omega, fun h => absurd rfl h, fun c h1 h2 => by omega⟩
  | succ n ih =>
    simp only [mostDown]
    split
    · rename_i h
      exact ⟨by omega, by omega, fun _ => h, fun c h1 h2 => by omega⟩
    · rename_i h
      refine ⟨ih.1, by omega, ih.2.2.1, fun c h1 h2 => ?_⟩
      by_cases hc : c = (n + 1 : Int)
      · subst hc; simpa using h
      · exact ih.2.2.2 c h1 (by omega)
noncomputable def mostV (l : List Ld) (d t m : Int) : Int := if mayM l d t then mostDown l d t (min m d).toNat else 0
noncomputable def tightUp (l : List Ld) (t : Int) : Nat → Int → Int
  | 0, c => c
  | n + 1, c => if fitW l (c + 1) (c + 1) t then tightUp l t n (c + 1) else c
noncomputable def tightV (l : List Ld) (t m : Int) : Int := if mayM l t t then tightUp l t (min m t).toNat 0 else 0
theorem tightUp_bound (l : List Ld) (t : Int) (n : Nat) (c : Int) : c ≤ tightUp l t n c ∧ tightUp l t n c ≤ c + n := by
  induction n generalizing c with
  | zero => simp [tightUp]
  | succ n ih =>
    simp only [tightUp]
    split
    · have := ih (c + 1); omega
    · omega
theorem tightUp_fit (l : List Ld) (t : Int) (n : Nat) (c : Int) (h : c < tightUp l t n c) : fitW l (tightUp l t n c) (tightUp l t n c) t = true := by
  induction n generalizing c with
  | zero => simp [tightUp] at h
  | succ n ih =>
    simp only [tightUp] at h ⊢
    split at h
    · rename_i hf
      rw [if_pos hf]
      by_cases hlt : c + 1 < tightUp l t n (c + 1)
      · exact ih _ hlt
      · have := (tightUp_bound l t n (c + 1)).1
        have e : tightUp l t n (c + 1) = c + 1 := by omega
        rw [e]; exact hf
    · omega
theorem mostV_bound (l : List Ld) (d t m : Int) : 0 ≤ mostV l d t m ∧ (mostV l d t m ≠ 0 → mostV l d t m ≤ m ∧ mostV l d t m ≤ d ∧ fitW l (mostV l d t m) d t = true) := by
  unfold mostV
  split
  · obtain ⟨k0, k1, k2, k3⟩ := mostDown_spec l d t (min m d).toNat
    refine ⟨k0, fun h => ⟨by omega, by omega, k2 h⟩⟩
  · exact ⟨by omega, fun h => absurd rfl h⟩
theorem tightV_bound (l : List Ld) (t m : Int) : 0 ≤ tightV l t m ∧ (tightV l t m ≠ 0 → tightV l t m ≤ m ∧ tightV l t m ≤ t ∧ fitW l (tightV l t m) (tightV l t m) t = true) := by
  unfold tightV
  split
  · have h := tightUp_bound l t (min m t).toNat 0
    refine ⟨by omega, fun h0 => ⟨by omega, by omega, tightUp_fit l t _ 0 (by omega)⟩⟩
  · exact ⟨by omega, fun h => absurd rfl h⟩
theorem fitW_perm {a b : List Ld} (h : a.Perm b) (c d t : Int) : fitW a c d t = fitW b c d t := fitsB_perm (h.append_right _)
theorem mayM_perm {a b : List Ld} (h : a.Perm b) (d t : Int) : mayM a d t = mayM b d t := by
  unfold mayM; rw [h.length_eq, fitsB_perm h]
theorem mostDown_perm {a b : List Ld} (h : a.Perm b) (d t : Int) (n : Nat) : mostDown a d t n = mostDown b d t n := by
  induction n with
  | zero => rfl
  | succ n ih => simp only [mostDown]; rw [fitW_perm h, ih]
theorem mostV_perm {a b : List Ld} (h : a.Perm b) (d t m : Int) : mostV a d t m = mostV b d t m := by
  unfold mostV; rw [mayM_perm h, mostDown_perm h]
/-- The first core that takes it, or -1. -/
noncomputable def coreFrom (x : Ld) : List (List Ld) → Int → Int
  | [], _ => -1
  | l :: ls, k => if fitsB (l ++ [x]) then k else coreFrom x ls (k + 1)
noncomputable def coreV (ls : List (List Ld)) (x : Ld) : Int := coreFrom x ls 0
theorem coreFrom_none {x : Ld} {ls : List (List Ld)} : ∀ {k : Int}, 0 ≤ k → (coreFrom x ls k < 0 ↔ ∀ l, l ∈ ls → fitsB (l ++ [x]) = false) := by
  induction ls with
  | nil => intro k _; simp [coreFrom]
  | cons l ls ih =>
    intro k hk
    simp only [coreFrom]
    split
    · rename_i h
      constructor
      · omega
      · intro h'
        have := h' l (List.mem_cons_self ..)
        rw [h] at this; cases this
    · rename_i h
      rw [ih (by omega)]
      have h : fitsB (l ++ [x]) = false := by simpa using h
      constructor
      · intro h' y hy
        rcases List.mem_cons.1 hy with rfl | hy
        · exact h
        · exact h' y hy
      · exact fun h' y hy => h' y (List.mem_cons_of_mem _ hy)
theorem coreFrom_some {x : Ld} {ls : List (List Ld)} : ∀ {k : Int}, 0 ≤ k → ¬ coreFrom x ls k < 0 → ∃ i : Nat, ∃ h : i < ls.length, coreFrom x ls k = k + i ∧ fitsB (ls[i] ++ [x]) = true ∧ ∀ (j : Nat) (hj : j < i), fitsB (ls[j]'(by omega) ++ [x]) = false := by
  induction ls with
  | nil => intro k _ h; simp [coreFrom] at h
  | cons l ls ih =>
    intro k hk h
    simp only [coreFrom] at h ⊢
    split at h
    · rename_i hf
      rw [if_pos hf]
      exact ⟨0, by simp, by simp, hf, fun j hj => absurd hj (Nat.not_lt_zero j)⟩
    · rename_i hf
      rw [if_neg hf]
      obtain ⟨i, hi, e, h1, h2⟩ := ih (by omega) h
      refine ⟨i + 1, by simp [hi], by omega, by simpa using h1, fun j hj => ?_⟩
      cases j with
      | zero => simpa using hf
      | succ j => simpa using h2 j (by omega)
theorem coreV_some {x : Ld} {ls : List (List Ld)} (h : ¬ coreV ls x < 0) : ∃ i : Nat, ∃ h : i < ls.length, coreV ls x = i ∧ fitsB (ls[i] ++ [x]) = true ∧ ∀ (j : Nat) (hj : j < i), fitsB (ls[j]'(by omega) ++ [x]) = false := by
  obtain ⟨i, hi, e, h1, h2⟩ := coreFrom_some (Int.le_refl 0) h
  exact ⟨i, hi, by unfold coreV; omega, h1, h2⟩
theorem coreV_none {x : Ld} {ls : List (List Ld)} : coreV ls x < 0 ↔ ∀ l, l ∈ ls → fitsB (l ++ [x]) = false := coreFrom_none (Int.le_refl 0)
theorem coreV_ge (x : Ld) (ls : List (List Ld)) : -1 ≤ coreV ls x ∧ coreV ls x < ls.length := by
  by_cases h : coreV ls x < 0
  · suffices ∀ (ls : List (List Ld)) (k : Int), 0 ≤ k → -1 ≤ coreFrom x ls k by
      have := this ls 0 (by omega); unfold coreV at *; omega
    intro ls
    induction ls with
    | nil => intro k _; simp [coreFrom]
    | cons l ls ih => intro k hk; simp only [coreFrom]; split <;> first | omega | exact ih _ (by omega)
  · obtain ⟨i, hi, e, _⟩ := coreV_some h; omega
/-- The windows' length. -/
def sizeV (D lag n : Int) : Int := if n < 1 ∨ D - (n - 1) * lag < n then 0 else (D - (n - 1) * lag) / n
end Go.Proofs.YtkjghcbnmipgfaaGreatDoor.Ma
namespace Go.Proofs.YtkjghcbnmipgfaaGreatDoor.Ma
def insRev {α : Type} (lt : α → α → Bool) (e : α) : List α → List α
  | [] => [e]
  | b :: bs => if lt e b then b :: insRev lt e bs else e :: b :: bs
def isRev {α : Type} (lt : α → α → Bool) (l : List α) : List α := l.foldl (fun acc e => insRev lt e acc) []
/-- The sort by insertion. -/
def isort {α : Type} (lt : α → α → Bool) (l : List α) : List α := (isRev lt l).reverse
theorem insRev_perm {α : Type} (lt : α → α → Bool) (e : α) (l : List α) : (insRev lt e l).Perm (e :: l) := by
  induction l with
  | nil => exact .refl _
  | cons b bs ih =>
    simp only [insRev]
    split
    · exact (ih.cons b).trans (.swap e b bs)
    · exact .refl _
theorem isRev_append {α : Type} (lt : α → α → Bool) (l : List α) (e : α) : isRev lt (l ++ [e]) = insRev lt e (isRev lt l) := by
  simp [isRev, List.foldl_append]
theorem isRev_perm {α : Type} (lt : α → α → Bool) (l : List α) : (isRev lt l).Perm l := by
  suffices ∀ (l acc : List α), (l.foldl (fun acc e => insRev lt e acc) acc).Perm (acc ++ l) by simpa [isRev] using this l []
  intro l
  induction l with
  | nil => intro acc; simp
  | cons e es ih =>
    intro acc
    simp only [List.foldl_cons]
    refine (ih _).trans ?_
    refine ((insRev_perm lt e acc).append_right es).trans ?_
    exact List.perm_middle.symm
theorem isort_perm {α : Type} (lt : α → α → Bool) (l : List α) : (isort lt l).Perm l := (List.reverse_perm _).trans (isRev_perm lt l)
theorem isort_length {α : Type} (lt : α → α → Bool) (l : List α) : (isort lt l).length = l.length := (isort_perm lt l).length_eq
/-- Inserted, it stands in order. -/
theorem insRev_sorted {α : Type} {lt : α → α → Bool} {r : α → α → Prop} (e : α) (htr : ∀ a b c, r a b → r b c → r a c) :
    ∀ (l : List α), (∀ b, b ∈ l → (lt e b = true → r e b) ∧ (lt e b = false → r b e)) → l.Pairwise (fun a b => r b a) → (insRev lt e l).Pairwise fun a b => r b a := by
  intro l
  induction l with
  | nil => intro _ _; simp [insRev]
  | cons b bs ih =>
    intro he hp
    rw [List.pairwise_cons] at hp
    simp only [insRev]
    split
    · rename_i h
      rw [List.pairwise_cons]
      refine ⟨fun x hx => ?_, ih (fun y hy => he y (List.mem_cons_of_mem _ hy)) hp.2⟩
      rcases List.mem_cons.1 ((insRev_perm lt e bs).mem_iff.1 hx) with rfl | hx
      · exact (he b (List.mem_cons_self ..)).1 h
      · exact hp.1 x hx
    · rename_i h
      have hb := (he b (List.mem_cons_self ..)).2 (by simpa using h)
      rw [List.pairwise_cons]
      refine ⟨fun x hx => ?_, List.pairwise_cons.2 hp⟩
      rcases List.mem_cons.1 hx with rfl | hx
      · exact hb
      · exact htr _ _ _ (hp.1 x hx) hb
theorem isort_sorted {α : Type} {lt : α → α → Bool} {r : α → α → Prop} (htr : ∀ a b c, r a b → r b c → r a c) (l : List α)
    (h : l.Pairwise fun a b => (lt b a = true → r b a) ∧ (lt b a = false → r a b)) : (isort lt l).Pairwise r := by
  unfold isort
  rw [List.pairwise_reverse]
  suffices ∀ (l acc : List α), acc.Pairwise (fun a b => r b a) → (∀ a, a ∈ acc → ∀ b, b ∈ l → (lt b a = true → r b a) ∧ (lt b a = false → r a b)) →
      l.Pairwise (fun a b => (lt b a = true → r b a) ∧ (lt b a = false → r a b)) → (l.foldl (fun acc e => insRev lt e acc) acc).Pairwise fun a b => r b a from this l [] List.Pairwise.nil (fun a h => by cases h) h
  intro l
  induction l with
  | nil => intro acc h _ _; exact h
  | cons e es ih =>
    intro acc hacc h1 h2
    rw [List.pairwise_cons] at h2
    simp only [List.foldl_cons]
    refine ih _ (insRev_sorted e htr acc (fun b hb => h1 b hb e (List.mem_cons_self ..)) hacc) (fun a ha b hb => ?_) h2.2
    rcases List.mem_cons.1 ((insRev_perm lt e acc).mem_iff.1 ha) with rfl | ha
    · exact h2.1 b hb
    · exact h1 a ha b (List.mem_cons_of_mem _ hb)
/-- A core with what fits there. -/
structure Place where
  core : Int
  x : Int
deriving DecidableEq
/-- More fits, or as much on an earlier core. -/
def Place.ahead (a b : Place) : Prop := b.x < a.x ∨ (a.x = b.x ∧ a.core < b.core)
theorem ahead_trans (a b c : Place) (h1 : a.ahead b) (h2 : b.ahead c) : a.ahead c := by unfold Place.ahead at *; omega
theorem ahead_irr (a : Place) : ¬ a.ahead a := by unfold Place.ahead; omega
theorem ahead_asym (a b : Place) (h : a.ahead b) : ¬ b.ahead a := by unfold Place.ahead at *; omega
def ltX (a b : Place) : Bool := decide (b.x < a.x)
def ltC (a b : Place) : Bool := decide (a.core < b.core)
theorem sortX (l : List Place) (h : l.Pairwise fun a b => a.core < b.core) : (isort ltX l).Pairwise Place.ahead := by
  refine isort_sorted ahead_trans l (h.imp fun {a b} hab => ⟨fun h => ?_, fun h => ?_⟩)
  · simp only [ltX, decide_eq_true_eq] at h; exact .inl h
  · simp only [ltX, decide_eq_false_iff_not] at h; unfold Place.ahead; omega
theorem sortC (l : List Place) (h : l.Pairwise fun a b => a.core ≠ b.core) : (isort ltC l).Pairwise fun a b => a.core < b.core := by
  refine isort_sorted (fun a b c h1 h2 => by omega) l (h.imp fun {a b} hab => ⟨fun h => ?_, fun h => ?_⟩)
  · simpa [ltC] using h
  · simp only [ltC, decide_eq_false_iff_not] at h; omega
/-- The n on which most fits, by rising cores; none: there are too few. -/
def bestV (l : List Place) (n : Nat) : List Place := if l.length < n then [] else isort ltC ((isort ltX l).take n)
theorem bestV_mem {l : List Place} {n : Nat} {p : Place} (h : p ∈ bestV l n) : p ∈ l := by
  unfold bestV at h
  split at h
  · cases h
  · exact (isort_perm _ _).mem_iff.1 (List.mem_of_mem_take ((isort_perm _ _).mem_iff.1 h))
theorem pw_ne {l : List Place} (h : l.Pairwise fun a b => a.core < b.core) : l.Pairwise fun a b => a.core ≠ b.core := h.imp fun hab => by omega
theorem take_ne {l : List Place} (h : l.Pairwise fun a b => a.core < b.core) (n : Nat) : ((isort ltX l).take n).Pairwise fun a b => a.core ≠ b.core := by
  have h1 : (isort ltX l).Pairwise fun a b => a.core ≠ b.core := ((isort_perm ltX l).pairwise_iff (fun {a b} h => Ne.symm h)).2 (pw_ne h)
  exact h1.sublist (List.take_sublist _ _)
theorem bestV_sorted {l : List Place} {n : Nat} (h : l.Pairwise fun a b => a.core < b.core) : (bestV l n).Pairwise fun a b => a.core < b.core := by
  unfold bestV
  split
  · exact List.Pairwise.nil
  · exact sortC _ (take_ne h n)
theorem bestV_length {l : List Place} {n : Nat} : (bestV l n).length = if l.length < n then 0 else n := by
  unfold bestV
  split
  · rfl
  · rw [isort_length, List.length_take, isort_length]; omega
end Go.Proofs.YtkjghcbnmipgfaaGreatDoor.Ma
namespace Go.Proofs.YtkjghcbnmipgfaaGreatDoor.Ma
def placesFrom (move : Int) : Int → List Int → List Place
  | _, [] => []
  | k, x :: xs => if move < x then ⟨k, x⟩ :: placesFrom move (k + 1) xs else placesFrom move (k + 1) xs
def places (move : Int) (xs : List Int) : List Place := placesFrom move 0 xs
theorem placesFrom_mem {move : Int} {xs : List Int} : ∀ {k : Int} {p : Place}, p ∈ placesFrom move k xs ↔ k ≤ p.core ∧ xs[(p.core - k).toNat]? = some p.x ∧ move < p.x := by
  induction xs with
  | nil => intro k p; simp [placesFrom]
  | cons x xs ih =>
    intro k p
    have key : (k + 1 ≤ p.core ∧ xs[(p.core - (k + 1)).toNat]? = some p.x ∧ move < p.x) ↔ (k ≤ p.core ∧ p.core ≠ k ∧ (x :: xs)[(p.core - k).toNat]? = some p.x ∧ move < p.x) := by
      by_cases hk : k + 1 ≤ p.core
      · have e : (p.core - k).toNat = (p.core - (k + 1)).toNat + 1 := by omega
        rw [e, List.getElem?_cons_succ]
        constructor
        · exact fun ⟨_, h2, h3⟩ => ⟨by omega, by omega, h2, h3⟩
        · exact fun ⟨_, _, h2, h3⟩ => ⟨hk, h2, h3⟩
      · constructor
        · exact fun h => absurd h.1 hk
        · exact fun h => absurd h.2.1 (by omega)
    have hd : p.core = k → ((x :: xs)[(p.core - k).toNat]? = some p.x ↔ p = ⟨k, x⟩) := by
      intro e
      have e0 : (p.core - k).toNat = 0 := by omega
      rw [e0, List.getElem?_cons_zero]
      cases p
      simp only [Option.some.injEq, Place.mk.injEq] at *
      constructor
      · exact fun h => ⟨e, h.symm⟩
      · exact fun h => h.2.symm
    simp only [placesFrom]
    split
    · rename_i hx
      rw [List.mem_cons, ih, key]
      constructor
      · rintro (rfl | h)
        · exact ⟨Int.le_refl _, by simp, hx⟩
        · exact ⟨h.1, h.2.2.1, h.2.2.2⟩
      · rintro ⟨h1, h2, h3⟩
        by_cases e : p.core = k
        · exact .inl ((hd e).1 h2)
        · exact .inr ⟨h1, e, h2, h3⟩
    · rename_i hx
      rw [ih, key]
      constructor
      · exact fun h => ⟨h.1, h.2.2.1, h.2.2.2⟩
      · rintro ⟨h1, h2, h3⟩
        refine ⟨h1, fun e => ?_, h2, h3⟩
        have := (hd e).1 h2
        subst this
        exact hx h3
theorem placesFrom_sorted {move : Int} {xs : List Int} : ∀ {k : Int}, (placesFrom move k xs).Pairwise fun a b => a.core < b.core := by
  induction xs with
  | nil => exact List.Pairwise.nil
  | cons x xs ih =>
    intro k
    simp only [placesFrom]
    split
    · refine List.pairwise_cons.2 ⟨fun p hp => ?_, ih⟩
      have := (placesFrom_mem.1 hp).1
      simp only; omega
    · exact ih
theorem places_mem {move : Int} {xs : List Int} {p : Place} : p ∈ places move xs ↔ 0 ≤ p.core ∧ xs[p.core.toNat]? = some p.x ∧ move < p.x := by
  unfold places
  rw [placesFrom_mem]
  simp
theorem places_sorted {move : Int} {xs : List Int} : (places move xs).Pairwise fun a b => a.core < b.core := placesFrom_sorted
theorem placesFrom_append {move : Int} (xs : List Int) (x : Int) : ∀ k : Int, placesFrom move k (xs ++ [x]) = placesFrom move k xs ++ if move < x then [⟨k + xs.length, x⟩] else [] := by
  induction xs with
  | nil => intro k; simp only [List.nil_append, placesFrom]; split <;> simp
  | cons y ys ih =>
    intro k
    simp only [List.cons_append, placesFrom, ih]
    have e : k + 1 + (ys.length : Int) = k + ((y :: ys).length : Int) := by simp; omega
    rw [e]
    split <;> simp
theorem placesFrom_length {move : Int} (xs : List Int) : ∀ k : Int, (placesFrom move k xs).length ≤ xs.length := by
  induction xs with
  | nil => intro k; simp [placesFrom]
  | cons y ys ih => intro k; simp only [placesFrom]; have := ih (k + 1); split <;> simp <;> omega
/-- Strictly ascending lists of the same members are one. -/
theorem asc_uniq : ∀ (l m : List Int), l.Pairwise (· < ·) → m.Pairwise (· < ·) → (∀ x, x ∈ l ↔ x ∈ m) → l = m := by
  intro l
  induction l with
  | nil =>
    intro m _ _ h
    cases m with
    | nil => rfl
    | cons b m => exact absurd ((h b).2 (List.mem_cons_self ..)) (by simp)
  | cons a l ih =>
    intro m hl hm h
    cases m with
    | nil => exact absurd ((h a).1 (List.mem_cons_self ..)) (by simp)
    | cons b m =>
      rw [List.pairwise_cons] at hl hm
      have hab : a = b := by
        rcases List.mem_cons.1 ((h a).1 (List.mem_cons_self ..)) with e | ha
        · exact e
        · rcases List.mem_cons.1 ((h b).2 (List.mem_cons_self ..)) with e | hb
          · exact e.symm
          · have := hl.1 b hb; have := hm.1 a ha; omega
      subst hab
      rw [ih m hl.2 hm.2 fun x => ?_]
      constructor
      · intro hx
        rcases List.mem_cons.1 ((h x).1 (List.mem_cons_of_mem _ hx)) with e | h'
        · have := hl.1 x hx; omega
        · exact h'
      · intro hx
        rcases List.mem_cons.1 ((h x).2 (List.mem_cons_of_mem _ hx)) with e | h'
        · have := hm.1 x hx; omega
        · exact h'
section greedy
variable {l : List Place}
/-- The ones that were taken are all there are. -/
theorem greedy_none {L : List Place} (h : L.Pairwise Place.ahead) {i : Nat} (ha : ∀ p, p ∈ L → p ∈ L.take i) : L.length ≤ i := by
  refine Nat.le_of_not_lt fun hlt => ?_
  have h1 := ha L[i] (List.getElem_mem _)
  obtain ⟨j, hj, e⟩ := List.mem_iff_getElem.1 h1
  rw [List.getElem_take] at e
  have hj' : j < i := by simp at hj; omega
  have := List.pairwise_iff_getElem.1 h j i (by omega) hlt hj'
  rw [e] at this
  exact ahead_irr _ this
/-- The next one. -/
theorem greedy_some {L : List Place} (h : L.Pairwise Place.ahead) {i : Nat} {p : Place} (hp : p ∈ L) (hn : p ∉ L.take i) (ha : ∀ q, q ∈ L → q ∉ L.take i → q ≠ p → p.ahead q) : L[i]? = some p := by
  obtain ⟨j, hj, e⟩ := List.mem_iff_getElem.1 hp
  have hij : i ≤ j := by
    refine Nat.le_of_not_lt fun hlt => hn ?_
    rw [← e]
    exact List.mem_iff_getElem.2 ⟨j, by simp; omega, by simp⟩
  have hi : i < L.length := by omega
  by_cases hji : j = i
  · subst hji; rw [List.getElem?_eq_getElem hj, e]
  · have h1 := List.pairwise_iff_getElem.1 h i j hi hj (by omega)
    rw [e] at h1
    have h2 : L[i] ∉ L.take i := by
      intro hm
      obtain ⟨k, hk, ek⟩ := List.mem_iff_getElem.1 hm
      rw [List.getElem_take] at ek
      have := List.pairwise_iff_getElem.1 h k i (by simp at hk; omega) hi (by simp at hk; omega)
      rw [ek] at this
      exact ahead_irr _ this
    have h3 := ha L[i] (List.getElem_mem _) h2 (fun e' => by rw [e'] at h1; exact ahead_irr _ h1)
    exact absurd h1 (ahead_asym _ _ h3)
end greedy
/-- A piece. -/
structure Pc where
  core : Int
  off : Int
  len : Int
  c : Int
deriving DecidableEq
/-- The pieces on some cores, and what is left. -/
def piecesV (lag w move : Int) : Int → Int → List Place → List Pc × Int
  | left, _, [] => ([], left)
  | left, k, p :: ps => if left = 0 then ([], left) else
      let mv := if k = 0 then 0 else move
      let use := min (p.x - mv) left
      let r := piecesV lag w move (left - use) (k + 1) ps
      (⟨p.core, k * (w + lag), w, mv + use⟩ :: r.1, r.2)
/-- A split in windows. -/
noncomputable def windowV (lag move C D T : Int) (ls : List (List Ld)) : Nat → Nat → List Pc
  | 0, _ => []
  | fuel + 1, n => let w := sizeV D lag n
    if w = 0 then [] else
      let r := piecesV lag w move C 0 (bestV (places move (ls.map fun l => mostV l w T w)) n)
      if r.2 = 0 ∧ 1 < r.1.length then r.1 else windowV lag move C D T ls fuel (n + 1)
end Go.Proofs.YtkjghcbnmipgfaaGreatDoor.Ma
namespace Go.Proofs.YtkjghcbnmipgfaaGreatDoor.Ma
/-- A piece may be. -/
def Pc.ok (cores : Int) (p : Pc) : Bool := decide (0 ≤ p.core) && decide (p.core < cores) && (decide (0 ≤ p.off) && decide (p.off ≤ 200)) && (decide (1 ≤ p.c) && decide (p.c ≤ p.len) && decide (p.off + p.len ≤ 200))
theorem Pc.ok_iff {cores : Int} {p : Pc} : p.ok cores = true ↔ (0 ≤ p.core ∧ p.core < cores) ∧ (0 ≤ p.off ∧ p.off ≤ 200) ∧ 1 ≤ p.c ∧ p.c ≤ p.len ∧ p.off + p.len ≤ 200 := by
  simp [Pc.ok, and_assoc]
def sumC : List Pc → Int
  | [] => 0
  | p :: ps => p.c + sumC ps
theorem sumC_append (a b : List Pc) : sumC (a ++ b) = sumC a + sumC b := by
  induction a with
  | nil => simp [sumC]
  | cons x xs ih => simp only [List.cons_append, sumC, ih]; omega
/-- Pieces follow one another. -/
def chain (lag move : Int) : List Pc → Prop
  | a :: b :: ps => (a.off + a.len + lag ≤ b.off ∧ move < b.c) ∧ chain lag move (b :: ps)
  | _ => True
def lastEnd : List Pc → Int
  | [] => 0
  | [p] => p.off + p.len
  | _ :: p :: ps => lastEnd (p :: ps)
def firstOff : List Pc → Int
  | [] => 0
  | p :: _ => p.off
def kindOk (D : Int) (nsec : Nat) (kind : Int) (ps : List Pc) : Prop :=
  (kind = 1 ∧ ∃ p, ps = [p] ∧ p.len = D) ∨ (kind = 2 ∧ 2 ≤ ps.length ∧ nsec = 0) ∨ (kind = 3 ∧ nsec = 0 ∧ ∃ p q, ps = [p, q] ∧ p.len = p.c)
/-- A plan may be. -/
structure PlanOk (cores lag move C D : Int) (nsec : Nat) (kind : Int) (ps : List Pc) : Prop where
  pcs : ∀ p, p ∈ ps → p.ok cores = true
  apart : ps.Pairwise fun a b => a.core ≠ b.core
  one : ps ≠ []
  first : firstOff ps = 0
  next : chain lag move ps
  sum : sumC ps = C + (ps.length - 1 : Int) * move
  last : lastEnd ps ≤ D
  kind : kindOk D nsec kind ps
open Classical in
noncomputable def planB (cores lag move C D : Int) (nsec : Nat) (kind : Int) (ps : List Pc) : Bool := decide (PlanOk cores lag move C D nsec kind ps)
theorem planB_iff {cores lag move C D : Int} {nsec : Nat} {kind : Int} {ps : List Pc} : planB cores lag move C D nsec kind ps = true ↔ PlanOk cores lag move C D nsec kind ps := by simp [planB]
/-- A machine and a task, within the limits. -/
structure Lim (cores lag move C D T : Int) : Prop where
  c1 : 1 ≤ cores
  c2 : cores ≤ 6
  l1 : 0 ≤ lag
  l2 : lag ≤ 5
  m1 : 0 ≤ move
  m2 : move ≤ 5
  C1 : 1 ≤ C
  CD : C ≤ D
  DT : D ≤ T
  T2 : T ≤ 200
variable {cores lag move C D T : Int}
theorem sizeV_bound {n : Int} (hs : sizeV D lag n ≠ 0) : 1 ≤ n ∧ 1 ≤ sizeV D lag n ∧ n * sizeV D lag n + (n - 1) * lag ≤ D ∧ D < n * sizeV D lag n + (n - 1) * lag + n := by
  unfold sizeV at *
  split at hs
  · exact absurd rfl hs
  · rename_i hc
    rw [if_neg hc]
    have h1 := Int.mul_ediv_add_emod (D - (n - 1) * lag) n
    have h2 := Int.emod_lt_of_pos (D - (n - 1) * lag) (show 0 < n by omega)
    have h3 := Int.emod_nonneg (D - (n - 1) * lag) (show n ≠ 0 by omega)
    have h4 : 1 ≤ (D - (n - 1) * lag) / n := Int.le_ediv_of_mul_le (by omega) (by omega)
    omega
/-- The pieces: one by one. -/
theorem piecesV_spec (lag w move : Int) (hm : 0 ≤ move) : ∀ (ps : List Place) (left k : Int), 0 ≤ left → 0 ≤ k → (∀ p, p ∈ ps → move < p.x) →
    0 ≤ (piecesV lag w move left k ps).2 ∧ (piecesV lag w move left k ps).2 ≤ left ∧ (piecesV lag w move left k ps).1.length ≤ ps.length ∧
    (∀ (i : Nat) q, (piecesV lag w move left k ps).1[i]? = some q → ∃ p, ps[i]? = some p ∧ q.core = p.core ∧ q.off = (k + i) * (w + lag) ∧ q.len = w ∧ 1 ≤ q.c ∧ q.c ≤ p.x ∧ (0 < k + i → move < q.c)) ∧
    sumC (piecesV lag w move left k ps).1 = left - (piecesV lag w move left k ps).2 + ((piecesV lag w move left k ps).1.length : Int) * move - (if k = 0 ∧ (piecesV lag w move left k ps).1 ≠ [] then move else 0) := by
  intro ps
  induction ps with
  | nil => intro left k h1 _ _; simp [piecesV, sumC]; omega
  | cons p ps ih =>
    intro left k h1 hk hx
    unfold piecesV
    split
    · rename_i h; simp [sumC]; omega
    · rename_i hne
      have hp := hx p (List.mem_cons_self ..)
      simp only
      generalize hmv : (if k = 0 then (0 : Int) else move) = mv
      have hmv' : mv ≤ move ∧ 0 ≤ mv ∧ (k ≠ 0 → mv = move) ∧ (k = 0 → mv = 0) := by subst hmv; split <;> omega
      obtain ⟨i1, i2, i3, i4, i5⟩ := ih (left - min (p.x - mv) left) (k + 1) (by omega) (by omega) fun q hq => hx q (List.mem_cons_of_mem _ hq)
      refine ⟨i1, by omega, by simp; omega, fun i q hq => ?_, ?_⟩
      · cases i with
        | zero =>
          simp only [List.getElem?_cons_zero, Option.some.injEq] at hq
          subst hq
          exact ⟨p, rfl, rfl, by simp, rfl, by simp only; omega, by simp only; omega, fun hk0 => by simp only; simp at hk0; have := hmv'.2.2.1 (by omega); omega⟩
        | succ i =>
          rw [List.getElem?_cons_succ] at hq
          obtain ⟨p', h1, h2, h3, h4⟩ := i4 i q hq
          refine ⟨p', by simpa using h1, h2, ?_, ?_⟩
          · rw [h3]; congr 1; simp; omega
          · have e : k + ((i + 1 : Nat) : Int) = k + 1 + (i : Int) := by simp; omega
            rw [e]; exact h4
      · simp only [sumC, i5, List.length_cons, Int.natCast_succ, Int.add_mul, Int.one_mul]
        have e1 : ¬ (k + 1 = 0 ∧ (piecesV lag w move (left - min (p.x - mv) left) (k + 1) ps).1 ≠ []) := by omega
        rw [if_neg e1]
        by_cases hk0 : k = 0
        · rw [if_pos ⟨hk0, by simp⟩]; have := hmv'.2.2.2 hk0; omega
        · rw [if_neg fun h => hk0 h.1]; have := hmv'.2.2.1 hk0; omega
/-- A split in windows, and what it is. -/
structure WinOk (lag move C D T : Int) (ls : List (List Ld)) (ps : List Pc) (w : Int) : Prop where
  w1 : 1 ≤ w
  two : 2 ≤ ps.length
  le : ps.length ≤ ls.length
  time : (ps.length : Int) * w + (ps.length - 1 : Int) * lag ≤ D
  sum : sumC ps = C + (ps.length - 1 : Int) * move
  asc : ps.Pairwise fun a b => a.core < b.core
  each : ∀ (i : Nat) q, ps[i]? = some q → q.off = (i : Int) * (w + lag) ∧ q.len = w ∧ 1 ≤ q.c ∧ q.c ≤ w ∧ (0 < i → move < q.c) ∧ 0 ≤ q.core ∧ ∃ l, ls[q.core.toNat]? = some l ∧ fitW l q.c w T = true
theorem getElem?_lt {α : Type} {l : List α} {i : Nat} {x : α} (h : l[i]? = some x) : i < l.length := (List.getElem?_eq_some_iff.1 h).1
theorem win_step (hl : 0 ≤ lag) (hm : 0 ≤ move) (hC : 1 ≤ C) {ls : List (List Ld)} {n : Nat} (hs : sizeV D lag n ≠ 0) (hr : (piecesV lag (sizeV D lag n) move C 0 (bestV (places move (ls.map fun l => mostV l (sizeV D lag n) T (sizeV D lag n))) n)).2 = 0 ∧ 1 < (piecesV lag (sizeV D lag n) move C 0 (bestV (places move (ls.map fun l => mostV l (sizeV D lag n) T (sizeV D lag n))) n)).1.length) :
    WinOk lag move C D T ls (piecesV lag (sizeV D lag n) move C 0 (bestV (places move (ls.map fun l => mostV l (sizeV D lag n) T (sizeV D lag n))) n)).1 (sizeV D lag n) := by
  obtain ⟨s1, s2, s3, s4⟩ := sizeV_bound hs
  generalize sizeV D lag n = w at *
  generalize hb : bestV (places move (ls.map fun l => mostV l w T w)) n = b at *
  have hmem : ∀ p, p ∈ b → 0 ≤ p.core ∧ (ls.map fun l => mostV l w T w)[p.core.toNat]? = some p.x ∧ move < p.x := fun p hp => by
    subst hb; exact places_mem.1 (bestV_mem hp)
  have hsort : b.Pairwise fun a b => a.core < b.core := by subst hb; exact bestV_sorted places_sorted
  have hlen : b.length ≤ n := by subst hb; rw [bestV_length]; split <;> omega
  have hlen2 : b.length ≤ ls.length := by
    have h0 : (places move (ls.map fun l => mostV l w T w)).length ≤ ls.length := by
      have := placesFrom_length (move := move) (ls.map fun l => mostV l w T w) 0
      simpa [places] using this
    subst hb; rw [bestV_length]; split <;> omega
  obtain ⟨i1, i2, i3, i4, i5⟩ := piecesV_spec lag w move hm b C 0 (by omega) (by omega) fun p hp => (hmem p hp).2.2
  generalize hps : piecesV lag w move C 0 b = r at *
  obtain ⟨ps, left⟩ := r
  simp only at *
  obtain ⟨rfl, hr⟩ := hr
  refine ⟨s2, by omega, by omega, ?_, ?_, ?_, fun i q hq => ?_⟩
  · have h1 : (ps.length : Int) ≤ n := by omega
    have h2 : (ps.length : Int) * w ≤ n * w := Int.mul_le_mul_of_nonneg_right h1 (by omega)
    have h3 : (ps.length - 1 : Int) * lag ≤ (n - 1 : Int) * lag := Int.mul_le_mul_of_nonneg_right (by omega) hl
    omega
  · rw [i5, if_pos ⟨trivial, fun e => by subst e; simp at hr⟩, Int.sub_mul]; omega
  · rw [List.pairwise_iff_getElem]
    intro i j hi hj hij
    obtain ⟨p, h1, h2, _⟩ := i4 i ps[i] (List.getElem?_eq_getElem hi)
    obtain ⟨q, k1, k2, _⟩ := i4 j ps[j] (List.getElem?_eq_getElem hj)
    obtain ⟨h3, e1⟩ := List.getElem?_eq_some_iff.1 h1
    obtain ⟨k3, e2⟩ := List.getElem?_eq_some_iff.1 k1
    have := List.pairwise_iff_getElem.1 hsort i j h3 k3 hij
    rw [h2, k2, ← e1, ← e2]; exact this
  · obtain ⟨p, h1, h2, h3, h4, h5, h6, h7⟩ := i4 i q hq
    obtain ⟨m1, m2, m3⟩ := hmem p (List.mem_of_getElem? h1)
    rw [List.getElem?_map] at m2
    cases hl' : ls[p.core.toNat]? with
    | none => rw [hl'] at m2; simp at m2
    | some l =>
      rw [hl'] at m2
      simp only [Option.map_some, Option.some.injEq] at m2
      have hb' := (mostV_bound l w T w).2 (by omega)
      rw [m2] at hb'
      refine ⟨by simpa using h3, h4, h5, by omega, fun hi => h7 (by omega), by omega, l, by rw [h2]; exact hl', fitW_less hb'.2.2 h5 h6⟩
theorem windowV_spec (hl : 0 ≤ lag) (hm : 0 ≤ move) (hC : 1 ≤ C) {ls : List (List Ld)} : ∀ (fuel n : Nat), windowV lag move C D T ls fuel n ≠ [] → ∃ w, WinOk lag move C D T ls (windowV lag move C D T ls fuel n) w := by
  intro fuel
  induction fuel with
  | zero => intro n h; exact absurd rfl h
  | succ fuel ih =>
    intro n h
    simp only [windowV] at h ⊢
    split at h
    · exact absurd rfl h
    · rename_i hs
      rw [if_neg hs]
      split at h
      · rename_i hr; rw [if_pos hr]; exact ⟨_, win_step hl hm hC hs hr⟩
      · rename_i hr; rw [if_neg hr]; exact ih _ h
theorem chain_of {lag move : Int} : ∀ {ps : List Pc}, (∀ (i : Nat) a b, ps[i]? = some a → ps[i + 1]? = some b → a.off + a.len + lag ≤ b.off ∧ move < b.c) → chain lag move ps := by
  intro ps
  induction ps with
  | nil => exact fun _ => trivial
  | cons a ps ih =>
    intro h
    cases ps with
    | nil => trivial
    | cons b ps => exact ⟨h 0 a b rfl rfl, ih fun i x y h1 h2 => h (i + 1) x y (by simpa using h1) (by simpa using h2)⟩
theorem lastEnd_eq : ∀ {ps : List Pc} {q : Pc}, ps[ps.length - 1]? = some q → lastEnd ps = q.off + q.len := by
  intro ps
  induction ps with
  | nil => intro q h; simp at h
  | cons a ps ih =>
    intro q h
    cases ps with
    | nil => simp only [List.length_cons, List.length_nil, Nat.zero_add, Nat.sub_self, List.getElem?_cons_zero, Option.some.injEq] at h; subst h; rfl
    | cons b ps => exact ih (by simpa using h)
theorem WinOk.plan {ls : List (List Ld)} {ps : List Pc} {w : Int} (h : WinOk lag move C D T ls ps w) (hL : Lim cores lag move C D T) (hls : (ls.length : Int) = cores) : PlanOk cores lag move C D 0 2 ps := by
  have hne : ps ≠ [] := fun e => by have := h.two; subst e; simp at this
  have htwo := h.two
  have hlast : ∀ i : Nat, i < ps.length → (i : Int) * (w + lag) + w ≤ D := fun i hi => by
    have h1 : (i : Int) * (w + lag) ≤ (ps.length - 1 : Int) * (w + lag) := Int.mul_le_mul_of_nonneg_right (by omega) (by have := h.w1; have := hL.l1; omega)
    have h2 := h.time
    have h3 : (ps.length - 1 : Int) * (w + lag) = (ps.length : Int) * w - w + (ps.length - 1 : Int) * lag := by rw [Int.mul_add, Int.sub_mul, Int.one_mul]
    omega
  refine ⟨fun p hp => ?_, h.asc.imp fun hab => by omega, hne, ?_, ?_, h.sum, ?_, .inr (.inl ⟨rfl, h.two, rfl⟩)⟩
  · obtain ⟨i, hi⟩ := List.getElem?_of_mem hp
    obtain ⟨e1, e2, e3, e4, e5, e6, l, e7, e8⟩ := h.each i p hi
    have hlt := hlast i (getElem?_lt hi)
    have hco := getElem?_lt e7
    have h1 : 0 ≤ (i : Int) * (w + lag) := Int.mul_nonneg (by omega) (by have := h.w1; have := hL.l1; omega)
    have := hL.CD; have := hL.DT; have := hL.T2; have := h.w1
    rw [Pc.ok_iff]
    omega
  · cases ps with
    | nil => exact absurd rfl hne
    | cons p ps => have := (h.each 0 p rfl).1; simpa [firstOff] using this
  · refine chain_of fun i a b ha hb => ?_
    have ea := h.each i a ha
    have eb := h.each (i + 1) b hb
    refine ⟨?_, eb.2.2.2.2.1 (by omega)⟩
    rw [ea.1, ea.2.1, eb.1]
    have : ((i + 1 : Nat) : Int) * (w + lag) = (i : Int) * (w + lag) + (w + lag) := by simp [Int.add_mul]
    omega
  · have hi : ps.length - 1 < ps.length := by omega
    have e := h.each (ps.length - 1) ps[ps.length - 1] (List.getElem?_eq_getElem hi)
    rw [lastEnd_eq (List.getElem?_eq_getElem hi), e.1, e.2.1]
    exact hlast _ hi
/-- The first one that is not nothing. -/
def firstFrom (f : Nat → List Pc) : Nat → Nat → List Pc
  | 0, _ => []
  | n + 1, i => if f i = [] then firstFrom f n (i + 1) else f i
theorem firstFrom_spec {f : Nat → List Pc} : ∀ (n i : Nat), firstFrom f n i ≠ [] → ∃ j, i ≤ j ∧ j < i + n ∧ firstFrom f n i = f j := by
  intro n
  induction n with
  | zero => intro i h; exact absurd rfl h
  | succ n ih =>
    intro i h
    simp only [firstFrom] at h ⊢
    split at h
    · rename_i e
      rw [if_pos e]
      obtain ⟨j, h1, h2, h3⟩ := ih (i + 1) h
      exact ⟨j, by omega, by omega, h3⟩
    · rename_i e
      rw [if_neg e]
      exact ⟨i, by omega, by omega, rfl⟩
/-- The first without slack on one core, the rest on another one. -/
noncomputable def pairV (lag move C D T : Int) (ls : List (List Ld)) (a b : Nat) : List Pc :=
  if a = b then [] else
  let x := tightV (ls[a]?.getD []) T (C - 1)
  if 1 ≤ x ∧ C - x + move ≤ D - x - lag ∧ fitW (ls[b]?.getD []) (C - x + move) (D - x - lag) T = true then [⟨a, 0, x, x⟩, ⟨b, x + lag, D - x - lag, C - x + move⟩] else []
noncomputable def zeroV (lag move C D T : Int) (ls : List (List Ld)) : List Pc :=
  firstFrom (fun a => firstFrom (fun b => pairV lag move C D T ls a b) ls.length 0) ls.length 0
structure ZeroOk (lag move C D T : Int) (ls : List (List Ld)) (ps : List Pc) : Prop where
  it : ∃ (a b : Nat) (x : Int), a ≠ b ∧ a < ls.length ∧ b < ls.length ∧ 1 ≤ x ∧ x ≤ C - 1 ∧ C - x + move ≤ D - x - lag ∧ fitW (ls[a]?.getD []) x x T = true ∧ fitW (ls[b]?.getD []) (C - x + move) (D - x - lag) T = true ∧
    ps = [⟨a, 0, x, x⟩, ⟨b, x + lag, D - x - lag, C - x + move⟩]
theorem zeroV_spec {ls : List (List Ld)} (h : zeroV lag move C D T ls ≠ []) : ZeroOk lag move C D T ls (zeroV lag move C D T ls) := by
  unfold zeroV at *
  obtain ⟨a, _, ha, ea⟩ := firstFrom_spec _ _ h
  rw [ea] at h
  obtain ⟨b, _, hb, eb⟩ := firstFrom_spec _ _ h
  rw [ea, eb]
  rw [eb] at h
  unfold pairV at *
  split at h
  · exact absurd rfl h
  · rename_i hab
    rw [if_neg hab]
    simp only at h ⊢
    split at h
    · rename_i hc
      rw [if_pos hc]
      have ht := (tightV_bound (ls[a]?.getD []) T (C - 1)).2 (by omega)
      exact ⟨⟨a, b, _, hab, by omega, by omega, hc.1, ht.1, hc.2.1, ht.2.2, hc.2.2, rfl⟩⟩
    · exact absurd rfl h
theorem ZeroOk.plan {ls : List (List Ld)} {ps : List Pc} (h : ZeroOk lag move C D T ls ps) (hL : Lim cores lag move C D T) (hls : (ls.length : Int) = cores) : PlanOk cores lag move C D 0 3 ps := by
  obtain ⟨a, b, x, h1, h2, h3, h4, h5, h6, h7, h8, rfl⟩ := h.it
  obtain ⟨c1, c2, l1, l2, m1, m2, C1, CD, DT, T2⟩ := hL
  refine ⟨fun p hp => ?_, ?_, by simp, rfl, ⟨⟨?_, ?_⟩, trivial⟩, ?_, ?_, .inr (.inr ⟨rfl, rfl, _, _, rfl, rfl⟩)⟩
  · rw [Pc.ok_iff]
    simp only [List.mem_cons, List.not_mem_nil, or_false] at hp
    rcases hp with rfl | rfl <;> simp only <;> omega
  · simp; omega
  · simp
  · simp only; omega
  · simp [sumC]; omega
  · simp [lastEnd]; omega
theorem whole_plan (hL : Lim cores lag move C D T) {k : Int} {nsec : Nat} (h1 : 0 ≤ k) (h2 : k < cores) : PlanOk cores lag move C D nsec 1 [⟨k, 0, D, C⟩] := by
  obtain ⟨c1, c2, l1, l2, m1, m2, C1, CD, DT, T2⟩ := hL
  refine ⟨fun p hp => ?_, by simp, by simp, rfl, trivial, by simp [sumC], by simp [lastEnd], .inl ⟨rfl, _, rfl, rfl⟩⟩
  simp only [List.mem_singleton] at hp
  subst hp
  rw [Pc.ok_iff]
  simp only
  omega
/-- Cores whose loads are the same, in another order. -/
def permAll : List (List Ld) → List (List Ld) → Prop
  | [], [] => True
  | a :: as, b :: bs => a.Perm b ∧ permAll as bs
  | _, _ => False
theorem most_perm {as : List (List Ld)} : ∀ {bs : List (List Ld)}, permAll as bs → ∀ (w T : Int), (as.map fun l => mostV l w T w) = bs.map fun l => mostV l w T w := by
  induction as with
  | nil => intro bs h; cases bs with
    | nil => exact fun _ _ => rfl
    | cons b bs => exact h.elim
  | cons a as ih => intro bs h w T; cases bs with
    | nil => exact h.elim
    | cons b bs => simp only [List.map_cons]; rw [mostV_perm h.1, ih h.2]
theorem windowV_perm {as bs : List (List Ld)} (h : permAll as bs) : ∀ (fuel n : Nat), windowV lag move C D T as fuel n = windowV lag move C D T bs fuel n := by
  intro fuel
  induction fuel with
  | zero => intro n; rfl
  | succ fuel ih => intro n; simp only [windowV]; rw [most_perm h, ih]
end Go.Proofs.YtkjghcbnmipgfaaGreatDoor.Ma
namespace Go.Proofs.YtkjghcbnmipgfaaGreatDoor.Ma
/-- The state of the inner loop: the best one so far among those not taken. -/
structure Inner (xs : List Int) (move : Int) (taken : List Bool) (j : Nat) (k : Int) : Prop where
  none : k < 0 → k = -1 ∧ ∀ m x, m < j → taken[m]? = some false → xs[m]? = some x → x ≤ move
  some : ¬ k < 0 → ∃ y, k < j ∧ taken[k.toNat]? = some false ∧ xs[k.toNat]? = some y ∧ move < y ∧ ∀ m x, m < j → (m : Int) ≠ k → taken[m]? = some false → xs[m]? = some x → move < x → x < y ∨ (x = y ∧ k < m)
theorem Inner.start (xs : List Int) (move : Int) (taken : List Bool) : Inner xs move taken 0 (-1) :=
  ⟨fun _ => ⟨rfl, fun m x h => absurd h (Nat.not_lt_zero m)⟩, fun h => absurd (by omega) h⟩
theorem Inner.skip {xs : List Int} {move : Int} {taken : List Bool} {j : Nat} {k : Int} (h : Inner xs move taken j k) {b : Bool} {x : Int} (hb : taken[j]? = Option.some b) (hx : xs[j]? = Option.some x)
    (hn : b = true ∨ x ≤ move ∨ (¬ k < 0 ∧ ∀ y, xs[k.toNat]? = Option.some y → x ≤ y)) : Inner xs move taken (j + 1) k := by
  refine ⟨fun hk => ⟨(h.none hk).1, fun m z hm hz hxm => ?_⟩, fun hk => ?_⟩
  · by_cases e : m = j
    · subst e
      rw [hb] at hz; rw [hx] at hxm
      injection hz with hz; injection hxm with hxm
      subst hz; subst hxm
      rcases hn with h1 | h1 | h1
      · cases h1
      · exact h1
      · exact absurd hk h1.1
    · exact (h.none hk).2 m z (by omega) hz hxm
  · obtain ⟨y, h1, h2, h3, h4, h5⟩ := h.some hk
    refine ⟨y, by omega, h2, h3, h4, fun m z hm hmk hz hxm hmv => ?_⟩
    by_cases e : m = j
    · subst e
      rw [hb] at hz; rw [hx] at hxm
      injection hz with hz; injection hxm with hxm
      subst hz; subst hxm
      rcases hn with h' | h' | h'
      · cases h'
      · omega
      · have := h'.2 y h3; omega
    · exact h5 m z (by omega) hmk hz hxm hmv
theorem Inner.take {xs : List Int} {move : Int} {taken : List Bool} {j : Nat} {k : Int} (h : Inner xs move taken j k) {x : Int} (hb : taken[j]? = Option.some false) (hx : xs[j]? = Option.some x) (hm : move < x)
    (hn : k < 0 ∨ ∃ y, xs[k.toNat]? = Option.some y ∧ y < x) : Inner xs move taken (j + 1) j := by
  refine ⟨fun hk => absurd hk (by omega), fun _ => ⟨x, by omega, by simpa using hb, by simpa using hx, hm, fun m z hmj hmk hz hxm hmv => ?_⟩⟩
  have hmj' : m < j := by omega
  rcases hn with hk | ⟨y, hy, hlt⟩
  · have := (h.none hk).2 m z hmj' hz hxm; omega
  · by_cases hk : k < 0
    · have := (h.none hk).2 m z hmj' hz hxm; omega
    · obtain ⟨y', h1, h2, h3, h4, h5⟩ := h.some hk
      rw [hy] at h3
      injection h3 with h3
      subst h3
      by_cases e : (m : Int) = k
      · have e' : k.toNat = m := by omega
        rw [e', hxm] at hy
        injection hy with hy
        omega
      · have := h5 m z hmj' e hz hxm hmv; omega
/-- The sorted ones. -/
def ordered (move : Int) (xs : List Int) : List Place := isort ltX (places move xs)
theorem ordered_sorted {move : Int} {xs : List Int} : (ordered move xs).Pairwise Place.ahead := sortX _ places_sorted
theorem ordered_mem {move : Int} {xs : List Int} {p : Place} : p ∈ ordered move xs ↔ 0 ≤ p.core ∧ xs[p.core.toNat]? = some p.x ∧ move < p.x := by
  unfold ordered; rw [(isort_perm _ _).mem_iff, places_mem]
theorem ordered_length {move : Int} {xs : List Int} : (ordered move xs).length = (places move xs).length := isort_length _ _
/-- The first i of them were taken. -/
structure Outer (xs : List Int) (move : Int) (i : Nat) (taken : List Bool) : Prop where
  len : taken.length = xs.length
  le : i ≤ (places move xs).length
  iff : ∀ m : Nat, taken[m]? = some true ↔ ∃ p, p ∈ (ordered move xs).take i ∧ p.core = m
theorem Outer.start (xs : List Int) (move : Int) : Outer xs move 0 (List.replicate xs.length false) := by
  refine ⟨by simp, Nat.zero_le _, fun m => ?_⟩
  simp [List.getElem?_replicate]
theorem Outer.false {xs : List Int} {move : Int} {i : Nat} {taken : List Bool} (h : Outer xs move i taken) {p : Place} (hp : p ∈ ordered move xs) (hn : p ∉ (ordered move xs).take i) : taken[p.core.toNat]? = some false := by
  have hm := ordered_mem.1 hp
  have hlt := (List.getElem?_eq_some_iff.1 hm.2.1).1
  rw [← h.len] at hlt
  rw [List.getElem?_eq_getElem hlt]
  cases hb : taken[p.core.toNat] with
  | false => rfl
  | true =>
    obtain ⟨q, hq, e⟩ := (h.iff p.core.toNat).1 (by rw [List.getElem?_eq_getElem hlt, hb])
    have hq' := ordered_mem.1 (List.mem_of_mem_take hq)
    have e1 : q.core = p.core := by omega
    have e2 : q.x = p.x := by have := hq'.2.1; rw [e1, hm.2.1] at this; injection this with h; exact h.symm
    have : q = p := by cases q; cases p; simp only [Place.mk.injEq] at *; exact ⟨e1, e2⟩
    subst this
    exact absurd hq hn
theorem Outer.stop {xs : List Int} {move : Int} {i : Nat} {taken : List Bool} (h : Outer xs move i taken) {k : Int} (hi : Inner xs move taken xs.length k) (hk : k < 0) : (places move xs).length = i := by
  have : (ordered move xs).length ≤ i := greedy_none ordered_sorted fun p hp => by
    refine Classical.byContradiction fun hn => ?_
    have hm := ordered_mem.1 hp
    have := (hi.none hk).2 p.core.toNat p.x (List.getElem?_eq_some_iff.1 hm.2.1).1 (h.false hp hn) hm.2.1
    omega
  rw [ordered_length] at this
  have := h.le
  omega
theorem Outer.next {xs : List Int} {move : Int} {i : Nat} {taken : List Bool} (h : Outer xs move i taken) {k : Int} (hi : Inner xs move taken xs.length k) (hk : ¬ k < 0) : Outer xs move (i + 1) (taken.set k.toNat true) := by
  obtain ⟨y, h1, h2, h3, h4, h5⟩ := hi.some hk
  have hp : (⟨k, y⟩ : Place) ∈ ordered move xs := ordered_mem.2 ⟨by simp only; omega, h3, h4⟩
  have hn : (⟨k, y⟩ : Place) ∉ (ordered move xs).take i := fun hm => by
    have := (h.iff k.toNat).2 ⟨_, hm, by simp only; omega⟩
    rw [h2] at this
    cases this
  have hL := greedy_some ordered_sorted hp hn fun q hq hnq hne => by
    have hm := ordered_mem.1 hq
    have hqk : q.core ≠ k := fun e => hne (by
      have := hm.2.1
      rw [e, h3] at this
      injection this with this
      cases q
      simp only [Place.mk.injEq] at *
      exact ⟨e, this.symm⟩)
    have := h5 q.core.toNat q.x (List.getElem?_eq_some_iff.1 hm.2.1).1 (by omega) (h.false hq hnq) hm.2.1 hm.2.2
    unfold Place.ahead
    simp only
    omega
  have hlt := (List.getElem?_eq_some_iff.1 hL).1
  rw [ordered_length] at hlt
  refine ⟨by rw [List.length_set]; exact h.len, hlt, fun m => ?_⟩
  have htk : (ordered move xs).take (i + 1) = (ordered move xs).take i ++ [⟨k, y⟩] := by rw [List.take_add_one, hL]; rfl
  rw [htk, List.getElem?_set]
  have hkl : k.toNat < taken.length := (List.getElem?_eq_some_iff.1 h2).1
  split
  · rename_i e
    subst e
    exact ⟨fun _ => ⟨⟨k, y⟩, by simp, by simp only; omega⟩, fun _ => rfl⟩
  · rename_i e
    rw [h.iff m]
    constructor
    · rintro ⟨p, hp, e'⟩; exact ⟨p, by simp [hp], e'⟩
    · rintro ⟨p, hp, e'⟩
      rcases List.mem_append.1 hp with hp | hp
      · exact ⟨p, hp, e'⟩
      · simp only [List.mem_singleton] at hp; subst hp; simp only at e'; omega
/-- Those that were taken, up to one. -/
def takenTo (taken : List Bool) : Nat → List Int
  | 0 => []
  | j + 1 => if taken[j]? = some true then takenTo taken j ++ [(j : Int)] else takenTo taken j
theorem takenTo_mem {taken : List Bool} {j : Nat} {x : Int} : x ∈ takenTo taken j ↔ 0 ≤ x ∧ x < j ∧ taken[x.toNat]? = some true := by
  induction j with
  | zero => simp [takenTo]; omega
  | succ j ih =>
    have key : ∀ {A : Prop}, (x = (j : Int) → A) → (x ≠ (j : Int) → A) → A := fun h1 h2 => (Classical.em (x = (j : Int))).elim h1 h2
    simp only [takenTo]
    split
    · rename_i h
      rw [List.mem_append, ih, List.mem_singleton]
      constructor
      · rintro (⟨h1, h2, h3⟩ | rfl)
        · exact ⟨h1, by omega, h3⟩
        · exact ⟨by omega, by omega, by simpa using h⟩
      · rintro ⟨h1, h2, h3⟩
        exact key (fun e => .inr e) fun e => .inl ⟨h1, by omega, h3⟩
    · rename_i h
      rw [ih]
      constructor
      · rintro ⟨h1, h2, h3⟩; exact ⟨h1, by omega, h3⟩
      · rintro ⟨h1, h2, h3⟩
        refine key (fun e => ?_) fun e => ⟨h1, by omega, h3⟩
        subst e
        exact absurd (by simpa using h3) h
theorem takenTo_sorted {taken : List Bool} {j : Nat} : (takenTo taken j).Pairwise (· < ·) := by
  induction j with
  | zero => exact List.Pairwise.nil
  | succ j ih =>
    simp only [takenTo]
    split
    · rw [List.pairwise_append]
      refine ⟨ih, by simp, fun a ha b hb => ?_⟩
      have := (takenTo_mem.1 ha).2.1
      simp only [List.mem_singleton] at hb
      omega
    · exact ih
theorem Outer.end {xs : List Int} {move : Int} {n : Nat} {taken : List Bool} (h : Outer xs move n taken) : takenTo taken xs.length = (bestV (places move xs) n).map (·.core) := by
  refine asc_uniq _ _ takenTo_sorted (List.pairwise_map.2 (bestV_sorted places_sorted)) fun x => ?_
  rw [takenTo_mem, List.mem_map]
  have hb : bestV (places move xs) n = isort ltC ((ordered move xs).take n) := by unfold bestV; rw [if_neg (by have := h.le; omega)]; rfl
  rw [hb]
  constructor
  · rintro ⟨h1, h2, h3⟩
    obtain ⟨p, hp, e⟩ := (h.iff x.toNat).1 h3
    exact ⟨p, (isort_perm _ _).mem_iff.2 hp, by omega⟩
  · rintro ⟨p, hp, rfl⟩
    have hp := (isort_perm _ _).mem_iff.1 hp
    have hm := ordered_mem.1 (List.mem_of_mem_take hp)
    have hlt := (List.getElem?_eq_some_iff.1 hm.2.1).1
    exact ⟨hm.1, by omega, (h.iff _).2 ⟨p, hp, by omega⟩⟩
theorem bestV_x {xs : List Int} {move : Int} {n : Nat} {p : Place} (h : p ∈ bestV (places move xs) n) : 0 ≤ p.core ∧ xs[p.core.toNat]? = some p.x ∧ move < p.x := places_mem.1 (bestV_mem h)
end Go.Proofs.YtkjghcbnmipgfaaGreatDoor.Ma
namespace Go.Proofs.YtkjghcbnmipgfaaGreatDoor.Ma
variable {cores lag move C D T : Int}
theorem chain_snoc {L : List Pc} {x : Pc} : chain lag move (L ++ [x]) ↔ chain lag move L ∧ ∀ p, L.getLast? = some p → p.off + p.len + lag ≤ x.off ∧ move < x.c := by
  induction L with
  | nil => simp [chain]
  | cons a L ih =>
    cases L with
    | nil => simp [chain]
    | cons b L =>
      have e : (a :: b :: L) ++ [x] = a :: b :: (L ++ [x]) := rfl
      rw [e]
      have e2 : (b :: L) ++ [x] = b :: (L ++ [x]) := rfl
      rw [e2] at ih
      simp only [chain, ih, List.getLast?_cons_cons]
      constructor
      · rintro ⟨h1, h2, h3⟩; exact ⟨⟨h1, h2⟩, h3⟩
      · rintro ⟨⟨h1, h2⟩, h3⟩; exact ⟨h1, h2, h3⟩
/-- What the loop over the pieces has seen to. -/
structure Pre (cores lag move : Int) (L : List Pc) : Prop where
  pcs : ∀ p, p ∈ L → p.ok cores = true
  apart : L.Pairwise fun a b => a.core ≠ b.core
  first : firstOff L = 0
  next : chain lag move L
theorem Pre.nil : Pre cores lag move [] := ⟨by simp, List.Pairwise.nil, rfl, trivial⟩
theorem pre_snoc {L : List Pc} {x : Pc} : Pre cores lag move (L ++ [x]) ↔ Pre cores lag move L ∧ x.ok cores = true ∧ (∀ p, p ∈ L → p.core ≠ x.core) ∧ (L = [] → x.off = 0) ∧ ∀ p, L.getLast? = some p → p.off + p.len + lag ≤ x.off ∧ move < x.c := by
  have hf : firstOff (L ++ [x]) = 0 ↔ firstOff L = 0 ∧ (L = [] → x.off = 0) := by
    cases L with
    | nil => simp [firstOff]
    | cons a L => simp [firstOff]
  constructor
  · rintro ⟨h1, h2, h3, h4⟩
    rw [List.pairwise_append] at h2
    rw [hf] at h3
    rw [chain_snoc] at h4
    exact ⟨⟨fun p hp => h1 p (by simp [hp]), h2.1, h3.1, h4.1⟩, h1 x (by simp), fun p hp => h2.2.2 p hp x (by simp), h3.2, h4.2⟩
  · rintro ⟨⟨h1, h2, h3, h4⟩, h5, h6, h7, h8⟩
    refine ⟨fun p hp => ?_, ?_, hf.2 ⟨h3, h7⟩, chain_snoc.2 ⟨h4, h8⟩⟩
    · rcases List.mem_append.1 hp with hp | hp
      · exact h1 p hp
      · simp only [List.mem_singleton] at hp; subst hp; exact h5
    · rw [List.pairwise_append]
      exact ⟨h2, by simp, fun a ha b hb => by simp only [List.mem_singleton] at hb; subst hb; exact h6 a ha⟩
theorem Pre.take {L : List Pc} (h : Pre cores lag move L) : ∀ n : Nat, Pre cores lag move (L.take n) := by
  suffices ∀ (k n : Nat), L.length = n + k → Pre cores lag move (L.take n) by
    intro n
    by_cases hn : n ≤ L.length
    · exact this (L.length - n) n (by omega)
    · rw [List.take_of_length_le (by omega)]; exact h
  intro k
  induction k with
  | zero => intro n hn; rw [List.take_of_length_le (by omega)]; exact h
  | succ k ih =>
    intro n hn
    have h1 := ih (n + 1) (by omega)
    have hlt : n < L.length := by omega
    rw [List.take_succ_eq_append_getElem hlt, pre_snoc] at h1
    exact h1.1
theorem Pre.next_of {ps : List Pc} (h : Pre cores lag move ps) {i : Nat} (hi : i < ps.length) : ps[i].ok cores = true ∧ (∀ p, p ∈ ps.take i → p.core ≠ ps[i].core) ∧ (i = 0 → ps[i].off = 0) ∧ ∀ j (hj : j < ps.length), i = j + 1 → ps[j].off + ps[j].len + lag ≤ ps[i].off ∧ move < ps[i].c := by
  have h1 := h.take (i + 1)
  rw [List.take_succ_eq_append_getElem hi, pre_snoc] at h1
  obtain ⟨_, h2, h3, h4, h5⟩ := h1
  refine ⟨h2, h3, fun e => h4 (by subst e; rfl), fun j hj e => h5 _ ?_⟩
  subst e
  rw [List.take_succ_eq_append_getElem hj, List.getLast?_append]; rfl
theorem Pre.add {ps : List Pc} {i : Nat} (hi : i < ps.length) (h : Pre cores lag move (ps.take i)) (h1 : ps[i].ok cores = true) (h2 : ∀ p, p ∈ ps.take i → p.core ≠ ps[i].core) (h3 : i = 0 → ps[i].off = 0)
    (h4 : ∀ j (hj : j < ps.length), i = j + 1 → ps[j].off + ps[j].len + lag ≤ ps[i].off ∧ move < ps[i].c) : Pre cores lag move (ps.take (i + 1)) := by
  rw [List.take_succ_eq_append_getElem hi, pre_snoc]
  refine ⟨h, h1, h2, fun e => h3 ?_, fun p hp => ?_⟩
  · have := congrArg List.length e
    rw [List.length_take, List.length_nil] at this; omega
  · cases i with
    | zero => simp at hp
    | succ j =>
      have hj : j < ps.length := by omega
      rw [List.take_succ_eq_append_getElem hj, List.getLast?_append] at hp
      have : p = ps[j] := by simpa using hp.symm
      subst this
      exact h4 j hj rfl
theorem sum_take {ps : List Pc} {i : Nat} (hi : i < ps.length) : sumC (ps.take (i + 1)) = sumC (ps.take i) + ps[i].c := by
  rw [List.take_succ_eq_append_getElem hi, sumC_append]; simp [sumC]
theorem sum_bound {L : List Pc} (h : ∀ p, p ∈ L → p.ok cores = true) : 0 ≤ sumC L ∧ sumC L ≤ 200 * L.length := by
  induction L with
  | nil => simp [sumC]
  | cons a L ih =>
    have h1 := ih fun p hp => h p (by simp [hp])
    have h2 := Pc.ok_iff.1 (h a (by simp))
    simp only [sumC, List.length_cons]
    omega
theorem plan_pre {nsec : Nat} {kind : Int} {ps : List Pc} : PlanOk cores lag move C D nsec kind ps ↔ Pre cores lag move ps ∧ ps ≠ [] ∧ sumC ps = C + (ps.length - 1 : Int) * move ∧ lastEnd ps ≤ D ∧ kindOk D nsec kind ps :=
  ⟨fun h => ⟨⟨h.pcs, h.apart, h.first, h.next⟩, h.one, h.sum, h.last, h.kind⟩, fun ⟨a, b, c, d, e⟩ => ⟨a.pcs, a.apart, b, a.first, a.next, c, d, e⟩⟩
/-- Each piece may be, each is on a core of its own. -/
def apartB (cores : Int) (ps : List Pc) : Bool := ps.all (Pc.ok cores) && decide (ps.Pairwise fun a b => a.core ≠ b.core)
theorem apartB_iff {ps : List Pc} : apartB cores ps = true ↔ (∀ p, p ∈ ps → p.ok cores = true) ∧ ps.Pairwise fun a b => a.core ≠ b.core := by
  simp [apartB, List.all_eq_true]
structure SplitOk (lag move C D : Int) (nsec : Nat) (ps : List Pc) : Prop where
  sec : nsec = 0
  two : 2 ≤ ps.length
  first : firstOff ps = 0
  next : chain lag move ps
  last : lastEnd ps ≤ D
  sum : sumC ps = C + (ps.length - 1 : Int) * move
open Classical in
noncomputable def splitB (lag move C D : Int) (nsec : Nat) (ps : List Pc) : Bool := decide (SplitOk lag move C D nsec ps)
theorem splitB_iff {nsec : Nat} {ps : List Pc} : splitB lag move C D nsec ps = true ↔ SplitOk lag move C D nsec ps := by simp [splitB]
theorem may_whole {nsec : Nat} {ps : List Pc} (h : apartB cores ps = true) : planB cores lag move C D nsec 1 ps = true ↔ ∃ p, ps = [p] ∧ p.off = 0 ∧ p.len = D ∧ p.c = C := by
  rw [planB_iff]
  rw [apartB_iff] at h
  constructor
  · rintro ⟨h1, h2, h3, h4, h5, h6, h7, h8⟩
    rcases h8 with ⟨_, p, rfl, e⟩ | ⟨e, _⟩ | ⟨e, _⟩
    · simp only [sumC, firstOff, List.length_cons, List.length_nil] at *
      exact ⟨p, rfl, h4, e, by omega⟩
    · cases e
    · cases e
  · rintro ⟨p, rfl, e1, e2, e3⟩
    exact ⟨h.1, h.2, by simp, by simpa [firstOff] using e1, trivial, by simp [sumC, e3], by simp [lastEnd, e1, e2], .inl ⟨rfl, p, rfl, e2⟩⟩
theorem may_window {nsec : Nat} {ps : List Pc} (h : apartB cores ps = true) : planB cores lag move C D nsec 2 ps = splitB lag move C D nsec ps := by
  rw [Bool.eq_iff_iff, planB_iff, splitB_iff]
  rw [apartB_iff] at h
  constructor
  · rintro ⟨h1, h2, h3, h4, h5, h6, h7, h8⟩
    rcases h8 with ⟨e, _⟩ | ⟨_, e1, e2⟩ | ⟨e, _⟩
    · cases e
    · exact ⟨e2, e1, h4, h5, h7, h6⟩
    · cases e
  · rintro ⟨e1, e2, e3, e4, e5, e6⟩
    exact ⟨h.1, h.2, fun e => by subst e; simp at e2, e3, e4, e6, e5, .inr (.inl ⟨rfl, e2, e1⟩)⟩
theorem may_zero {nsec : Nat} {ps : List Pc} (h : apartB cores ps = true) : planB cores lag move C D nsec 3 ps = true ↔ splitB lag move C D nsec ps = true ∧ ∃ p q, ps = [p, q] ∧ p.len = p.c := by
  rw [planB_iff, splitB_iff]
  rw [apartB_iff] at h
  constructor
  · rintro ⟨h1, h2, h3, h4, h5, h6, h7, h8⟩
    rcases h8 with ⟨e, _⟩ | ⟨e, _⟩ | ⟨_, e1, p, q, e2, e3⟩
    · cases e
    · cases e
    · exact ⟨⟨e1, by rw [e2]; simp, h4, h5, h7, h6⟩, p, q, e2, e3⟩
  · rintro ⟨⟨e1, e2, e3, e4, e5, e6⟩, p, q, e7, e8⟩
    exact ⟨h.1, h.2, fun e => by subst e; simp at e2, e3, e4, e6, e5, .inr (.inr ⟨rfl, e1, p, q, e7, e8⟩)⟩
theorem may_other {nsec : Nat} {kind : Int} {ps : List Pc} (h1 : kind ≠ 1) (h2 : kind ≠ 2) (h3 : kind ≠ 3) : planB cores lag move C D nsec kind ps = false := by
  refine Bool.eq_false_iff.2 fun h => ?_
  rw [planB_iff] at h
  rcases h.kind with ⟨e, _⟩ | ⟨e, _⟩ | ⟨e, _⟩
  · exact h1 e
  · exact h2 e
  · exact h3 e
theorem may_apart {nsec : Nat} {kind : Int} {ps : List Pc} (h : apartB cores ps = false) : planB cores lag move C D nsec kind ps = false := by
  refine Bool.eq_false_iff.2 fun h' => ?_
  rw [planB_iff] at h'
  rw [apartB_iff.2 ⟨h'.pcs, h'.apart⟩] at h
  cases h
theorem lastEnd_getElem {ps : List Pc} (h : ps ≠ []) (hl : ps.length - 1 < ps.length) : lastEnd ps = ps[ps.length - 1].off + ps[ps.length - 1].len := lastEnd_eq (List.getElem?_eq_getElem hl)
end Go.Proofs.YtkjghcbnmipgfaaGreatDoor.Ma
namespace Go.Proofs.YtkjghcbnmipgfaaGreatDoor.Ma
variable {cores lag move C D T : Int}
/-- A core that is full takes nothing more. -/
theorem full_none (c d t : Int) : fitW [⟨7, 7, 7⟩] c d t = false := by
  refine Bool.eq_false_iff.2 fun h => ?_
  obtain ⟨⟨h1, h2⟩, ⟨h3, h4⟩, h5⟩ := fitW_ok h
  unfold fitW at h
  rw [fitsB_iff] at h
  rcases h.2 with h | ⟨e, he, _⟩
  · simp at h
  · have := he.eq
    have h7 := he.lo
    simp only [asked, List.cons_append, List.nil_append, sumL, ask1] at this
    have hq : 0 ≤ (e - 1) / t := Int.ediv_nonneg (by omega) (by omega)
    have hp : 1 * 1 ≤ c * ((e - 1) / t + 1) := Int.mul_le_mul h1 (by omega) (by omega) (by omega)
    omega
theorem full_window (hl : 0 ≤ lag) (hm : 0 ≤ move) (hC : 1 ≤ C) {ls : List (List Ld)} (h : ∀ l, l ∈ ls → l = [⟨7, 7, 7⟩]) (fuel n : Nat) : windowV lag move C D T ls fuel n = [] := by
  refine Classical.byContradiction fun hne => ?_
  obtain ⟨w, hw⟩ := windowV_spec hl hm hC fuel n hne
  have htwo := hw.two
  obtain ⟨_, _, _, _, _, _, l, e1, e2⟩ := hw.each 0 _ (List.getElem?_eq_getElem (show 0 < _ by omega))
  rw [h l (List.mem_of_getElem? e1), full_none] at e2
  cases e2
theorem full_zero {ls : List (List Ld)} (h : ∀ l, l ∈ ls → l = [⟨7, 7, 7⟩]) : zeroV lag move C D T ls = [] := by
  refine Classical.byContradiction fun hne => ?_
  obtain ⟨a, b, x, h1, h2, h3, h4, h5, h6, h7, h8, _⟩ := (zeroV_spec hne).it
  rw [List.getElem?_eq_getElem h2, Option.getD_some, h _ (List.getElem_mem _), full_none] at h7
  cases h7
theorem one_zero {ls : List (List Ld)} (h : ls.length ≤ 1) : zeroV lag move C D T ls = [] := by
  refine Classical.byContradiction fun hne => ?_
  obtain ⟨a, b, x, h1, h2, h3, _⟩ := (zeroV_spec hne).it
  omega
/-- The longer it waits the later the core. -/
theorem core_waits (ls : List (List Ld)) (c d t : Int) (hc : 1 ≤ c) (h : ¬ coreV ls ⟨c + 1, d, t⟩ < 0) : ¬ coreV ls ⟨c, d, t⟩ < 0 ∧ coreV ls ⟨c, d, t⟩ ≤ coreV ls ⟨c + 1, d, t⟩ := by
  obtain ⟨i, hi, e, h1, h2⟩ := coreV_some h
  have h3 : fitsB (ls[i] ++ [⟨c, d, t⟩]) = true := fitW_less (l := ls[i]) (c := c + 1) (c' := c) (d := d) (t := t) h1 hc (by omega)
  have hn : ¬ coreV ls ⟨c, d, t⟩ < 0 := fun hlt => by
    have := coreV_none.1 hlt _ (List.getElem_mem hi)
    rw [h3] at this; cases this
  refine ⟨hn, ?_⟩
  obtain ⟨j, hj, e2, h4, h5⟩ := coreV_some hn
  by_cases hij : i < j
  · have := h5 i hij
    rw [h3] at this; cases this
  · omega
theorem core_fits {ls : List (List Ld)} {x : Ld} (h : ¬ coreV ls x < 0) : ∃ i : Nat, ∃ hi : i < ls.length, coreV ls x = i ∧ fitsB (ls[i] ++ [x]) = true := by
  obtain ⟨i, hi, e, h1, _⟩ := coreV_some h
  exact ⟨i, hi, e, h1⟩
/-- What a split asks of a core fits there. -/
def Asks (T : Int) (ls : List (List Ld)) (ps : List Pc) : Prop := ∀ q, q ∈ ps → 0 ≤ q.core ∧ ∃ l, ls[q.core.toNat]? = some l ∧ fitW l q.c q.len T = true
theorem WinOk.asks {ls : List (List Ld)} {ps : List Pc} {w : Int} (h : WinOk lag move C D T ls ps w) : Asks T ls ps := by
  intro q hq
  obtain ⟨i, hi⟩ := List.getElem?_of_mem hq
  obtain ⟨_, e2, _, _, _, e6, l, e7, e8⟩ := h.each i q hi
  exact ⟨e6, l, e7, by rw [e2]; exact e8⟩
theorem ZeroOk.asks {ls : List (List Ld)} {ps : List Pc} (h : ZeroOk lag move C D T ls ps) : Asks T ls ps := by
  obtain ⟨a, b, x, h1, h2, h3, h4, h5, h6, h7, h8, rfl⟩ := h.it
  rw [List.getElem?_eq_getElem h2, Option.getD_some] at h7
  rw [List.getElem?_eq_getElem h3, Option.getD_some] at h8
  intro q hq
  simp only [List.mem_cons, List.not_mem_nil, or_false] at hq
  rcases hq with rfl | rfl
  · exact ⟨by simp only; omega, _, by simp only [Int.toNat_natCast]; exact List.getElem?_eq_getElem h2, h7⟩
  · exact ⟨by simp only; omega, _, by simp only [Int.toNat_natCast]; exact List.getElem?_eq_getElem h3, h8⟩
theorem chain_get {L : List Pc} (h : chain lag move L) : ∀ (i : Nat) (hi : i + 1 < L.length), L[i].off + L[i].len + lag ≤ L[i + 1].off ∧ move < L[i + 1].c := by
  induction L with
  | nil => intro i hi; simp at hi
  | cons a L ih =>
    cases L with
    | nil => intro i hi; simp at hi
    | cons b L =>
      intro i hi
      cases i with
      | zero => exact h.1
      | succ i => exact ih h.2 i (by simpa using hi)
/-- Ends of pieces rise. -/
theorem ends_rise (hl : 0 ≤ lag) {ps : List Pc} (h : chain lag move ps) (hok : ∀ p, p ∈ ps → p.ok cores = true) (i : Nat) (hi : i + 1 < ps.length) : ps[i].off + ps[i].len < ps[i + 1].off + ps[i + 1].len := by
  have h1 := chain_get h i hi
  have h2 := Pc.ok_iff.1 (hok _ (List.getElem_mem hi))
  omega
theorem ends_le (hl : 0 ≤ lag) {ps : List Pc} (h : chain lag move ps) (hok : ∀ p, p ∈ ps → p.ok cores = true) (hd : lastEnd ps ≤ D) : ∀ (k i : Nat) (hi : i < ps.length), i + k + 1 = ps.length → ps[i].off + ps[i].len ≤ D := by
  intro k
  induction k with
  | zero =>
    intro i hi e
    have : lastEnd ps = ps[i].off + ps[i].len := lastEnd_eq (by rw [show ps.length - 1 = i by omega]; exact List.getElem?_eq_getElem hi)
    omega
  | succ k ih =>
    intro i hi e
    have h1 := ih (i + 1) (by omega) (by omega)
    have h2 := ends_rise (cores := cores) hl h hok i (by omega)
    omega
end Go.Proofs.YtkjghcbnmipgfaaGreatDoor.Ma
