/- Plain laws on loads: when they fit, that less of the same fits too, that their order turns nothing. No program in sight, no condition. -/
namespace Go.Proofs.YtkjghcbnmipgfaaGreatDoor.Ma

structure Ld where
  c : Int
  d : Int
  t : Int
deriving DecidableEq

def Ld.ok (x : Ld) : Bool := decide (1 ≤ x.c) && decide (x.c ≤ 20000) && (decide (1 ≤ x.d) && decide (x.d ≤ x.t) && decide (x.t ≤ 200))
theorem Ld.ok_iff {x : Ld} : x.ok = true ↔ (1 ≤ x.c ∧ x.c ≤ 20000) ∧ (1 ≤ x.d ∧ x.d ≤ x.t) ∧ x.t ≤ 200 := by simp [Ld.ok, and_assoc]

/-- May they all be, are there few enough? -/
def mayL (l : List Ld) : Bool := decide (l.length ≤ 24) && l.all Ld.ok
theorem mayL_iff {l : List Ld} : mayL l = true ↔ l.length ≤ 24 ∧ ∀ x, x ∈ l → x.ok = true := by simp [mayL]

def sumL (f : Ld → Int) : List Ld → Int
  | [] => 0
  | x :: xs => f x + sumL f xs
theorem sumL_append (f : Ld → Int) (a b : List Ld) : sumL f (a ++ b) = sumL f a + sumL f b := by
  induction a with
  | nil => simp [sumL]
  | cons x xs ih => simp [sumL, ih]; omega
theorem sumL_perm {f : Ld → Int} {a b : List Ld} (h : a.Perm b) : sumL f a = sumL f b := by
  induction h with
  | nil => rfl
  | cons x _ ih => simp [sumL, ih]
  | swap x y l => simp [sumL]; omega
  | trans _ _ iha ihb => exact iha.trans ihb
theorem sumL_le {f g : Ld → Int} {l : List Ld} (h : ∀ x, x ∈ l → f x ≤ g x) : sumL f l ≤ sumL g l := by
  induction l with
  | nil => exact Int.le_refl _
  | cons x xs ih =>
    have := h x (List.mem_cons_self ..)
    have := ih fun y hy => h y (List.mem_cons_of_mem _ hy)
    simp only [sumL]; omega
theorem sumL_take {f : Ld → Int} {l : List Ld} (i : Nat) (h : i < l.length) : sumL f (l.take (i + 1)) = sumL f (l.take i) + f l[i] := by
  rw [List.take_add_one, List.getElem?_eq_getElem h, sumL_append]; simp [sumL]
theorem sumL_bound {f : Ld → Int} {l : List Ld} {B : Int} (h : ∀ x, x ∈ l → 0 ≤ f x ∧ f x ≤ B) : 0 ≤ sumL f l ∧ sumL f l ≤ l.length * B := by
  induction l with
  | nil => simp [sumL]
  | cons x xs ih =>
    have h1 := h x (List.mem_cons_self ..)
    have h2 := ih fun y hy => h y (List.mem_cons_of_mem _ hy)
    simp only [sumL, List.length_cons, Int.natCast_succ, Int.add_mul, Int.one_mul]
    omega
theorem sumL_congr {f g : Ld → Int} {l : List Ld} (h : ∀ x, x ∈ l → f x = g x) : sumL f l = sumL g l := by
  induction l with
  | nil => rfl
  | cons x xs ih => simp only [sumL]; rw [h x (List.mem_cons_self ..), ih fun y hy => h y (List.mem_cons_of_mem _ hy)]

/-- How much is asked in the first t ticks (t from 1 on). -/
def ask1 (t : Int) (x : Ld) : Int := x.c * ((t - 1) / x.t + 1)
def asked (l : List Ld) (t : Int) : Int := sumL (ask1 t) l
/-- How much is due. -/
def due1 (t : Int) (x : Ld) : Int := if x.d > t then 0 else x.c * ((t - x.d) / x.t + 1)
def dueL (l : List Ld) (t : Int) : Int := sumL (due1 t) l

theorem ask1_bound {x : Ld} (hx : x.ok = true) {t : Int} (h1 : 1 ≤ t) (h2 : t ≤ 20000) : 1 ≤ ask1 t x ∧ ask1 t x ≤ 400000000 := by
  rw [Ld.ok_iff] at hx
  have h3 : 0 ≤ (t - 1) / x.t := Int.ediv_nonneg (by omega) (by omega)
  have h4 : (t - 1) / x.t ≤ t - 1 := Int.ediv_le_self _ (by omega)
  unfold ask1
  refine ⟨?_, ?_⟩
  · calc (1 : Int) = 1 * 1 := by omega
      _ ≤ x.c * ((t - 1) / x.t + 1) := Int.mul_le_mul (by omega) (by omega) (by omega) (by omega)
  · calc x.c * ((t - 1) / x.t + 1) ≤ 20000 * 20000 := Int.mul_le_mul (by omega) (by omega) (by omega) (by omega)
      _ = 400000000 := by omega
theorem due1_bound {x : Ld} (hx : x.ok = true) {t : Int} (h2 : t ≤ 20000) : 0 ≤ due1 t x ∧ due1 t x ≤ 400000000 := by
  rw [Ld.ok_iff] at hx
  unfold due1
  split
  · omega
  · have h3 : 0 ≤ (t - x.d) / x.t := Int.ediv_nonneg (by omega) (by omega)
    have h4 : (t - x.d) / x.t ≤ t - x.d := Int.ediv_le_self _ (by omega)
    refine ⟨Int.mul_nonneg (by omega) (by omega), ?_⟩
    calc x.c * ((t - x.d) / x.t + 1) ≤ 20000 * 20000 := Int.mul_le_mul (by omega) (by omega) (by omega) (by omega)
      _ = 400000000 := by omega

theorem asked_bound {l : List Ld} (hl : mayL l = true) {t : Int} (h1 : 1 ≤ t) (h2 : t ≤ 20000) : 0 ≤ asked l t ∧ asked l t ≤ 9600000000 := by
  rw [mayL_iff] at hl
  have h : 0 ≤ asked l t ∧ asked l t ≤ l.length * 400000000 := sumL_bound (l := l) (f := ask1 t) (B := 400000000) fun x hx => by
    have := ask1_bound (hl.2 x hx) h1 h2; omega
  omega
theorem due_bound {l : List Ld} (hl : mayL l = true) {t : Int} (h2 : t ≤ 20000) : 0 ≤ dueL l t ∧ dueL l t ≤ 9600000000 := by
  rw [mayL_iff] at hl
  have h : 0 ≤ dueL l t ∧ dueL l t ≤ l.length * 400000000 := sumL_bound (l := l) (f := due1 t) (B := 400000000) fun x hx => due1_bound (hl.2 x hx) h2
  omega

theorem ask1_mono {x : Ld} (hx : x.ok = true) {s t : Int} (h : s ≤ t) : ask1 s x ≤ ask1 t x := by
  rw [Ld.ok_iff] at hx
  have h3 : (s - 1) / x.t ≤ (t - 1) / x.t := Int.ediv_le_ediv (by omega) (by omega)
  exact Int.mul_le_mul_of_nonneg_left (by omega) (by omega)
theorem asked_mono {l : List Ld} (hl : mayL l = true) {s t : Int} (h : s ≤ t) : asked l s ≤ asked l t := by
  rw [mayL_iff] at hl
  exact sumL_le fun x hx => ask1_mono (hl.2 x hx) h
theorem asked_pos {l : List Ld} (hl : mayL l = true) (hn : l ≠ []) {t : Int} (h : 1 ≤ t) (h2 : t ≤ 20000) : 1 ≤ asked l t := by
  rw [mayL_iff] at hl
  cases l with
  | nil => exact absurd rfl hn
  | cons x xs =>
    have h1 := ask1_bound (hl.2 x (List.mem_cons_self ..)) h h2
    have h3 : 0 ≤ sumL (ask1 t) xs ∧ sumL (ask1 t) xs ≤ xs.length * 400000000 := sumL_bound fun y hy => by have := ask1_bound (hl.2 y (List.mem_cons_of_mem _ hy)) h h2; omega
    simp only [asked, sumL]; omega

/-- 'e' is the busy time. -/
structure Busy (l : List Ld) (e : Int) : Prop where
  lo : 1 ≤ e
  hi : e ≤ 20000
  eq : asked l e = e
  least : ∀ s, 1 ≤ s → s < e → asked l s ≠ s

theorem Busy.uniq {l : List Ld} {e e' : Int} (h : Busy l e) (h' : Busy l e') : e = e' := by
  rcases Int.lt_trichotomy e e' with hlt | heq | hgt
  · exact absurd h.eq (h'.least e h.lo hlt)
  · exact heq
  · exact absurd h'.eq (h.least e' h'.lo hgt)

/-- Where not more is asked than there is time there is a busy time. -/
theorem busy_of_le {l : List Ld} (hl : mayL l = true) (hn : l ≠ []) {e : Int} (h1 : 1 ≤ e) (h2 : e ≤ 20000) (h : asked l e ≤ e) : ∃ e', Busy l e' ∧ e' ≤ e := by
  obtain ⟨n, rfl⟩ := Int.eq_ofNat_of_zero_le (show 0 ≤ e by omega)
  induction n using Nat.strongRecOn with
  | ind n ih =>
    by_cases hs : ∃ m : Nat, 1 ≤ m ∧ m < n ∧ asked l m ≤ m
    · obtain ⟨m, m1, m2, m3⟩ := hs
      obtain ⟨e', he, hle⟩ := ih m m2 (by omega) (by omega) m3
      exact ⟨e', he, by omega⟩
    · have hno : ∀ s : Int, 1 ≤ s → s < n → ¬ asked l s ≤ s := fun s s1 s2 hle => by
        obtain ⟨m, rfl⟩ := Int.eq_ofNat_of_zero_le (show 0 ≤ s by omega)
        exact hs ⟨m, by omega, by omega, hle⟩
      refine ⟨n, ⟨h1, h2, ?_, fun s s1 s2 e => hno s s1 s2 (by omega)⟩, Int.le_refl _⟩
      by_cases hb : (n : Int) = 1
      · have := asked_pos hl hn h1 h2; omega
      · have := hno (n - 1) (by omega) (by omega)
        have := asked_mono hl (s := (n : Int) - 1) (t := n) (by omega)
        omega

/-- The loads fit on a core. -/
def FitsP (l : List Ld) : Prop := mayL l = true ∧ (l = [] ∨ ∃ e, Busy l e ∧ ∀ t, 1 ≤ t → t ≤ e → dueL l t ≤ t)

open Classical in
noncomputable def fitsB (l : List Ld) : Bool := decide (FitsP l)
theorem fitsB_iff {l : List Ld} : fitsB l = true ↔ FitsP l := by simp [fitsB]
theorem fitsB_false {l : List Ld} : fitsB l = false ↔ ¬ FitsP l := by simp [fitsB]

theorem asked_perm {a b : List Ld} (h : a.Perm b) (t : Int) : asked a t = asked b t := sumL_perm h
theorem due_perm {a b : List Ld} (h : a.Perm b) (t : Int) : dueL a t = dueL b t := sumL_perm h
theorem mayL_perm {a b : List Ld} (h : a.Perm b) : mayL a = mayL b := by
  rw [Bool.eq_iff_iff, mayL_iff, mayL_iff, h.length_eq]
  exact ⟨fun ⟨h1, h2⟩ => ⟨h1, fun x hx => h2 x (h.mem_iff.2 hx)⟩, fun ⟨h1, h2⟩ => ⟨h1, fun x hx => h2 x (h.mem_iff.1 hx)⟩⟩
theorem Busy.perm {a b : List Ld} (h : a.Perm b) {e : Int} (hb : Busy a e) : Busy b e :=
  ⟨hb.lo, hb.hi, (asked_perm h e).symm.trans hb.eq, fun s h1 h2 hs => hb.least s h1 h2 ((asked_perm h s).trans hs)⟩
theorem FitsP.perm {a b : List Ld} (h : a.Perm b) (hf : FitsP a) : FitsP b := by
  obtain ⟨h1, h2⟩ := hf
  refine ⟨(mayL_perm h).symm.trans h1, ?_⟩
  rcases h2 with rfl | ⟨e, he, hd⟩
  · exact .inl h.nil_eq.symm
  · exact .inr ⟨e, he.perm h, fun t t1 t2 => (due_perm h t) ▸ hd t t1 t2⟩
theorem fitsB_perm {a b : List Ld} (h : a.Perm b) : fitsB a = fitsB b := by
  rw [Bool.eq_iff_iff, fitsB_iff, fitsB_iff]; exact ⟨FitsP.perm h, FitsP.perm h.symm⟩

/-- Less of the same. -/
theorem FitsP.less {l : List Ld} {c c' d t : Int} (hf : FitsP (l ++ [⟨c, d, t⟩])) (h1 : 1 ≤ c') (h2 : c' ≤ c) : FitsP (l ++ [⟨c', d, t⟩]) := by
  obtain ⟨hm, hf⟩ := hf
  have hm0 := mayL_iff.1 hm
  have hc := Ld.ok_iff.1 (hm0.2 ⟨c, d, t⟩ (by simp))
  have hm' : mayL (l ++ [⟨c', d, t⟩]) = true := by
    rw [mayL_iff]
    refine ⟨by simpa using hm0.1, fun x hx => ?_⟩
    rcases List.mem_append.1 hx with hx | hx
    · exact hm0.2 x (by simp [hx])
    · simp only [List.mem_singleton] at hx
      subst hx
      rw [Ld.ok_iff]
      simp only at hc ⊢
      omega
  have ha : ∀ s : Int, 1 ≤ s → asked (l ++ [⟨c', d, t⟩]) s ≤ asked (l ++ [⟨c, d, t⟩]) s := by
    intro s hs
    simp only [asked, sumL_append, sumL, ask1]
    have h3 : 0 ≤ (s - 1) / t := Int.ediv_nonneg (by omega) (by simp only at hc; omega)
    have := Int.mul_le_mul_of_nonneg_right h2 (show 0 ≤ (s - 1) / t + 1 by omega)
    omega
  have hd : ∀ s : Int, dueL (l ++ [⟨c', d, t⟩]) s ≤ dueL (l ++ [⟨c, d, t⟩]) s := by
    intro s
    simp only [dueL, sumL_append, sumL, due1]
    split
    · omega
    · have h3 : 0 ≤ (s - d) / t := Int.ediv_nonneg (by omega) (by simp only at hc; omega)
      have := Int.mul_le_mul_of_nonneg_right h2 (show 0 ≤ (s - d) / t + 1 by omega)
      omega
  refine ⟨hm', .inr ?_⟩
  rcases hf with hf | ⟨e, he, hdue⟩
  · simp at hf
  · obtain ⟨e', he', hle⟩ := busy_of_le hm' (by simp) he.lo he.hi (by have := ha e he.lo; have := he.eq; omega)
    exact ⟨e', he', fun s s1 s2 => by have := hdue s s1 (by omega); have := hd s; omega⟩

/-- What is due grows at deadlines alone. -/
theorem due1_step {x : Ld} (hx : x.ok = true) (t : Int) : due1 t x = due1 (t - 1) x + if t ≥ x.d ∧ (t - x.d) % x.t = 0 then x.c else 0 := by
  rw [Ld.ok_iff] at hx
  unfold due1
  by_cases h1 : x.d > t
  · rw [if_pos h1, if_pos (by omega), if_neg (by omega)]; omega
  · rw [if_neg h1]
    by_cases h2 : x.d > t - 1
    · have : t = x.d := by omega
      subst this
      rw [if_pos h2, if_pos ⟨by omega, by simp⟩]
      simp
    · rw [if_neg h2]
      have e1 := Int.mul_ediv_add_emod (t - x.d) x.t
      by_cases h3 : (t - x.d) % x.t = 0
      · rw [if_pos ⟨by omega, h3⟩]
        have e2 : (t - 1 - x.d) / x.t = (t - x.d) / x.t - 1 := by
          have : t - 1 - x.d = (x.t - 1) + x.t * ((t - x.d) / x.t - 1) := by
            rw [Int.mul_sub]; omega
          rw [this, Int.add_mul_ediv_left _ _ (by omega), Int.ediv_eq_zero_of_lt (by omega) (by omega)]; omega
        rw [e2]
        have : (t - x.d) / x.t - 1 + 1 = (t - x.d) / x.t := by omega
        rw [this, Int.mul_add]; omega
      · rw [if_neg fun h => h3 h.2]
        have hlt := Int.emod_lt_of_pos (t - x.d) (show 0 < x.t by omega)
        have hge := Int.emod_nonneg (t - x.d) (show x.t ≠ 0 by omega)
        have e2 : (t - 1 - x.d) / x.t = (t - x.d) / x.t := by
          have : t - 1 - x.d = ((t - x.d) % x.t - 1) + x.t * ((t - x.d) / x.t) := by omega
          rw [this, Int.add_mul_ediv_left _ _ (by omega), Int.ediv_eq_zero_of_lt (by omega) (by omega)]; omega
        rw [e2]; omega

theorem due_zero {l : List Ld} (hl : mayL l = true) : dueL l 0 = 0 := by
  rw [mayL_iff] at hl
  have : dueL l 0 = sumL (fun _ => 0) l := sumL_congr fun x hx => by
    have := Ld.ok_iff.1 (hl.2 x hx)
    unfold due1
    rw [if_pos (by omega)]
  rw [this]
  clear this hl
  induction l with
  | nil => rfl
  | cons x xs ih => simp [sumL, ih]

/-- Where at no deadline too much is dueL it never is. -/
theorem due_le_of {l : List Ld} (hl : mayL l = true) {F : Int} (h : ∀ x, x ∈ l → ∀ k : Int, 0 ≤ k → x.d + k * x.t < F → dueL l (x.d + k * x.t) ≤ x.d + k * x.t) : ∀ t, 0 ≤ t → t < F → dueL l t ≤ t := by
  intro t ht
  obtain ⟨n, rfl⟩ := Int.eq_ofNat_of_zero_le ht
  clear ht
  induction n with
  | zero => intro _; have := due_zero hl; simp only [Int.natCast_zero] at *; omega
  | succ n ih =>
    intro hF
    simp only [Int.natCast_succ] at *
    by_cases hx : ∃ x, x ∈ l ∧ ((n : Int) + 1 ≥ x.d ∧ ((n : Int) + 1 - x.d) % x.t = 0)
    · obtain ⟨x, hx, h1, h2⟩ := hx
      have hok := Ld.ok_iff.1 ((mayL_iff.1 hl).2 x hx)
      have e1 := Int.mul_ediv_add_emod ((n : Int) + 1 - x.d) x.t
      have e2 : (n : Int) + 1 = x.d + ((n : Int) + 1 - x.d) / x.t * x.t := by rw [Int.mul_comm]; omega
      have := h x hx (((n : Int) + 1 - x.d) / x.t) (Int.ediv_nonneg (by omega) (by omega)) (by omega)
      rw [← e2] at this
      exact this
    · have : dueL l ((n : Int) + 1) = dueL l n := sumL_congr fun x hm => by
        rw [due1_step ((mayL_iff.1 hl).2 x hm), if_neg fun hh => hx ⟨x, hm, hh⟩]
        have : (n : Int) + 1 - 1 = n := by omega
        rw [this]; omega
      have := ih (by omega)
      omega

end Go.Proofs.YtkjghcbnmipgfaaGreatDoor.Ma
