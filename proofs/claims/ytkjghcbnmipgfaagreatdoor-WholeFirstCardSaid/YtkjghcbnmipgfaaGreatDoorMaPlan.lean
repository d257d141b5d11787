/- Plain laws on plans: which may be, and that the three ways to split give such. No program in sight, no condition. -/
import Derived.Test.YtkjghcbnmipgfaaGreatDoorMaWin
namespace Go.Proofs.YtkjghcbnmipgfaaGreatDoor.Ma

/-- A piece may be. -/
def Pc.ok (cores : Int) (p : Pc) : Bool := decide (0 ≤ p.core) && decide (p.core < cores) && (decide (0 ≤ p.off) && decide (p.off ≤ 200)) && (decide (1 ≤ p.c) && decide (p.c ≤ p.len) && decide (p.off + p.len ≤ 200))
theorem Pc.ok_iff {cores : Int} {p : Pc} : p.ok cores = true ↔ (0 ≤ p.core ∧ p.core < cores) ∧ (0 ≤ p.off ∧ p.off ≤ 200) ∧ 1 ≤ p.c ∧ p.c ≤ p.len ∧ p.off + p.len ≤ 200 := by
  simp [Pc.ok, and_assoc]

def sumC : List Pc → Int
  | [] => 0
  | p :: ps => p.c + sumC ps
theorem sumC_append (a b : List Pc) : sumC (a ++ b) = sumC a + sumC b := by
  induction a with
  | nil => simp [sumC]
  | cons x xs ih => simp only [List.cons_append, sumC, ih]; omega

/-- Pieces follow one another. -/
def chain (lag move : Int) : List Pc → Prop
  | a :: b :: ps => (a.off + a.len + lag ≤ b.off ∧ move < b.c) ∧ chain lag move (b :: ps)
  | _ => True
def lastEnd : List Pc → Int
  | [] => 0
  | [p] => p.off + p.len
  | _ :: p :: ps => lastEnd (p :: ps)
def firstOff : List Pc → Int
  | [] => 0
  | p :: _ => p.off
def kindOk (D : Int) (nsec : Nat) (kind : Int) (ps : List Pc) : Prop :=
  (kind = 1 ∧ ∃ p, ps = [p] ∧ p.len = D) ∨ (kind = 2 ∧ 2 ≤ ps.length ∧ nsec = 0) ∨ (kind = 3 ∧ nsec = 0 ∧ ∃ p q, ps = [p, q] ∧ p.len = p.c)

/-- A plan may be. -/
structure PlanOk (cores lag move C D : Int) (nsec : Nat) (kind : Int) (ps : List Pc) : Prop where
  pcs : ∀ p, p ∈ ps → p.ok cores = true
  apart : ps.Pairwise fun a b => a.core ≠ b.core
  one : ps ≠ []
  first : firstOff ps = 0
  next : chain lag move ps
  sum : sumC ps = C + (ps.length - 1 : Int) * move
  last : lastEnd ps ≤ D
  kind : kindOk D nsec kind ps

open Classical in
noncomputable def planB (cores lag move C D : Int) (nsec : Nat) (kind : Int) (ps : List Pc) : Bool := decide (PlanOk cores lag move C D nsec kind ps)
theorem planB_iff {cores lag move C D : Int} {nsec : Nat} {kind : Int} {ps : List Pc} : planB cores lag move C D nsec kind ps = true ↔ PlanOk cores lag move C D nsec kind ps := by simp [planB]

/-- A machine and a task, within the limits. -/
structure Lim (cores lag move C D T : Int) : Prop where
  c1 : 1 ≤ cores
  c2 : cores ≤ 6
  l1 : 0 ≤ lag
  l2 : lag ≤ 5
  m1 : 0 ≤ move
  m2 : move ≤ 5
  C1 : 1 ≤ C
  CD : C ≤ D
  DT : D ≤ T
  T2 : T ≤ 200

variable {cores lag move C D T : Int}

theorem sizeV_bound {n : Int} (hs : sizeV D lag n ≠ 0) : 1 ≤ n ∧ 1 ≤ sizeV D lag n ∧ n * sizeV D lag n + (n - 1) * lag ≤ D ∧ D < n * sizeV D lag n + (n - 1) * lag + n := by
  unfold sizeV at *
  split at hs
  · exact absurd rfl hs
  · rename_i hc
    rw [if_neg hc]
    have h1 := Int.mul_ediv_add_emod (D - (n - 1) * lag) n
    have h2 := Int.emod_lt_of_pos (D - (n - 1) * lag) (show 0 < n by omega)
    have h3 := Int.emod_nonneg (D - (n - 1) * lag) (show n ≠ 0 by omega)
    have h4 : 1 ≤ (D - (n - 1) * lag) / n := Int.le_ediv_of_mul_le (by omega) (by omega)
    omega

/-- The pieces: one by one. -/
theorem piecesV_spec (lag w move : Int) (hm : 0 ≤ move) : ∀ (ps : List Place) (left k : Int), 0 ≤ left → 0 ≤ k → (∀ p, p ∈ ps → move < p.x) →
    0 ≤ (piecesV lag w move left k ps).2 ∧ (piecesV lag w move left k ps).2 ≤ left ∧ (piecesV lag w move left k ps).1.length ≤ ps.length ∧
    (∀ (i : Nat) q, (piecesV lag w move left k ps).1[i]? = some q → ∃ p, ps[i]? = some p ∧ q.core = p.core ∧ q.off = (k + i) * (w + lag) ∧ q.len = w ∧ 1 ≤ q.c ∧ q.c ≤ p.x ∧ (0 < k + i → move < q.c)) ∧
    sumC (piecesV lag w move left k ps).1 = left - (piecesV lag w move left k ps).2 + ((piecesV lag w move left k ps).1.length : Int) * move - (if k = 0 ∧ (piecesV lag w move left k ps).1 ≠ [] then move else 0) := by
  intro ps
  induction ps with
  | nil => intro left k h1 _ _; simp [piecesV, sumC]; omega
  | cons p ps ih =>
    intro left k h1 hk hx
    unfold piecesV
    split
    · rename_i h; simp [sumC]; omega
    · rename_i hne
      have hp := hx p (List.mem_cons_self ..)
      simp only
      generalize hmv : (if k = 0 then (0 : Int) else move) = mv
      have hmv' : mv ≤ move ∧ 0 ≤ mv ∧ (k ≠ 0 → mv = move) ∧ (k = 0 → mv = 0) := by subst hmv; split <;> omega
      obtain ⟨i1, i2, i3, i4, i5⟩ := ih (left - min (p.x - mv) left) (k + 1) (by omega) (by omega) fun q hq => hx q (List.mem_cons_of_mem _ hq)
      refine ⟨i1, by omega, by simp; omega, fun i q hq => ?_, ?_⟩
      · cases i with
        | zero =>
          simp only [List.getElem?_cons_zero, Option.some.injEq] at hq
          subst hq
          exact ⟨p, rfl, rfl, by simp, rfl, by simp only; omega, by simp only; omega, fun hk0 => by simp only; simp at hk0; have := hmv'.2.2.1 (by omega); omega⟩
        | succ i =>
          rw [List.getElem?_cons_succ] at hq
          obtain ⟨p', h1, h2, h3, h4⟩ := i4 i q hq
          refine ⟨p', by simpa using h1, h2, ?_, ?_⟩
          · rw [h3]; congr 1; simp; omega
          · have e : k + ((i + 1 : Nat) : Int) = k + 1 + (i : Int) := by simp; omega
            rw [e]; exact h4
      · simp only [sumC, i5, List.length_cons, Int.natCast_succ, Int.add_mul, Int.one_mul]
        have e1 : ¬ (k + 1 = 0 ∧ (piecesV lag w move (left - min (p.x - mv) left) (k + 1) ps).1 ≠ []) := by omega
        rw [if_neg e1]
        by_cases hk0 : k = 0
        · rw [if_pos ⟨hk0, by simp⟩]; have := hmv'.2.2.2 hk0; omega
        · rw [if_neg fun h => hk0 h.1]; have := hmv'.2.2.1 hk0; omega

/-- A split in windows, and what it is. -/
structure WinOk (lag move C D T : Int) (ls : List (List Ld)) (ps : List Pc) (w : Int) : Prop where
  w1 : 1 ≤ w
  two : 2 ≤ ps.length
  le : ps.length ≤ ls.length
  time : (ps.length : Int) * w + (ps.length - 1 : Int) * lag ≤ D
  sum : sumC ps = C + (ps.length - 1 : Int) * move
  asc : ps.Pairwise fun a b => a.core < b.core
  each : ∀ (i : Nat) q, ps[i]? = some q → q.off = (i : Int) * (w + lag) ∧ q.len = w ∧ 1 ≤ q.c ∧ q.c ≤ w ∧ (0 < i → move < q.c) ∧ 0 ≤ q.core ∧ ∃ l, ls[q.core.toNat]? = some l ∧ fitW l q.c w T = true

theorem getElem?_lt {α : Type} {l : List α} {i : Nat} {x : α} (h : l[i]? = some x) : i < l.length := (List.getElem?_eq_some_iff.1 h).1

theorem win_step (hl : 0 ≤ lag) (hm : 0 ≤ move) (hC : 1 ≤ C) {ls : List (List Ld)} {n : Nat} (hs : sizeV D lag n ≠ 0) (hr : (piecesV lag (sizeV D lag n) move C 0 (bestV (places move (ls.map fun l => mostV l (sizeV D lag n) T (sizeV D lag n))) n)).2 = 0 ∧ 1 < (piecesV lag (sizeV D lag n) move C 0 (bestV (places move (ls.map fun l => mostV l (sizeV D lag n) T (sizeV D lag n))) n)).1.length) :
    WinOk lag move C D T ls (piecesV lag (sizeV D lag n) move C 0 (bestV (places move (ls.map fun l => mostV l (sizeV D lag n) T (sizeV D lag n))) n)).1 (sizeV D lag n) := by
  obtain ⟨s1, s2, s3, s4⟩ := sizeV_bound hs
  generalize sizeV D lag n = w at *
  generalize hb : bestV (places move (ls.map fun l => mostV l w T w)) n = b at *
  have hmem : ∀ p, p ∈ b → 0 ≤ p.core ∧ (ls.map fun l => mostV l w T w)[p.core.toNat]? = some p.x ∧ move < p.x := fun p hp => by
    subst hb; exact places_mem.1 (bestV_mem hp)
  have hsort : b.Pairwise fun a b => a.core < b.core := by subst hb; exact bestV_sorted places_sorted
  have hlen : b.length ≤ n := by subst hb; rw [bestV_length]; split <;> omega
  have hlen2 : b.length ≤ ls.length := by
    have h0 : (places move (ls.map fun l => mostV l w T w)).length ≤ ls.length := by
      have := placesFrom_length (move := move) (ls.map fun l => mostV l w T w) 0
      simpa [places] using this
    subst hb; rw [bestV_length]; split <;> omega
  obtain ⟨i1, i2, i3, i4, i5⟩ := piecesV_spec lag w move hm b C 0 (by omega) (by omega) fun p hp => (hmem p hp).2.2
  generalize hps : piecesV lag w move C 0 b = r at *
  obtain ⟨ps, left⟩ := r
  simp only at *
  obtain ⟨rfl, hr⟩ := hr
  refine ⟨s2, by omega, by omega, ?_, ?_, ?_, fun i q hq => ?_⟩
  · have h1 : (ps.length : Int) ≤ n := by omega
    have h2 : (ps.length : Int) * w ≤ n * w := Int.mul_le_mul_of_nonneg_right h1 (by omega)
    have h3 : (ps.length - 1 : Int) * lag ≤ (n - 1 : Int) * lag := Int.mul_le_mul_of_nonneg_right (by omega) hl
    omega
  · rw [i5, if_pos ⟨trivial, fun e => by subst e; simp at hr⟩, Int.sub_mul]; omega
  · rw [List.pairwise_iff_getElem]
    intro i j hi hj hij
    obtain ⟨p, h1, h2, _⟩ := i4 i ps[i] (List.getElem?_eq_getElem hi)
    obtain ⟨q, k1, k2, _⟩ := i4 j ps[j] (List.getElem?_eq_getElem hj)
    obtain ⟨h3, e1⟩ := List.getElem?_eq_some_iff.1 h1
    obtain ⟨k3, e2⟩ := List.getElem?_eq_some_iff.1 k1
    have := List.pairwise_iff_getElem.1 hsort i j h3 k3 hij
    rw [h2, k2, ← e1, ← e2]; exact this
  · obtain ⟨p, h1, h2, h3, h4, h5, h6, h7⟩ := i4 i q hq
    obtain ⟨m1, m2, m3⟩ := hmem p (List.mem_of_getElem? h1)
    rw [List.getElem?_map] at m2
    cases hl' : ls[p.core.toNat]? with
    | none => rw [hl'] at m2; simp at m2
    | some l =>
      rw [hl'] at m2
      simp only [Option.map_some, Option.some.injEq] at m2
      have hb' := (mostV_bound l w T w).2 (by omega)
      rw [m2] at hb'
      refine ⟨by simpa using h3, h4, h5, by omega, fun hi => h7 (by omega), by omega, l, by rw [h2]; exact hl', fitW_less hb'.2.2 h5 h6⟩

theorem windowV_spec (hl : 0 ≤ lag) (hm : 0 ≤ move) (hC : 1 ≤ C) {ls : List (List Ld)} : ∀ (fuel n : Nat), windowV lag move C D T ls fuel n ≠ [] → ∃ w, WinOk lag move C D T ls (windowV lag move C D T ls fuel n) w := by
  intro fuel
  induction fuel with
  | zero => intro n h; exact absurd rfl h
  | succ fuel ih =>
    intro n h
    simp only [windowV] at h ⊢
    split at h
    · exact absurd rfl h
    · rename_i hs
      rw [if_neg hs]
      split at h
      · rename_i hr; rw [if_pos hr]; exact ⟨_, win_step hl hm hC hs hr⟩
      · rename_i hr; rw [if_neg hr]; exact ih _ h

theorem chain_of {lag move : Int} : ∀ {ps : List Pc}, (∀ (i : Nat) a b, ps[i]? = some a → ps[i + 1]? = some b → a.off + a.len + lag ≤ b.off ∧ move < b.c) → chain lag move ps := by
  intro ps
  induction ps with
  | nil => exact fun _ => trivial
  | cons a ps ih =>
    intro h
    cases ps with
    | nil => trivial
    | cons b ps => exact ⟨h 0 a b rfl rfl, ih fun i x y h1 h2 => h (i + 1) x y (by simpa using h1) (by simpa using h2)⟩
theorem lastEnd_eq : ∀ {ps : List Pc} {q : Pc}, ps[ps.length - 1]? = some q → lastEnd ps = q.off + q.len := by
  intro ps
  induction ps with
  | nil => intro q h; simp at h
  | cons a ps ih =>
    intro q h
    cases ps with
    | nil => simp only [List.length_cons, List.length_nil, Nat.zero_add, Nat.sub_self, List.getElem?_cons_zero, Option.some.injEq] at h; subst h; rfl
    | cons b ps => exact ih (by simpa using h)

theorem WinOk.plan {ls : List (List Ld)} {ps : List Pc} {w : Int} (h : WinOk lag move C D T ls ps w) (hL : Lim cores lag move C D T) (hls : (ls.length : Int) = cores) : PlanOk cores lag move C D 0 2 ps := by
  have hne : ps ≠ [] := fun e => by have := h.two; subst e; simp at this
  have htwo := h.two
  have hlast : ∀ i : Nat, i < ps.length → (i : Int) * (w + lag) + w ≤ D := fun i hi => by
    have h1 : (i : Int) * (w + lag) ≤ (ps.length - 1 : Int) * (w + lag) := Int.mul_le_mul_of_nonneg_right (by omega) (by have := h.w1; have := hL.l1; omega)
    have h2 := h.time
    have h3 : (ps.length - 1 : Int) * (w + lag) = (ps.length : Int) * w - w + (ps.length - 1 : Int) * lag := by rw [Int.mul_add, Int.sub_mul, Int.one_mul]
    omega
  refine ⟨fun p hp => ?_, h.asc.imp fun hab => by omega, hne, ?_, ?_, h.sum, ?_, .inr (.inl ⟨rfl, h.two, rfl⟩)⟩
  · obtain ⟨i, hi⟩ := List.getElem?_of_mem hp
    obtain ⟨e1, e2, e3, e4, e5, e6, l, e7, e8⟩ := h.each i p hi
    have hlt := hlast i (getElem?_lt hi)
    have hco := getElem?_lt e7
    have h1 : 0 ≤ (i : Int) * (w + lag) := Int.mul_nonneg (by omega) (by have := h.w1; have := hL.l1; omega)
    have := hL.CD; have := hL.DT; have := hL.T2; have := h.w1
    rw [Pc.ok_iff]
    omega
  · cases ps with
    | nil => exact absurd rfl hne
    | cons p ps => have := (h.each 0 p rfl).1; simpa [firstOff] using this
  · refine chain_of fun i a b ha hb => ?_
    have ea := h.each i a ha
    have eb := h.each (i + 1) b hb
    refine ⟨?_, eb.2.2.2.2.1 (by omega)⟩
    rw [ea.1, ea.2.1, eb.1]
    have : ((i + 1 : Nat) : Int) * (w + lag) = (i : Int) * (w + lag) + (w + lag) := by simp [Int.add_mul]
    omega
  · have hi : ps.length - 1 < ps.length := by omega
    have e := h.each (ps.length - 1) ps[ps.length - 1] (List.getElem?_eq_getElem hi)
    rw [lastEnd_eq (List.getElem?_eq_getElem hi), e.1, e.2.1]
    exact hlast _ hi

/-- The first one that is not nothing. -/
def firstFrom (f : Nat → List Pc) : Nat → Nat → List Pc
  | 0, _ => []
  | n + 1, i => if f i = [] then firstFrom f n (i + 1) else f i
theorem firstFrom_spec {f : Nat → List Pc} : ∀ (n i : Nat), firstFrom f n i ≠ [] → ∃ j, i ≤ j ∧ j < i + n ∧ firstFrom f n i = f j := by
  intro n
  induction n with
  | zero => intro i h; exact absurd rfl h
  | succ n ih =>
    intro i h
    simp only [firstFrom] at h ⊢
    split at h
    · rename_i e
      rw [if_pos e]
      obtain ⟨j, h1, h2, h3⟩ := ih (i + 1) h
      exact ⟨j, by omega, by omega, h3⟩
    · rename_i e
      rw [if_neg e]
      exact ⟨i, by omega, by omega, rfl⟩

/-- The first without slack on one core, the rest on another one. -/
noncomputable def pairV (lag move C D T : Int) (ls : List (List Ld)) (a b : Nat) : List Pc :=
  if a = b then [] else
  let x := tightV (ls[a]?.getD []) T (C - 1)
  if 1 ≤ x ∧ C - x + move ≤ D - x - lag ∧ fitW (ls[b]?.getD []) (C - x + move) (D - x - lag) T = true then [⟨a, 0, x, x⟩, ⟨b, x + lag, D - x - lag, C - x + move⟩] else []
noncomputable def zeroV (lag move C D T : Int) (ls : List (List Ld)) : List Pc :=
  firstFrom (fun a => firstFrom (fun b => pairV lag move C D T ls a b) ls.length 0) ls.length 0

structure ZeroOk (lag move C D T : Int) (ls : List (List Ld)) (ps : List Pc) : Prop where
  it : ∃ (a b : Nat) (x : Int), a ≠ b ∧ a < ls.length ∧ b < ls.length ∧ 1 ≤ x ∧ x ≤ C - 1 ∧ C - x + move ≤ D - x - lag ∧ fitW (ls[a]?.getD []) x x T = true ∧ fitW (ls[b]?.getD []) (C - x + move) (D - x - lag) T = true ∧
    ps = [⟨a, 0, x, x⟩, ⟨b, x + lag, D - x - lag, C - x + move⟩]
theorem zeroV_spec {ls : List (List Ld)} (h : zeroV lag move C D T ls ≠ []) : ZeroOk lag move C D T ls (zeroV lag move C D T ls) := by
  unfold zeroV at *
  obtain ⟨a, _, ha, ea⟩ := firstFrom_spec _ _ h
  rw [ea] at h
  obtain ⟨b, _, hb, eb⟩ := firstFrom_spec _ _ h
  rw [ea, eb]
  rw [eb] at h
  unfold pairV at *
  split at h
  · exact absurd rfl h
  · rename_i hab
    rw [if_neg hab]
    simp only at h ⊢
    split at h
    · rename_i hc
      rw [if_pos hc]
      have ht := (tightV_bound (ls[a]?.getD []) T (C - 1)).2 (by omega)
      exact ⟨⟨a, b, _, hab, by omega, by omega, hc.1, ht.1, hc.2.1, ht.2.2, hc.2.2, rfl⟩⟩
    · exact absurd rfl h
theorem ZeroOk.plan {ls : List (List Ld)} {ps : List Pc} (h : ZeroOk lag move C D T ls ps) (hL : Lim cores lag move C D T) (hls : (ls.length : Int) = cores) : PlanOk cores lag move C D 0 3 ps := by
  obtain ⟨a, b, x, h1, h2, h3, h4, h5, h6, h7, h8, rfl⟩ := h.it
  obtain ⟨c1, c2, l1, l2, m1, m2, C1, CD, DT, T2⟩ := hL
  refine ⟨fun p hp => ?_, ?_, by simp, rfl, ⟨⟨?_, ?_⟩, trivial⟩, ?_, ?_, .inr (.inr ⟨rfl, rfl, _, _, rfl, rfl⟩)⟩
  · rw [Pc.ok_iff]
    simp only [List.mem_cons, List.not_mem_nil, or_false] at hp
    rcases hp with rfl | rfl <;> simp only <;> omega
  · simp; omega
  · simp
  · simp only; omega
  · simp [sumC]; omega
  · simp [lastEnd]; omega
theorem whole_plan (hL : Lim cores lag move C D T) {k : Int} {nsec : Nat} (h1 : 0 ≤ k) (h2 : k < cores) : PlanOk cores lag move C D nsec 1 [⟨k, 0, D, C⟩] := by
  obtain ⟨c1, c2, l1, l2, m1, m2, C1, CD, DT, T2⟩ := hL
  refine ⟨fun p hp => ?_, by simp, by simp, rfl, trivial, by simp [sumC], by simp [lastEnd], .inl ⟨rfl, _, rfl, rfl⟩⟩
  simp only [List.mem_singleton] at hp
  subst hp
  rw [Pc.ok_iff]
  simp only
  omega

/-- Cores whose loads are the same, in another order. -/
def permAll : List (List Ld) → List (List Ld) → Prop
  | [], [] => True
  | a :: as, b :: bs => a.Perm b ∧ permAll as bs
  | _, _ => False
theorem most_perm {as : List (List Ld)} : ∀ {bs : List (List Ld)}, permAll as bs → ∀ (w T : Int), (as.map fun l => mostV l w T w) = bs.map fun l => mostV l w T w := by
  induction as with
  | nil => intro bs h; cases bs with
    | nil => exact fun _ _ => rfl
    | cons b bs => exact h.elim
  | cons a as ih => intro bs h w T; cases bs with
    | nil => exact h.elim
    | cons b bs => simp only [List.map_cons]; rw [mostV_perm h.1, ih h.2]
theorem windowV_perm {as bs : List (List Ld)} (h : permAll as bs) : ∀ (fuel n : Nat), windowV lag move C D T as fuel n = windowV lag move C D T bs fuel n := by
  intro fuel
  induction fuel with
  | zero => intro n; rfl
  | succ fuel ih => intro n; simp only [windowV]; rw [most_perm h, ih]

end Go.Proofs.YtkjghcbnmipgfaaGreatDoor.Ma
