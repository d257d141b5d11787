/- Plain laws on the busy time and the first time at which too much is dueL, as the loops find them. No program in sight, no condition. -/
import Derived.Test.YtkjghcbnmipgfaaGreatDoorMaLoad
namespace Go.Proofs.YtkjghcbnmipgfaaGreatDoor.Ma

open Classical in
/-- The busy time. -/
noncomputable def timeV (l : List Ld) : Int × Bool :=
  if mayL l = false then (0, false) else if l = [] then (0, true) else if h : ∃ e, Busy l e then (h.choose, true) else (0, false)
theorem timeV_bad {l : List Ld} (h : mayL l = false) : timeV l = (0, false) := by unfold timeV; rw [if_pos h]
theorem timeV_nil : timeV [] = (0, true) := by
  have : mayL [] = true := by decide
  unfold timeV; rw [if_neg (by rw [this]; decide), if_pos rfl]
theorem timeV_busy {l : List Ld} (h : mayL l = true) (hn : l ≠ []) {e : Int} (hb : Busy l e) : timeV l = (e, true) := by
  have hx : ∃ e, Busy l e := ⟨e, hb⟩
  unfold timeV
  rw [if_neg (by rw [h]; decide), if_neg hn, dif_pos hx, hx.choose_spec.uniq hb]
theorem timeV_none {l : List Ld} (h : mayL l = true) (hn : l ≠ []) (hb : ¬ ∃ e, Busy l e) : timeV l = (0, false) := by
  unfold timeV
  rw [if_neg (by rw [h]; decide), if_neg hn, dif_neg hb]
theorem timeV_ok {l : List Ld} (h : (timeV l).2 = true) : mayL l = true ∧ ((l = [] ∧ (timeV l).1 = 0) ∨ (l ≠ [] ∧ Busy l (timeV l).1)) := by
  cases hm : mayL l with
  | false => rw [timeV_bad hm] at h; cases h
  | true =>
    refine ⟨rfl, ?_⟩
    by_cases hn : l = []
    · subst hn; exact .inl ⟨rfl, by rw [timeV_nil]⟩
    · by_cases hb : ∃ e, Busy l e
      · obtain ⟨e, he⟩ := hb
        rw [timeV_busy hm hn he]
        exact .inr ⟨hn, he⟩
      · rw [timeV_none hm hn hb] at h; cases h
theorem timeV_range (l : List Ld) : 0 ≤ (timeV l).1 ∧ (timeV l).1 ≤ 20000 := by
  cases h : (timeV l).2 with
  | true =>
    rcases (timeV_ok h).2 with ⟨_, e⟩ | ⟨_, hb⟩
    · omega
    · have := hb.lo; have := hb.hi; omega
  | false =>
    unfold timeV at *
    split at h <;> rename_i h1
    · rw [if_pos h1]; simp
    · rw [if_neg h1]
      split at h <;> rename_i h2
      · cases h
      · rw [if_neg h2]
        split at h <;> rename_i h3
        · cases h
        · rw [dif_neg h3]; simp

/-- What the search for the busy time knows of the time at which it stands. -/
structure Seek (l : List Ld) (t : Int) : Prop where
  may : mayL l = true
  one : l ≠ []
  lo : 1 ≤ t
  up : t ≤ 20000 → t ≤ asked l t
  low : ∀ e, Busy l e → t ≤ e
theorem Seek.start {l : List Ld} (h : mayL l = true) (hn : l ≠ []) : Seek l 1 := ⟨h, hn, Int.le_refl _, fun _ => asked_pos h hn (Int.le_refl _) (by omega), fun _ he => he.lo⟩
theorem Seek.found {l : List Ld} {t : Int} (h : Seek l t) (ht : t ≤ 20000) (he : asked l t = t) : timeV l = (t, true) := by
  refine timeV_busy h.may h.one ⟨h.lo, ht, he, fun s h1 h2 hs => ?_⟩
  obtain ⟨e, he, hle⟩ := busy_of_le h.may h.one h1 (by omega) (by omega)
  have := h.low e he
  omega
theorem Seek.next {l : List Ld} {t : Int} (h : Seek l t) (ht : t ≤ 20000) (hne : asked l t ≠ t) : Seek l (asked l t) ∧ t < asked l t := by
  have h1 := h.up ht
  have h2 := h.lo
  exact ⟨⟨h.may, h.one, by omega, fun _ => asked_mono h.may h1, fun e he => by have := asked_mono h.may (h.low e he); have := he.eq; omega⟩, by omega⟩
theorem Seek.never {l : List Ld} {t : Int} (h : Seek l t) (ht : ¬ t ≤ 20000) : timeV l = (0, false) :=
  timeV_none h.may h.one fun ⟨e, he⟩ => by have := h.low e he; have := he.hi; omega

/-- The first time at which too much is dueL. -/
structure OverAt (l : List Ld) (e t : Int) : Prop where
  lo : 1 ≤ t
  hi : t ≤ e
  over : t < dueL l t
  first : ∀ s, 1 ≤ s → s < t → dueL l s ≤ s
theorem OverAt.uniq {l : List Ld} {e t t' : Int} (h : OverAt l e t) (h' : OverAt l e t') : t = t' := by
  rcases Int.lt_trichotomy t t' with hlt | heq | hgt
  · have := h'.first t h.lo hlt; have := h.over; omega
  · exact heq
  · have := h.first t' h'.lo hgt; have := h'.over; omega
open Classical in
noncomputable def firstV (l : List Ld) (e : Int) : Int := if h : ∃ t, OverAt l e t then h.choose else 0
theorem firstV_at {l : List Ld} {e t : Int} (h : OverAt l e t) : firstV l e = t := by
  have hx : ∃ t, OverAt l e t := ⟨t, h⟩
  unfold firstV; rw [dif_pos hx]; exact hx.choose_spec.uniq h
theorem firstV_none {l : List Ld} {e : Int} (h : ∀ t, 1 ≤ t → t ≤ e → dueL l t ≤ t) : firstV l e = 0 := by
  unfold firstV; rw [dif_neg fun ⟨t, ht⟩ => by have := h t ht.lo ht.hi; have := ht.over; omega]
theorem firstV_cases (l : List Ld) (e : Int) : OverAt l e (firstV l e) ∨ (firstV l e = 0 ∧ ∀ t, 1 ≤ t → t ≤ e → dueL l t ≤ t) := by
  by_cases hx : ∃ t, OverAt l e t
  · obtain ⟨t, ht⟩ := hx; rw [firstV_at ht]; exact .inl ht
  · refine .inr ⟨by unfold firstV; rw [dif_neg hx], fun t h1 h2 => ?_⟩
    obtain ⟨n, rfl⟩ := Int.eq_ofNat_of_zero_le (show 0 ≤ t by omega)
    induction n using Nat.strongRecOn with
    | ind n ih =>
      refine Int.not_lt.1 fun hlt => hx ⟨n, h1, h2, hlt, fun s s1 s2 => ?_⟩
      obtain ⟨m, rfl⟩ := Int.eq_ofNat_of_zero_le (show 0 ≤ s by omega)
      exact ih m (by omega) s1 (by omega)

theorem fitsB_eq (l : List Ld) : fitsB l = ((timeV l).2 && decide (firstV l (timeV l).1 = 0)) := by
  rw [Bool.eq_iff_iff, fitsB_iff, Bool.and_eq_true, decide_eq_true_eq]
  constructor
  · rintro ⟨h1, rfl | ⟨e, he, hd⟩⟩
    · rw [timeV_nil]; exact ⟨rfl, firstV_none fun t h1 h2 => by simp only at h2; omega⟩
    · have hn : l ≠ [] := fun e0 => by
        subst e0
        have h2 := he.eq; have := he.lo
        simp only [asked, sumL] at h2; omega
      rw [timeV_busy h1 hn he]
      exact ⟨rfl, firstV_none hd⟩
  · rintro ⟨h1, h2⟩
    obtain ⟨h3, h4⟩ := timeV_ok h1
    refine ⟨h3, ?_⟩
    rcases h4 with ⟨rfl, _⟩ | ⟨_, hb⟩
    · exact .inl rfl
    · refine .inr ⟨_, hb, ?_⟩
      rcases firstV_cases l (timeV l).1 with h | h
      · have := h.lo; omega
      · exact h.2
theorem firstV_zero {l : List Ld} {e : Int} : firstV l e = 0 ↔ ∀ t, 1 ≤ t → t ≤ e → dueL l t ≤ t := by
  constructor
  · intro h
    rcases firstV_cases l e with h1 | h1
    · have := h1.lo; omega
    · exact h1.2
  · exact firstV_none

/-- What the search over deadlines knows: 'first' is too late by one or too much is dueL then; ahead of it, at the deadlines that were seen, not. -/
structure Look (l : List Ld) (e first : Int) (seen : Ld → Int → Prop) : Prop where
  may : mayL l = true
  fst : first = e + 1 ∨ (1 ≤ first ∧ first ≤ e ∧ first < dueL l first)
  ok : ∀ x, x ∈ l → ∀ k : Int, 0 ≤ k → seen x k → x.d + k * x.t < first → dueL l (x.d + k * x.t) ≤ x.d + k * x.t
theorem Look.end {l : List Ld} {e first : Int} {seen : Ld → Int → Prop} (h : Look l e first seen) (hs : ∀ x, x ∈ l → ∀ k, 0 ≤ k → x.d + k * x.t < first → seen x k) : firstV l e = if first > e then 0 else first := by
  have hd : ∀ t, 0 ≤ t → t < first → dueL l t ≤ t := due_le_of h.may fun x hx k hk hlt => h.ok x hx k hk (hs x hx k hk hlt) hlt
  rcases h.fst with h1 | ⟨h1, h2, h3⟩
  · rw [if_pos (by omega)]
    exact firstV_none fun t t1 t2 => hd t (by omega) (by omega)
  · rw [if_neg (by omega)]
    exact firstV_at ⟨h1, h2, h3, fun s s1 s2 => hd s (by omega) s2⟩

end Go.Proofs.YtkjghcbnmipgfaaGreatDoor.Ma
