/- Plain laws on the most that fits, on windows' cores, on splits. No program in sight, no condition. -/
import Derived.Test.YtkjghcbnmipgfaaGreatDoorMaLoad
namespace Go.Proofs.YtkjghcbnmipgfaaGreatDoor.Ma

/-- With one more. -/
noncomputable def fitW (l : List Ld) (c d t : Int) : Bool := fitsB (l ++ [⟨c, d, t⟩])
theorem fitW_less {l : List Ld} {c c' d t : Int} (h : fitW l c d t = true) (h1 : 1 ≤ c') (h2 : c' ≤ c) : fitW l c' d t = true := by
  unfold fitW at *
  rw [fitsB_iff] at *
  exact h.less h1 h2
theorem fitW_ok {l : List Ld} {c d t : Int} (h : fitW l c d t = true) : (1 ≤ c ∧ c ≤ 20000) ∧ (1 ≤ d ∧ d ≤ t) ∧ t ≤ 200 := by
  unfold fitW at h
  rw [fitsB_iff] at h
  have := (mayL_iff.1 h.1).2 ⟨c, d, t⟩ (by simp)
  rwa [Ld.ok_iff] at this
noncomputable def mayM (l : List Ld) (d t : Int) : Bool := decide (l.length ≤ 23) && (decide (1 ≤ d) && (decide (d ≤ t) && (decide (t ≤ 200) && fitsB l)))

noncomputable def mostDown (l : List Ld) (d t : Int) : Nat → Int
  | 0 => 0
  | n + 1 => if fitW l (n + 1 : Int) d t then (n + 1 : Int) else mostDown l d t n
theorem mostDown_spec (l : List Ld) (d t : Int) (n : Nat) : 0 ≤ mostDown l d t n ∧ mostDown l d t n ≤ n ∧ (mostDown l d t n ≠ 0 → fitW l (mostDown l d t n) d t = true) ∧ ∀ c, mostDown l d t n < c → c ≤ n → fitW l c d t = false := by
  induction n with
  | zero => simp only [mostDown]; exact ⟨by omega, by omega, fun h => absurd rfl h, fun c h1 h2 => by omega⟩
  | succ n ih =>
    simp only [mostDown]
    split
    · rename_i h
      exact ⟨by omega, by omega, fun _ => h, fun c h1 h2 => by omega⟩
    · rename_i h
      refine ⟨ih.1, by omega, ih.2.2.1, fun c h1 h2 => ?_⟩
      by_cases hc : c = (n + 1 : Int)
      · subst hc; simpa using h
      · exact ih.2.2.2 c h1 (by omega)
noncomputable def mostV (l : List Ld) (d t m : Int) : Int := if mayM l d t then mostDown l d t (min m d).toNat else 0

theorem mostDown_eq {l : List Ld} {d t v : Int} {n : Nat} (h0 : 0 ≤ v) (h1 : v ≤ n) (h2 : v ≠ 0 → fitW l v d t = true) (h3 : ∀ c, v < c → c ≤ n → fitW l c d t = false) : mostDown l d t n = v := by
  obtain ⟨k0, k1, k2, k3⟩ := mostDown_spec l d t n
  rcases Int.lt_trichotomy (mostDown l d t n) v with h | h | h
  · have := k3 v h h1
    rw [h2 (by omega)] at this
    cases this
  · exact h
  · have := h3 _ h k1
    rw [k2 (by omega)] at this
    cases this

noncomputable def tightUp (l : List Ld) (t : Int) : Nat → Int → Int
  | 0, c => c
  | n + 1, c => if fitW l (c + 1) (c + 1) t then tightUp l t n (c + 1) else c
noncomputable def tightV (l : List Ld) (t m : Int) : Int := if mayM l t t then tightUp l t (min m t).toNat 0 else 0
theorem tightUp_bound (l : List Ld) (t : Int) (n : Nat) (c : Int) : c ≤ tightUp l t n c ∧ tightUp l t n c ≤ c + n := by
  induction n generalizing c with
  | zero => simp [tightUp]
  | succ n ih =>
    simp only [tightUp]
    split
    · have := ih (c + 1); omega
    · omega
theorem tightUp_fit (l : List Ld) (t : Int) (n : Nat) (c : Int) (h : c < tightUp l t n c) : fitW l (tightUp l t n c) (tightUp l t n c) t = true := by
  induction n generalizing c with
  | zero => simp [tightUp] at h
  | succ n ih =>
    simp only [tightUp] at h ⊢
    split at h
    · rename_i hf
      rw [if_pos hf]
      by_cases hlt : c + 1 < tightUp l t n (c + 1)
      · exact ih _ hlt
      · have := (tightUp_bound l t n (c + 1)).1
        have e : tightUp l t n (c + 1) = c + 1 := by omega
        rw [e]; exact hf
    · omega

theorem mostV_bound (l : List Ld) (d t m : Int) : 0 ≤ mostV l d t m ∧ (mostV l d t m ≠ 0 → mostV l d t m ≤ m ∧ mostV l d t m ≤ d ∧ fitW l (mostV l d t m) d t = true) := by
  unfold mostV
  split
  · obtain ⟨k0, k1, k2, k3⟩ := mostDown_spec l d t (min m d).toNat
    refine ⟨k0, fun h => ⟨by omega, by omega, k2 h⟩⟩
  · exact ⟨by omega, fun h => absurd rfl h⟩
theorem tightV_bound (l : List Ld) (t m : Int) : 0 ≤ tightV l t m ∧ (tightV l t m ≠ 0 → tightV l t m ≤ m ∧ tightV l t m ≤ t ∧ fitW l (tightV l t m) (tightV l t m) t = true) := by
  unfold tightV
  split
  · have h := tightUp_bound l t (min m t).toNat 0
    refine ⟨by omega, fun h0 => ⟨by omega, by omega, tightUp_fit l t _ 0 (by omega)⟩⟩
  · exact ⟨by omega, fun h => absurd rfl h⟩

theorem fitW_perm {a b : List Ld} (h : a.Perm b) (c d t : Int) : fitW a c d t = fitW b c d t := fitsB_perm (h.append_right _)
theorem mayM_perm {a b : List Ld} (h : a.Perm b) (d t : Int) : mayM a d t = mayM b d t := by
  unfold mayM; rw [h.length_eq, fitsB_perm h]
theorem mostDown_perm {a b : List Ld} (h : a.Perm b) (d t : Int) (n : Nat) : mostDown a d t n = mostDown b d t n := by
  induction n with
  | zero => rfl
  | succ n ih => simp only [mostDown]; rw [fitW_perm h, ih]
theorem mostV_perm {a b : List Ld} (h : a.Perm b) (d t m : Int) : mostV a d t m = mostV b d t m := by
  unfold mostV; rw [mayM_perm h, mostDown_perm h]

/-- The first core that takes it, or -1. -/
noncomputable def coreFrom (x : Ld) : List (List Ld) → Int → Int
  | [], _ => -1
  | l :: ls, k => if fitsB (l ++ [x]) then k else coreFrom x ls (k + 1)
noncomputable def coreV (ls : List (List Ld)) (x : Ld) : Int := coreFrom x ls 0
theorem coreFrom_none {x : Ld} {ls : List (List Ld)} : ∀ {k : Int}, 0 ≤ k → (coreFrom x ls k < 0 ↔ ∀ l, l ∈ ls → fitsB (l ++ [x]) = false) := by
  induction ls with
  | nil => intro k _; simp [coreFrom]
  | cons l ls ih =>
    intro k hk
    simp only [coreFrom]
    split
    · rename_i h
      constructor
      · omega
      · intro h'
        have := h' l (List.mem_cons_self ..)
        rw [h] at this; cases this
    · rename_i h
      rw [ih (by omega)]
      have h : fitsB (l ++ [x]) = false := by simpa using h
      constructor
      · intro h' y hy
        rcases List.mem_cons.1 hy with rfl | hy
        · exact h
        · exact h' y hy
      · exact fun h' y hy => h' y (List.mem_cons_of_mem _ hy)
theorem coreFrom_some {x : Ld} {ls : List (List Ld)} : ∀ {k : Int}, 0 ≤ k → ¬ coreFrom x ls k < 0 → ∃ i : Nat, ∃ h : i < ls.length, coreFrom x ls k = k + i ∧ fitsB (ls[i] ++ [x]) = true ∧ ∀ (j : Nat) (hj : j < i), fitsB (ls[j]'(by omega) ++ [x]) = false := by
  induction ls with
  | nil => intro k _ h; simp [coreFrom] at h
  | cons l ls ih =>
    intro k hk h
    simp only [coreFrom] at h ⊢
    split at h
    · rename_i hf
      rw [if_pos hf]
      exact ⟨0, by simp, by simp, hf, fun j hj => absurd hj (Nat.not_lt_zero j)⟩
    · rename_i hf
      rw [if_neg hf]
      obtain ⟨i, hi, e, h1, h2⟩ := ih (by omega) h
      refine ⟨i + 1, by simp [hi], by omega, by simpa using h1, fun j hj => ?_⟩
      cases j with
      | zero => simpa using hf
      | succ j => simpa using h2 j (by omega)
theorem coreV_some {x : Ld} {ls : List (List Ld)} (h : ¬ coreV ls x < 0) : ∃ i : Nat, ∃ h : i < ls.length, coreV ls x = i ∧ fitsB (ls[i] ++ [x]) = true ∧ ∀ (j : Nat) (hj : j < i), fitsB (ls[j]'(by omega) ++ [x]) = false := by
  obtain ⟨i, hi, e, h1, h2⟩ := coreFrom_some (Int.le_refl 0) h
  exact ⟨i, hi, by unfold coreV; omega, h1, h2⟩
theorem coreV_none {x : Ld} {ls : List (List Ld)} : coreV ls x < 0 ↔ ∀ l, l ∈ ls → fitsB (l ++ [x]) = false := coreFrom_none (Int.le_refl 0)
theorem coreV_ge (x : Ld) (ls : List (List Ld)) : -1 ≤ coreV ls x ∧ coreV ls x < ls.length := by
  by_cases h : coreV ls x < 0
  · suffices ∀ (ls : List (List Ld)) (k : Int), 0 ≤ k → -1 ≤ coreFrom x ls k by
      have := this ls 0 (by omega); unfold coreV at *; omega
    intro ls
    induction ls with
    | nil => intro k _; simp [coreFrom]
    | cons l ls ih => intro k hk; simp only [coreFrom]; split <;> first | omega | exact ih _ (by omega)
  · obtain ⟨i, hi, e, _⟩ := coreV_some h; omega

/-- The windows' length. -/
def sizeV (D lag n : Int) : Int := if n < 1 ∨ D - (n - 1) * lag < n then 0 else (D - (n - 1) * lag) / n

end Go.Proofs.YtkjghcbnmipgfaaGreatDoor.Ma
