/- Plain laws on windows: which cores, which pieces. No program in sight, no condition. -/
import Derived.Test.YtkjghcbnmipgfaaGreatDoorMaMost
import Derived.Test.YtkjghcbnmipgfaaGreatDoorMaSort
namespace Go.Proofs.YtkjghcbnmipgfaaGreatDoor.Ma

def placesFrom (move : Int) : Int → List Int → List Place
  | _, [] => []
  | k, x :: xs => if move < x then ⟨k, x⟩ :: placesFrom move (k + 1) xs else placesFrom move (k + 1) xs
def places (move : Int) (xs : List Int) : List Place := placesFrom move 0 xs

theorem placesFrom_mem {move : Int} {xs : List Int} : ∀ {k : Int} {p : Place}, p ∈ placesFrom move k xs ↔ k ≤ p.core ∧ xs[(p.core - k).toNat]? = some p.x ∧ move < p.x := by
  induction xs with
  | nil => intro k p; simp [placesFrom]
  | cons x xs ih =>
    intro k p
    have key : (k + 1 ≤ p.core ∧ xs[(p.core - (k + 1)).toNat]? = some p.x ∧ move < p.x) ↔ (k ≤ p.core ∧ p.core ≠ k ∧ (x :: xs)[(p.core - k).toNat]? = some p.x ∧ move < p.x) := by
      by_cases hk : k + 1 ≤ p.core
      · have e : (p.core - k).toNat = (p.core - (k + 1)).toNat + 1 := by omega
        rw [e, List.getElem?_cons_succ]
        constructor
        · exact fun ⟨_, h2, h3⟩ => ⟨by omega, by omega, h2, h3⟩
        · exact fun ⟨_, _, h2, h3⟩ => ⟨hk, h2, h3⟩
      · constructor
        · exact fun h => absurd h.1 hk
        · exact fun h => absurd h.2.1 (by omega)
    have hd : p.core = k → ((x :: xs)[(p.core - k).toNat]? = some p.x ↔ p = ⟨k, x⟩) := by
      intro e
      have e0 : (p.core - k).toNat = 0 := by omega
      rw [e0, List.getElem?_cons_zero]
      cases p
      simp only [Option.some.injEq, Place.mk.injEq] at *
      constructor
      · exact fun h => ⟨e, h.symm⟩
      · exact fun h => h.2.symm
    simp only [placesFrom]
    split
    · rename_i hx
      rw [List.mem_cons, ih, key]
      constructor
      · rintro (rfl | h)
        · exact ⟨Int.le_refl _, by simp, hx⟩
        · exact ⟨h.1, h.2.2.1, h.2.2.2⟩
      · rintro ⟨h1, h2, h3⟩
        by_cases e : p.core = k
        · exact .inl ((hd e).1 h2)
        · exact .inr ⟨h1, e, h2, h3⟩
    · rename_i hx
      rw [ih, key]
      constructor
      · exact fun h => ⟨h.1, h.2.2.1, h.2.2.2⟩
      · rintro ⟨h1, h2, h3⟩
        refine ⟨h1, fun e => ?_, h2, h3⟩
        have := (hd e).1 h2
        subst this
        exact hx h3
theorem placesFrom_sorted {move : Int} {xs : List Int} : ∀ {k : Int}, (placesFrom move k xs).Pairwise fun a b => a.core < b.core := by
  induction xs with
  | nil => exact List.Pairwise.nil
  | cons x xs ih =>
    intro k
    simp only [placesFrom]
    split
    · refine List.pairwise_cons.2 ⟨fun p hp => ?_, ih⟩
      have := (placesFrom_mem.1 hp).1
      simp only; omega
    · exact ih
theorem places_mem {move : Int} {xs : List Int} {p : Place} : p ∈ places move xs ↔ 0 ≤ p.core ∧ xs[p.core.toNat]? = some p.x ∧ move < p.x := by
  unfold places
  rw [placesFrom_mem]
  simp
theorem places_sorted {move : Int} {xs : List Int} : (places move xs).Pairwise fun a b => a.core < b.core := placesFrom_sorted
theorem placesFrom_append {move : Int} (xs : List Int) (x : Int) : ∀ k : Int, placesFrom move k (xs ++ [x]) = placesFrom move k xs ++ if move < x then [⟨k + xs.length, x⟩] else [] := by
  induction xs with
  | nil => intro k; simp only [List.nil_append, placesFrom]; split <;> simp
  | cons y ys ih =>
    intro k
    simp only [List.cons_append, placesFrom, ih]
    have e : k + 1 + (ys.length : Int) = k + ((y :: ys).length : Int) := by simp; omega
    rw [e]
    split <;> simp
theorem placesFrom_length {move : Int} (xs : List Int) : ∀ k : Int, (placesFrom move k xs).length ≤ xs.length := by
  induction xs with
  | nil => intro k; simp [placesFrom]
  | cons y ys ih => intro k; simp only [placesFrom]; have := ih (k + 1); split <;> simp <;> omega

/-- Strictly ascending lists of the same members are one. -/
theorem asc_uniq : ∀ (l m : List Int), l.Pairwise (· < ·) → m.Pairwise (· < ·) → (∀ x, x ∈ l ↔ x ∈ m) → l = m := by
  intro l
  induction l with
  | nil =>
    intro m _ _ h
    cases m with
    | nil => rfl
    | cons b m => exact absurd ((h b).2 (List.mem_cons_self ..)) (by simp)
  | cons a l ih =>
    intro m hl hm h
    cases m with
    | nil => exact absurd ((h a).1 (List.mem_cons_self ..)) (by simp)
    | cons b m =>
      rw [List.pairwise_cons] at hl hm
      have hab : a = b := by
        rcases List.mem_cons.1 ((h a).1 (List.mem_cons_self ..)) with e | ha
        · exact e
        · rcases List.mem_cons.1 ((h b).2 (List.mem_cons_self ..)) with e | hb
          · exact e.symm
          · have := hl.1 b hb; have := hm.1 a ha; omega
      subst hab
      rw [ih m hl.2 hm.2 fun x => ?_]
      constructor
      · intro hx
        rcases List.mem_cons.1 ((h x).1 (List.mem_cons_of_mem _ hx)) with e | h'
        · have := hl.1 x hx; omega
        · exact h'
      · intro hx
        rcases List.mem_cons.1 ((h x).2 (List.mem_cons_of_mem _ hx)) with e | h'
        · have := hm.1 x hx; omega
        · exact h'

section greedy
variable {l : List Place}
theorem nodup_of {L : List Place} (h : L.Pairwise Place.ahead) : L.Nodup := h.imp fun {a b} hab e => by subst e; exact ahead_irr _ hab
/-- The ones that were taken are all there are. -/
theorem greedy_none {L : List Place} (h : L.Pairwise Place.ahead) {i : Nat} (ha : ∀ p, p ∈ L → p ∈ L.take i) : L.length ≤ i := by
  refine Nat.le_of_not_lt fun hlt => ?_
  have h1 := ha L[i] (List.getElem_mem _)
  obtain ⟨j, hj, e⟩ := List.mem_iff_getElem.1 h1
  rw [List.getElem_take] at e
  have hj' : j < i := by simp at hj; omega
  have := List.pairwise_iff_getElem.1 h j i (by omega) hlt hj'
  rw [e] at this
  exact ahead_irr _ this
/-- The next one. -/
theorem greedy_some {L : List Place} (h : L.Pairwise Place.ahead) {i : Nat} {p : Place} (hp : p ∈ L) (hn : p ∉ L.take i) (ha : ∀ q, q ∈ L → q ∉ L.take i → q ≠ p → p.ahead q) : L[i]? = some p := by
  obtain ⟨j, hj, e⟩ := List.mem_iff_getElem.1 hp
  have hij : i ≤ j := by
    refine Nat.le_of_not_lt fun hlt => hn ?_
    rw [← e]
    exact List.mem_iff_getElem.2 ⟨j, by simp; omega, by simp⟩
  have hi : i < L.length := by omega
  by_cases hji : j = i
  · subst hji; rw [List.getElem?_eq_getElem hj, e]
  · have h1 := List.pairwise_iff_getElem.1 h i j hi hj (by omega)
    rw [e] at h1
    have h2 : L[i] ∉ L.take i := by
      intro hm
      obtain ⟨k, hk, ek⟩ := List.mem_iff_getElem.1 hm
      rw [List.getElem_take] at ek
      have := List.pairwise_iff_getElem.1 h k i (by simp at hk; omega) hi (by simp at hk; omega)
      rw [ek] at this
      exact ahead_irr _ this
    have h3 := ha L[i] (List.getElem_mem _) h2 (fun e' => by rw [e'] at h1; exact ahead_irr _ h1)
    exact absurd h1 (ahead_asym _ _ h3)
end greedy

/-- A piece. -/
structure Pc where
  core : Int
  off : Int
  len : Int
  c : Int
deriving DecidableEq

/-- The pieces on some cores, and what is left. -/
def piecesV (lag w move : Int) : Int → Int → List Place → List Pc × Int
  | left, _, [] => ([], left)
  | left, k, p :: ps => if left = 0 then ([], left) else
      let mv := if k = 0 then 0 else move
      let use := min (p.x - mv) left
      let r := piecesV lag w move (left - use) (k + 1) ps
      (⟨p.core, k * (w + lag), w, mv + use⟩ :: r.1, r.2)

/-- A split in windows. -/
noncomputable def windowV (lag move C D T : Int) (ls : List (List Ld)) : Nat → Nat → List Pc
  | 0, _ => []
  | fuel + 1, n => let w := sizeV D lag n
    if w = 0 then [] else
      let r := piecesV lag w move C 0 (bestV (places move (ls.map fun l => mostV l w T w)) n)
      if r.2 = 0 ∧ 1 < r.1.length then r.1 else windowV lag move C D T ls fuel (n + 1)

end Go.Proofs.YtkjghcbnmipgfaaGreatDoor.Ma
