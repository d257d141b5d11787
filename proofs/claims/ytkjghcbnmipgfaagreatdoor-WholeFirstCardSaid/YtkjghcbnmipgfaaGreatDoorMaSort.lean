/- Plain laws on the sort by insertion, and on the best n of some. No program in sight, no condition. -/
namespace Go.Proofs.YtkjghcbnmipgfaaGreatDoor.Ma

def insRev {α : Type} (lt : α → α → Bool) (e : α) : List α → List α
  | [] => [e]
  | b :: bs => if lt e b then b :: insRev lt e bs else e :: b :: bs
def isRev {α : Type} (lt : α → α → Bool) (l : List α) : List α := l.foldl (fun acc e => insRev lt e acc) []
/-- The sort by insertion. -/
def isort {α : Type} (lt : α → α → Bool) (l : List α) : List α := (isRev lt l).reverse

theorem insRev_perm {α : Type} (lt : α → α → Bool) (e : α) (l : List α) : (insRev lt e l).Perm (e :: l) := by
  induction l with
  | nil => exact .refl _
  | cons b bs ih =>
    simp only [insRev]
    split
    · exact (ih.cons b).trans (.swap e b bs)
    · exact .refl _
theorem isRev_append {α : Type} (lt : α → α → Bool) (l : List α) (e : α) : isRev lt (l ++ [e]) = insRev lt e (isRev lt l) := by
  simp [isRev, List.foldl_append]
theorem isRev_perm {α : Type} (lt : α → α → Bool) (l : List α) : (isRev lt l).Perm l := by
  suffices ∀ (l acc : List α), (l.foldl (fun acc e => insRev lt e acc) acc).Perm (acc ++ l) by simpa [isRev] using this l []
  intro l
  induction l with
  | nil => intro acc; simp
  | cons e es ih =>
    intro acc
    simp only [List.foldl_cons]
    refine (ih _).trans ?_
    refine ((insRev_perm lt e acc).append_right es).trans ?_
    exact List.perm_middle.symm
theorem isort_perm {α : Type} (lt : α → α → Bool) (l : List α) : (isort lt l).Perm l := (List.reverse_perm _).trans (isRev_perm lt l)
theorem isort_length {α : Type} (lt : α → α → Bool) (l : List α) : (isort lt l).length = l.length := (isort_perm lt l).length_eq

/-- Inserted, it stands in order. -/
theorem insRev_sorted {α : Type} {lt : α → α → Bool} {r : α → α → Prop} (e : α) (htr : ∀ a b c, r a b → r b c → r a c) :
    ∀ (l : List α), (∀ b, b ∈ l → (lt e b = true → r e b) ∧ (lt e b = false → r b e)) → l.Pairwise (fun a b => r b a) → (insRev lt e l).Pairwise fun a b => r b a := by
  intro l
  induction l with
  | nil => intro _ _; simp [insRev]
  | cons b bs ih =>
    intro he hp
    rw [List.pairwise_cons] at hp
    simp only [insRev]
    split
    · rename_i h
      rw [List.pairwise_cons]
      refine ⟨fun x hx => ?_, ih (fun y hy => he y (List.mem_cons_of_mem _ hy)) hp.2⟩
      rcases List.mem_cons.1 ((insRev_perm lt e bs).mem_iff.1 hx) with rfl | hx
      · exact (he b (List.mem_cons_self ..)).1 h
      · exact hp.1 x hx
    · rename_i h
      have hb := (he b (List.mem_cons_self ..)).2 (by simpa using h)
      rw [List.pairwise_cons]
      refine ⟨fun x hx => ?_, List.pairwise_cons.2 hp⟩
      rcases List.mem_cons.1 hx with rfl | hx
      · exact hb
      · exact htr _ _ _ (hp.1 x hx) hb
theorem isort_sorted {α : Type} {lt : α → α → Bool} {r : α → α → Prop} (htr : ∀ a b c, r a b → r b c → r a c) (l : List α)
    (h : l.Pairwise fun a b => (lt b a = true → r b a) ∧ (lt b a = false → r a b)) : (isort lt l).Pairwise r := by
  unfold isort
  rw [List.pairwise_reverse]
  suffices ∀ (l acc : List α), acc.Pairwise (fun a b => r b a) → (∀ a, a ∈ acc → ∀ b, b ∈ l → (lt b a = true → r b a) ∧ (lt b a = false → r a b)) →
      l.Pairwise (fun a b => (lt b a = true → r b a) ∧ (lt b a = false → r a b)) → (l.foldl (fun acc e => insRev lt e acc) acc).Pairwise fun a b => r b a from this l [] List.Pairwise.nil (fun a h => by cases h) h
  intro l
  induction l with
  | nil => intro acc h _ _; exact h
  | cons e es ih =>
    intro acc hacc h1 h2
    rw [List.pairwise_cons] at h2
    simp only [List.foldl_cons]
    refine ih _ (insRev_sorted e htr acc (fun b hb => h1 b hb e (List.mem_cons_self ..)) hacc) (fun a ha b hb => ?_) h2.2
    rcases List.mem_cons.1 ((insRev_perm lt e acc).mem_iff.1 ha) with rfl | ha
    · exact h2.1 b hb
    · exact h1 a ha b (List.mem_cons_of_mem _ hb)

/-- In an order that is strict the same things stand in one order alone. -/
theorem sorted_uniq {α : Type} {r : α → α → Prop} (hirr : ∀ a, ¬ r a a) (hasym : ∀ a b, r a b → ¬ r b a) : ∀ (l m : List α), l.Perm m → l.Pairwise r → m.Pairwise r → l = m := by
  intro l
  induction l with
  | nil => intro m h _ _; exact h.nil_eq
  | cons a l ih =>
    intro m h hl hm
    cases m with
    | nil => exact absurd h.length_eq (by simp)
    | cons b m =>
      rw [List.pairwise_cons] at hl hm
      have hab : a = b := by
        rcases List.mem_cons.1 (h.mem_iff.1 (List.mem_cons_self (a := a) (l := l))) with e | ha
        · exact e
        · rcases List.mem_cons.1 (h.mem_iff.2 (List.mem_cons_self (a := b) (l := m))) with e | hb
          · exact e.symm
          · exact absurd (hl.1 b hb) (hasym _ _ (hm.1 a ha))
      subst hab
      rw [ih m (h.cons_inv) hl.2 hm.2]

/-- A core with what fits there. -/
structure Place where
  core : Int
  x : Int
deriving DecidableEq
/-- More fits, or as much on an earlier core. -/
def Place.ahead (a b : Place) : Prop := b.x < a.x ∨ (a.x = b.x ∧ a.core < b.core)
theorem ahead_trans (a b c : Place) (h1 : a.ahead b) (h2 : b.ahead c) : a.ahead c := by unfold Place.ahead at *; omega
theorem ahead_irr (a : Place) : ¬ a.ahead a := by unfold Place.ahead; omega
theorem ahead_asym (a b : Place) (h : a.ahead b) : ¬ b.ahead a := by unfold Place.ahead at *; omega
theorem ahead_total (a b : Place) (h : a.core ≠ b.core) : a.ahead b ∨ b.ahead a := by unfold Place.ahead; omega

def ltX (a b : Place) : Bool := decide (b.x < a.x)
def ltC (a b : Place) : Bool := decide (a.core < b.core)

theorem sortX (l : List Place) (h : l.Pairwise fun a b => a.core < b.core) : (isort ltX l).Pairwise Place.ahead := by
  refine isort_sorted ahead_trans l (h.imp fun {a b} hab => ⟨fun h => ?_, fun h => ?_⟩)
  · simp only [ltX, decide_eq_true_eq] at h; exact .inl h
  · simp only [ltX, decide_eq_false_iff_not] at h; unfold Place.ahead; omega
theorem sortC (l : List Place) (h : l.Pairwise fun a b => a.core ≠ b.core) : (isort ltC l).Pairwise fun a b => a.core < b.core := by
  refine isort_sorted (fun a b c h1 h2 => by omega) l (h.imp fun {a b} hab => ⟨fun h => ?_, fun h => ?_⟩)
  · simpa [ltC] using h
  · simp only [ltC, decide_eq_false_iff_not] at h; omega

/-- The n on which most fits, by rising cores; none: there are too few. -/
def bestV (l : List Place) (n : Nat) : List Place := if l.length < n then [] else isort ltC ((isort ltX l).take n)

theorem bestV_mem {l : List Place} {n : Nat} {p : Place} (h : p ∈ bestV l n) : p ∈ l := by
  unfold bestV at h
  split at h
  · cases h
  · exact (isort_perm _ _).mem_iff.1 (List.mem_of_mem_take ((isort_perm _ _).mem_iff.1 h))
theorem pw_ne {l : List Place} (h : l.Pairwise fun a b => a.core < b.core) : l.Pairwise fun a b => a.core ≠ b.core := h.imp fun hab => by omega
theorem take_ne {l : List Place} (h : l.Pairwise fun a b => a.core < b.core) (n : Nat) : ((isort ltX l).take n).Pairwise fun a b => a.core ≠ b.core := by
  have h1 : (isort ltX l).Pairwise fun a b => a.core ≠ b.core := ((isort_perm ltX l).pairwise_iff (fun {a b} h => Ne.symm h)).2 (pw_ne h)
  exact h1.sublist (List.take_sublist _ _)
theorem bestV_sorted {l : List Place} {n : Nat} (h : l.Pairwise fun a b => a.core < b.core) : (bestV l n).Pairwise fun a b => a.core < b.core := by
  unfold bestV
  split
  · exact List.Pairwise.nil
  · exact sortC _ (take_ne h n)
theorem bestV_length {l : List Place} {n : Nat} : (bestV l n).length = if l.length < n then 0 else n := by
  unfold bestV
  split
  · rfl
  · rw [isort_length, List.length_take, isort_length]; omega

end Go.Proofs.YtkjghcbnmipgfaaGreatDoor.Ma
