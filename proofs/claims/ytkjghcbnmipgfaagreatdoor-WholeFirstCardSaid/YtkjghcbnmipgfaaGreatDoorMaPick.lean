/- Plain laws: to take the greatest one n times gives the same as to sort and to cut. No program in sight, no condition. -/
import Derived.Test.YtkjghcbnmipgfaaGreatDoorMaWin
namespace Go.Proofs.YtkjghcbnmipgfaaGreatDoor.Ma

/-- The state of the inner loop: the best one so far among those not taken. -/
structure Inner (xs : List Int) (move : Int) (taken : List Bool) (j : Nat) (k : Int) : Prop where
  none : k < 0 → k = -1 ∧ ∀ m x, m < j → taken[m]? = some false → xs[m]? = some x → x ≤ move
  some : ¬ k < 0 → ∃ y, k < j ∧ taken[k.toNat]? = some false ∧ xs[k.toNat]? = some y ∧ move < y ∧ ∀ m x, m < j → (m : Int) ≠ k → taken[m]? = some false → xs[m]? = some x → move < x → x < y ∨ (x = y ∧ k < m)

theorem Inner.start (xs : List Int) (move : Int) (taken : List Bool) : Inner xs move taken 0 (-1) :=
  ⟨fun _ => ⟨rfl, fun m x h => absurd h (Nat.not_lt_zero m)⟩, fun h => absurd (by omega) h⟩
theorem Inner.skip {xs : List Int} {move : Int} {taken : List Bool} {j : Nat} {k : Int} (h : Inner xs move taken j k) {b : Bool} {x : Int} (hb : taken[j]? = Option.some b) (hx : xs[j]? = Option.some x)
    (hn : b = true ∨ x ≤ move ∨ (¬ k < 0 ∧ ∀ y, xs[k.toNat]? = Option.some y → x ≤ y)) : Inner xs move taken (j + 1) k := by
  refine ⟨fun hk => ⟨(h.none hk).1, fun m z hm hz hxm => ?_⟩, fun hk => ?_⟩
  · by_cases e : m = j
    · subst e
      rw [hb] at hz; rw [hx] at hxm
      injection hz with hz; injection hxm with hxm
      subst hz; subst hxm
      rcases hn with h1 | h1 | h1
      · cases h1
      · exact h1
      · exact absurd hk h1.1
    · exact (h.none hk).2 m z (by omega) hz hxm
  · obtain ⟨y, h1, h2, h3, h4, h5⟩ := h.some hk
    refine ⟨y, by omega, h2, h3, h4, fun m z hm hmk hz hxm hmv => ?_⟩
    by_cases e : m = j
    · subst e
      rw [hb] at hz; rw [hx] at hxm
      injection hz with hz; injection hxm with hxm
      subst hz; subst hxm
      rcases hn with h' | h' | h'
      · cases h'
      · omega
      · have := h'.2 y h3; omega
    · exact h5 m z (by omega) hmk hz hxm hmv
theorem Inner.take {xs : List Int} {move : Int} {taken : List Bool} {j : Nat} {k : Int} (h : Inner xs move taken j k) {x : Int} (hb : taken[j]? = Option.some false) (hx : xs[j]? = Option.some x) (hm : move < x)
    (hn : k < 0 ∨ ∃ y, xs[k.toNat]? = Option.some y ∧ y < x) : Inner xs move taken (j + 1) j := by
  refine ⟨fun hk => absurd hk (by omega), fun _ => ⟨x, by omega, by simpa using hb, by simpa using hx, hm, fun m z hmj hmk hz hxm hmv => ?_⟩⟩
  have hmj' : m < j := by omega
  rcases hn with hk | ⟨y, hy, hlt⟩
  · have := (h.none hk).2 m z hmj' hz hxm; omega
  · by_cases hk : k < 0
    · have := (h.none hk).2 m z hmj' hz hxm; omega
    · obtain ⟨y', h1, h2, h3, h4, h5⟩ := h.some hk
      rw [hy] at h3
      injection h3 with h3
      subst h3
      by_cases e : (m : Int) = k
      · have e' : k.toNat = m := by omega
        rw [e', hxm] at hy
        injection hy with hy
        omega
      · have := h5 m z hmj' e hz hxm hmv; omega

/-- The sorted ones. -/
def ordered (move : Int) (xs : List Int) : List Place := isort ltX (places move xs)
theorem ordered_sorted {move : Int} {xs : List Int} : (ordered move xs).Pairwise Place.ahead := sortX _ places_sorted
theorem ordered_mem {move : Int} {xs : List Int} {p : Place} : p ∈ ordered move xs ↔ 0 ≤ p.core ∧ xs[p.core.toNat]? = some p.x ∧ move < p.x := by
  unfold ordered; rw [(isort_perm _ _).mem_iff, places_mem]
theorem ordered_length {move : Int} {xs : List Int} : (ordered move xs).length = (places move xs).length := isort_length _ _

/-- The first i of them were taken. -/
structure Outer (xs : List Int) (move : Int) (i : Nat) (taken : List Bool) : Prop where
  len : taken.length = xs.length
  le : i ≤ (places move xs).length
  iff : ∀ m : Nat, taken[m]? = some true ↔ ∃ p, p ∈ (ordered move xs).take i ∧ p.core = m

theorem Outer.start (xs : List Int) (move : Int) : Outer xs move 0 (List.replicate xs.length false) := by
  refine ⟨by simp, Nat.zero_le _, fun m => ?_⟩
  simp [List.getElem?_replicate]
theorem Outer.false {xs : List Int} {move : Int} {i : Nat} {taken : List Bool} (h : Outer xs move i taken) {p : Place} (hp : p ∈ ordered move xs) (hn : p ∉ (ordered move xs).take i) : taken[p.core.toNat]? = some false := by
  have hm := ordered_mem.1 hp
  have hlt := (List.getElem?_eq_some_iff.1 hm.2.1).1
  rw [← h.len] at hlt
  rw [List.getElem?_eq_getElem hlt]
  cases hb : taken[p.core.toNat] with
  | false => rfl
  | true =>
    obtain ⟨q, hq, e⟩ := (h.iff p.core.toNat).1 (by rw [List.getElem?_eq_getElem hlt, hb])
    have hq' := ordered_mem.1 (List.mem_of_mem_take hq)
    have e1 : q.core = p.core := by omega
    have e2 : q.x = p.x := by have := hq'.2.1; rw [e1, hm.2.1] at this; injection this with h; exact h.symm
    have : q = p := by cases q; cases p; simp only [Place.mk.injEq] at *; exact ⟨e1, e2⟩
    subst this
    exact absurd hq hn
theorem Outer.stop {xs : List Int} {move : Int} {i : Nat} {taken : List Bool} (h : Outer xs move i taken) {k : Int} (hi : Inner xs move taken xs.length k) (hk : k < 0) : (places move xs).length = i := by
  have : (ordered move xs).length ≤ i := greedy_none ordered_sorted fun p hp => by
    refine Classical.byContradiction fun hn => ?_
    have hm := ordered_mem.1 hp
    have := (hi.none hk).2 p.core.toNat p.x (List.getElem?_eq_some_iff.1 hm.2.1).1 (h.false hp hn) hm.2.1
    omega
  rw [ordered_length] at this
  have := h.le
  omega
theorem Outer.next {xs : List Int} {move : Int} {i : Nat} {taken : List Bool} (h : Outer xs move i taken) {k : Int} (hi : Inner xs move taken xs.length k) (hk : ¬ k < 0) : Outer xs move (i + 1) (taken.set k.toNat true) := by
  obtain ⟨y, h1, h2, h3, h4, h5⟩ := hi.some hk
  have hp : (⟨k, y⟩ : Place) ∈ ordered move xs := ordered_mem.2 ⟨by simp only; omega, h3, h4⟩
  have hn : (⟨k, y⟩ : Place) ∉ (ordered move xs).take i := fun hm => by
    have := (h.iff k.toNat).2 ⟨_, hm, by simp only; omega⟩
    rw [h2] at this
    cases this
  have hL := greedy_some ordered_sorted hp hn fun q hq hnq hne => by
    have hm := ordered_mem.1 hq
    have hqk : q.core ≠ k := fun e => hne (by
      have := hm.2.1
      rw [e, h3] at this
      injection this with this
      cases q
      simp only [Place.mk.injEq] at *
      exact ⟨e, this.symm⟩)
    have := h5 q.core.toNat q.x (List.getElem?_eq_some_iff.1 hm.2.1).1 (by omega) (h.false hq hnq) hm.2.1 hm.2.2
    unfold Place.ahead
    simp only
    omega
  have hlt := (List.getElem?_eq_some_iff.1 hL).1
  rw [ordered_length] at hlt
  refine ⟨by rw [List.length_set]; exact h.len, hlt, fun m => ?_⟩
  have htk : (ordered move xs).take (i + 1) = (ordered move xs).take i ++ [⟨k, y⟩] := by rw [List.take_add_one, hL]; rfl
  rw [htk, List.getElem?_set]
  have hkl : k.toNat < taken.length := (List.getElem?_eq_some_iff.1 h2).1
  split
  · rename_i e
    subst e
    exact ⟨fun _ => ⟨⟨k, y⟩, by simp, by simp only; omega⟩, fun _ => rfl⟩
  · rename_i e
    rw [h.iff m]
    constructor
    · rintro ⟨p, hp, e'⟩; exact ⟨p, by simp [hp], e'⟩
    · rintro ⟨p, hp, e'⟩
      rcases List.mem_append.1 hp with hp | hp
      · exact ⟨p, hp, e'⟩
      · simp only [List.mem_singleton] at hp; subst hp; simp only at e'; omega

/-- Those that were taken, up to one. -/
def takenTo (taken : List Bool) : Nat → List Int
  | 0 => []
  | j + 1 => if taken[j]? = some true then takenTo taken j ++ [(j : Int)] else takenTo taken j
theorem takenTo_mem {taken : List Bool} {j : Nat} {x : Int} : x ∈ takenTo taken j ↔ 0 ≤ x ∧ x < j ∧ taken[x.toNat]? = some true := by
  induction j with
  | zero => simp [takenTo]; omega
  | succ j ih =>
    have key : ∀ {A : Prop}, (x = (j : Int) → A) → (x ≠ (j : Int) → A) → A := fun h1 h2 => (Classical.em (x = (j : Int))).elim h1 h2
    simp only [takenTo]
    split
    · rename_i h
      rw [List.mem_append, ih, List.mem_singleton]
      constructor
      · rintro (⟨h1, h2, h3⟩ | rfl)
        · exact ⟨h1, by omega, h3⟩
        · exact ⟨by omega, by omega, by simpa using h⟩
      · rintro ⟨h1, h2, h3⟩
        exact key (fun e => .inr e) fun e => .inl ⟨h1, by omega, h3⟩
    · rename_i h
      rw [ih]
      constructor
      · rintro ⟨h1, h2, h3⟩; exact ⟨h1, by omega, h3⟩
      · rintro ⟨h1, h2, h3⟩
        refine key (fun e => ?_) fun e => ⟨h1, by omega, h3⟩
        subst e
        exact absurd (by simpa using h3) h
theorem takenTo_sorted {taken : List Bool} {j : Nat} : (takenTo taken j).Pairwise (· < ·) := by
  induction j with
  | zero => exact List.Pairwise.nil
  | succ j ih =>
    simp only [takenTo]
    split
    · rw [List.pairwise_append]
      refine ⟨ih, by simp, fun a ha b hb => ?_⟩
      have := (takenTo_mem.1 ha).2.1
      simp only [List.mem_singleton] at hb
      omega
    · exact ih
theorem Outer.end {xs : List Int} {move : Int} {n : Nat} {taken : List Bool} (h : Outer xs move n taken) : takenTo taken xs.length = (bestV (places move xs) n).map (·.core) := by
  refine asc_uniq _ _ takenTo_sorted (List.pairwise_map.2 (bestV_sorted places_sorted)) fun x => ?_
  rw [takenTo_mem, List.mem_map]
  have hb : bestV (places move xs) n = isort ltC ((ordered move xs).take n) := by unfold bestV; rw [if_neg (by have := h.le; omega)]; rfl
  rw [hb]
  constructor
  · rintro ⟨h1, h2, h3⟩
    obtain ⟨p, hp, e⟩ := (h.iff x.toNat).1 h3
    exact ⟨p, (isort_perm _ _).mem_iff.2 hp, by omega⟩
  · rintro ⟨p, hp, rfl⟩
    have hp := (isort_perm _ _).mem_iff.1 hp
    have hm := ordered_mem.1 (List.mem_of_mem_take hp)
    have hlt := (List.getElem?_eq_some_iff.1 hm.2.1).1
    exact ⟨hm.1, by omega, (h.iff _).2 ⟨p, hp, by omega⟩⟩
theorem bestV_x {xs : List Int} {move : Int} {n : Nat} {p : Place} (h : p ∈ bestV (places move xs) n) : 0 ≤ p.core ∧ xs[p.core.toNat]? = some p.x ∧ move < p.x := places_mem.1 (bestV_mem h)

end Go.Proofs.YtkjghcbnmipgfaaGreatDoor.Ma
