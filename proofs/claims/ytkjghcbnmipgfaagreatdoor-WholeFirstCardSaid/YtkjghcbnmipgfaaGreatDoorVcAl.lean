/- A drawn region with allocations of own variables does what it does in the order of its text. No condition. -/
import Derived.Test.YtkjghcbnmipgfaaGreatDoorVcAny
namespace Go.Proofs.YtkjghcbnmipgfaaGreatDoor.Vc
open Go.RowKit
variable {P : Program}

def zeroB : List DV → Bool
  | [] => true
  | .p _ :: ds | .ow _ _ _ :: ds | .top :: ds => zeroB ds
  | _ => false
theorem zeroB_ok {k : Nat} : ∀ {ds : List DV}, zeroB ds = true → ∀ d, d ∈ ds → d.ment k = false
  | [], _, d, hd => by simp at hd
  | .p x :: ds, h, d, hd => by
    rcases List.mem_cons.1 hd with hd | hd
    · subst hd; rfl
    · exact zeroB_ok (by simpa [zeroB] using h) d hd
  | .ow a b c :: ds, h, d, hd => by
    rcases List.mem_cons.1 hd with hd | hd
    · subst hd; rfl
    · exact zeroB_ok (by simpa [zeroB] using h) d hd
  | .top :: ds, h, d, hd => by
    rcases List.mem_cons.1 hd with hd | hd
    · subst hd; rfl
    · exact zeroB_ok (by simpa [zeroB] using h) d hd
  | .tup _ :: _, h, _, _ => by simp [zeroB] at h
  | .addr _ _ _ _ :: _, h, _, _ => by simp [zeroB] at h
  | .bs _ _ _ _ _ :: _, h, _, _ => by simp [zeroB] at h
  | .fn _ _ :: _, h, _, _ => by simp [zeroB] at h

/-- A plain allocation. -/
structure Al (i : Ins) (k size d : Nat) (zero : List DV) : Prop where
  k : i.k = .alloc k size zero
  g : i.g = none
  x : i.xs = []
  d : i.d = some d
  z : zeroB zero = true
def alB (i : Ins) : Option (Nat × Nat × Nat × List DV) :=
  match i with
  | ⟨some d, none, .alloc k size zero, []⟩ => if zeroB zero then some (k, size, d, zero) else none
  | _ => none
theorem alB_ok {i : Ins} {k size d : Nat} {zero : List DV} (h : alB i = some (k, size, d, zero)) : Al i k size d zero := by
  unfold alB at h
  split at h
  · split at h
    · rename_i hz
      simp at h
      obtain ⟨rfl, rfl, rfl, rfl⟩ := h
      exact ⟨rfl, rfl, rfl, rfl, hz⟩
    · cases h
  · cases h

def okI (i : Ins) : Bool := (alB i).isSome || tame i
def indepA (p i : Ins) : Bool :=
  match alB p, alB i with
  | none, none => indep p i
  | some (_, _, d, _), none => !(looks i).contains d && i.d != some d
  | none, some (_, _, d, _) => !(looks p).contains d && p.d != some d
  | some (k, _, d, _), some (k', _, d', _) => k != k' && d != d'

structure InvA (l : List Ins) (s : St) : Prop where
  ok : ∀ i, i ∈ l → okI i = true
  dis : (l.filterMap fun i => (alB i).map (·.1)).Nodup
  no : ∀ i, i ∈ l → ∀ k size d zero, alB i = some (k, size, d, zero) → NoK k s ∧ k < s.b.length

theorem tame_of {i : Ins} (h : okI i = true) (ha : alB i = none) : tame i = true := by simpa [okI, ha] using h
theorem tame_iff {i : Ins} (h : tame i = true) {s : St} {K : St → Prop} : execG P i s K ↔ ∃ s', StepK P i s s' ∧ K s' := by
  simp only [tame, Bool.and_eq_true, Option.isNone_iff_eq_none] at h
  rw [execG_iff h.2.1 h.2.2.1]
  exact ⟨fun ⟨s', a, b⟩ => ⟨s', stepI_iff.1 a, b⟩, fun ⟨s', a, b⟩ => ⟨s', stepI_iff.2 a, b⟩⟩
theorem al_iff {i : Ins} {k size d : Nat} {zero : List DV} (h : Al i k size d zero) {s : St} (hN : NoK k s) (hlt : k < s.b.length) {K : St → Prop} : execG P i s K ↔ (zero.length = size ∧ K (al k size d zero s)) :=
  execG_al h.k h.g h.x h.d hN hlt

/-- A step keeps what is asked for the others. -/
theorem InvA.step {x : Ins} {l1 l2 : List Ins} {s : St} {K : St → Prop} (hI : InvA (l1 ++ x :: l2) s) (h : execG P x s K) : execG P x s (fun s' => K s' ∧ InvA (l1 ++ l2) s') := by
  have hx : x ∈ l1 ++ x :: l2 := by simp
  have hsub : ∀ i, i ∈ l1 ++ l2 → i ∈ l1 ++ x :: l2 := by
    intro i hi
    rcases List.mem_append.1 hi with hi | hi
    · simp [hi]
    · simp [hi]
  have hdis : ((l1 ++ l2).filterMap fun i => (alB i).map (·.1)).Nodup := by
    refine hI.dis.sublist (List.Sublist.filterMap _ ?_)
    exact List.Sublist.append (List.Sublist.refl _) (List.sublist_cons_self _ _)
  cases ha : alB x with
  | none =>
    have ht := tame_of (hI.ok x hx) ha
    obtain ⟨s', h1, h2⟩ := (tame_iff ht).1 h
    refine (tame_iff ht).2 ⟨s', h1, h2, fun i hi => hI.ok i (hsub i hi), hdis, fun i hi k size d zero hk => ?_⟩
    obtain ⟨n1, n2⟩ := hI.no i (hsub i hi) k size d zero hk
    obtain ⟨m1, m2⟩ := n1.step ht h1
    exact ⟨m1, by rw [m2]; exact n2⟩
  | some q =>
    obtain ⟨k, size, d, zero⟩ := q
    have hA := alB_ok ha
    obtain ⟨n1, n2⟩ := hI.no x hx k size d zero ha
    rw [al_iff hA n1 n2] at h ⊢
    refine ⟨h.1, h.2, fun i hi => hI.ok i (hsub i hi), hdis, fun i hi k' size' d' zero' hk => ?_⟩
    obtain ⟨m1, m2⟩ := hI.no i (hsub i hi) k' size' d' zero' hk
    have hne : k ≠ k' := by
      intro e
      subst e
      have hd := hI.dis
      rw [List.filterMap_append, List.filterMap_cons, ha] at hd
      simp only [Option.map_some] at hd
      rw [List.nodup_append] at hd
      rcases List.mem_append.1 hi with hi | hi
      · exact hd.2.2 k (List.mem_filterMap.2 ⟨i, hi, by rw [hk]; rfl⟩) k (by simp) rfl
      · exact (List.nodup_cons.1 hd.2.1).1 (List.mem_filterMap.2 ⟨i, hi, by rw [hk]; rfl⟩)
    exact ⟨m1.al hne (zeroB_ok hA.z), by simp [al, setL_length]; exact m2⟩

theorem swapA {p i : Ins} (h : indepA p i = true) {l1 l2 l3 : List Ins} {s : St} {K : St → Prop} (hI : InvA (l1 ++ p :: (l2 ++ i :: l3)) s) (hx : execG P p s (fun s => execG P i s K)) : execG P i s (fun s => execG P p s K) := by
  have mp : p ∈ l1 ++ p :: (l2 ++ i :: l3) := by simp
  have mi : i ∈ l1 ++ p :: (l2 ++ i :: l3) := by simp
  unfold indepA at h
  cases hp : alB p with
  | none =>
    have tp := tame_of (hI.ok p mp) hp
    cases hi : alB i with
    | none => rw [hp, hi] at h; exact swap h hx
    | some q =>
      obtain ⟨k, size, d, zero⟩ := q
      rw [hp, hi] at h
      simp only [Bool.and_eq_true, Bool.not_eq_true', bne_iff_ne, ne_eq] at h
      have hA := alB_ok hi
      obtain ⟨n1, n2⟩ := hI.no i mi k size d zero hi
      obtain ⟨s1, h1, h2⟩ := (tame_iff tp).1 hx
      obtain ⟨m1, m2⟩ := n1.step tp h1
      rw [al_iff hA m1 (by rw [m2]; exact n2)] at h2
      rw [al_iff hA n1 n2]
      exact ⟨h2.1, (tame_iff tp).2 ⟨_, al_right tp (by simpa using h.1) h.2 n1 h1, h2.2⟩⟩
  | some q =>
    obtain ⟨k, size, d, zero⟩ := q
    have hA := alB_ok hp
    obtain ⟨n1, n2⟩ := hI.no p mp k size d zero hp
    rw [al_iff hA n1 n2] at hx
    cases hi : alB i with
    | none =>
      have ti := tame_of (hI.ok i mi) hi
      rw [hp, hi] at h
      simp only [Bool.and_eq_true, Bool.not_eq_true', bne_iff_ne, ne_eq] at h
      obtain ⟨s2, h1, h2⟩ := (tame_iff ti).1 hx.2
      obtain ⟨s', h3, h4⟩ := al_left ti (by simpa using h.1) h.2 n1 h1
      subst h4
      obtain ⟨m1, m2⟩ := n1.step ti h3
      refine (tame_iff ti).2 ⟨s', h3, ?_⟩
      rw [al_iff hA m1 (by rw [m2]; exact n2)]
      exact ⟨hx.1, h2⟩
    | some q' =>
      obtain ⟨k', size', d', zero'⟩ := q'
      have hA' := alB_ok hi
      rw [hp, hi] at h
      simp only [Bool.and_eq_true, bne_iff_ne, ne_eq] at h
      obtain ⟨n1', n2'⟩ := hI.no i mi k' size' d' zero' hi
      have hx2 := hx.2
      rw [al_iff hA' (n1'.al h.1 (zeroB_ok hA.z)) (by simp [al, setL_length]; exact n2')] at hx2
      rw [al_iff hA' n1' n2']
      refine ⟨hx2.1, ?_⟩
      rw [al_iff hA (n1.al (fun e => h.1 e.symm) (zeroB_ok hA'.z)) (by simp [al, setL_length]; exact n2)]
      refine ⟨hx.1, ?_⟩
      rw [al_al h.1 h.2]; exact hx2.2

theorem swapFrontA {i : Ins} {K : St → Prop} {post : List Ins} : ∀ {pre : List Ins}, (∀ j, j ∈ pre → indepA j i = true) → ∀ {s : St}, InvA (pre ++ i :: post) s → execs P (pre ++ i :: post) s K → execG P i s (fun s => execs P (pre ++ post) s K)
  | [], _, _, _, h => h
  | p :: pre, hp, s, hI, h => by
    have h0 : execG P p s (fun s' => execs P (pre ++ i :: post) s' K ∧ InvA (pre ++ i :: post) s') := InvA.step (l1 := []) hI h
    have h1 : execG P p s (fun s' => execG P i s' (fun s'' => execs P (pre ++ post) s'' K)) :=
      execG_mono (fun s' hs' => swapFrontA (fun j hj => hp j (List.mem_cons_of_mem _ hj)) hs'.2 hs'.1) h0
    exact swapA (l1 := []) (hp p List.mem_cons_self) hI h1

theorem execs_drawA {G : Gl} {id : Nat} {ops : Array Oper} {is : List Ins} {Q : Exit → Act → World → Prop} {K : St → Prop} (hm : P.follows .mixedOrders = true) (hl : ops.size = is.length)
    (htr : ∀ (k : Nat) i, is[k]? = some i → ∃ o, ops[k]? = some o ∧ TrI P ops o i) (hp : pairsW indepA ops is = true) (hQ : ∀ s X a, Rel G X s a → K s → Q .normal a X.w) {s : St} {X : Cx} {a : Act} (h : Rel G X s a) (hI : InvA is s) (hK : execs P is s K) :
    (Code.region id ops true).wp P Q a X.w :=
  execs_drawW (ind := indepA) (Inv := InvA) (fun _ _ _ _ hind hI hK => hI.step (swapFrontA hind hI hK)) hm hl htr hp hQ h hI hK

/-- What is asked of the state ahead of such a region, by evaluation. -/
def invB (is : List Ins) (s : St) : Bool :=
  is.all fun i => match alB i with
    | some (k, _, _, _) => decide (k < s.b.length) && (noRefT k s.t && noRefB k 0 s.b)
    | none => true
def stB (is : List Ins) : Bool := is.all okI && decide (is.filterMap fun i => (alB i).map (·.1)).Nodup
theorem invA_of {is : List Ins} {s : St} (h1 : stB is = true) (h2 : invB is s = true) : InvA is s := by
  simp only [stB, Bool.and_eq_true, decide_eq_true_eq, List.all_eq_true] at h1
  refine ⟨h1.1, h1.2, fun i hi k size d zero hk => ?_⟩
  have := List.all_eq_true.1 h2 i hi
  rw [hk] at this
  simp only [Bool.and_eq_true, decide_eq_true_eq] at this
  obtain ⟨t1, t2, t3⟩ := this
  refine ⟨⟨noRefT_iff.1 t2, fun j bx hj hne r hr x hx => ?_⟩, t1⟩
  exact noRefR_iff.1 (noRefB_iff.1 t3 j bx hj (by simpa using hne)) r hr x hx

end Go.Proofs.YtkjghcbnmipgfaaGreatDoor.Vc
