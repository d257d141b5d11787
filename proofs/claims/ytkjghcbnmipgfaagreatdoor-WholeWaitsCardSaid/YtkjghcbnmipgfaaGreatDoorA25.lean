/- Part of a proof over a Go program: Ex2. No condition. -/
import Derived.Test.YtkjghcbnmipgfaaGreatDoorA24
import Derived.Test.YtkjghcbnmipgfaaGreatDoorA10
set_option linter.unusedSectionVars false
set_option linter.unusedSimpArgs false
set_option linter.unusedVariables false
set_option maxRecDepth 100000
namespace Go.Proofs.YtkjghcbnmipgfaaGreatDoor.Vc
open Go.RowKit Ma
def timeC (l : List Ld) : Nat → Int → Option (Int × Bool)
  | 0, _ => none
  | n + 1, t => if 20000 < t then some (0, false) else intF (asked l t) fun a => if a = t then some (t, true) else timeC l n a
theorem timeC_ok {l : List Ld} : ∀ {n : Nat} {t : Int} {r : Int × Bool}, Seek l t → timeC l n t = some r → timeV l = r := by
  intro n
  induction n with
  | zero => intro t r _ h; cases h
  | succ n ih =>
    intro t r hs h
    simp only [timeC, intF_eq] at h
    split at h
    · rename_i ht
      injection h with h; subst h
      exact hs.never (by omega)
    · rename_i ht
      split at h
      · rename_i he
        injection h with h; subst h
        exact hs.found (by omega) he
      · rename_i he
        exact ih (hs.next (by omega) he).1 h
def dueC (l : List Ld) : Nat → Bool
  | 0 => true
  | n + 1 => decide (dueL l ((n : Int) + 1) ≤ (n : Int) + 1) && dueC l n
theorem dueC_iff {l : List Ld} {n : Nat} : dueC l n = true ↔ ∀ t : Int, 1 ≤ t → t ≤ n → dueL l t ≤ t := by
  induction n with
  | zero => simp only [dueC, true_iff]; intro t h1 h2; omega
  | succ n ih =>
    simp only [dueC, Bool.and_eq_true, decide_eq_true_eq, ih]
    constructor
    · rintro ⟨h1, h2⟩ t h3 h4
      by_cases e : t = (n : Int) + 1
      · subst e; exact h1
      · exact h2 t h3 (by omega)
    · intro h
      exact ⟨h _ (by omega) (by omega), fun t h1 h2 => h t h1 (by omega)⟩
def fitsC (l : List Ld) (n : Nat) : Option Bool :=
  if mayL l = false then some false else if l.isEmpty then some true else match timeC l n 1 with
  | some (e, true) => some (dueC l e.toNat)
  | some (_, false) => some false
  | none => none
theorem fitsC_ok {l : List Ld} {n : Nat} {b : Bool} (h : fitsC l n = some b) : fitsB l = b := by
  unfold fitsC at h
  split at h
  · rename_i hm
    injection h with h; subst h
    rw [fitsB_false]; intro hf; rw [hf.1] at hm; cases hm
  · rename_i hm
    have hm : mayL l = true := by simpa using hm
    split at h
    · rename_i he
      injection h with h; subst h
      exact fitsB_iff.2 ⟨hm, .inl (List.isEmpty_iff.1 he)⟩
    · rename_i he
      have hn : l ≠ [] := fun e => he (by rw [e]; rfl)
      split at h
      · rename_i e heq
        injection h with h; subst h
        have ht := timeC_ok (Seek.start hm hn) heq
        have hb := (timeV_ok (by rw [ht])).2
        rcases hb with ⟨h0, _⟩ | ⟨_, hb⟩
        · exact absurd h0 hn
        · rw [ht] at hb
          have he1 := hb.lo
          rw [Bool.eq_iff_iff, fitsB_iff, dueC_iff]
          constructor
          · rintro ⟨_, h0 | ⟨e2, hb2, hd⟩⟩
            · exact absurd h0 hn
            · have := hb2.uniq hb
              subst this
              intro t h1 h2
              exact hd t h1 (by simp only at h2 he1; omega)
          · intro hd
            exact ⟨hm, .inr ⟨e, hb, fun t h1 h2 => hd t h1 (by simp only at he1; omega)⟩⟩
      · rename_i e heq
        injection h with h; subst h
        have ht := timeC_ok (Seek.start hm hn) heq
        rw [fitsB_false]
        rintro ⟨_, h0 | ⟨e2, hb2, _⟩⟩
        · exact hn h0
        · rw [timeV_busy hm hn hb2] at ht
          cases ht
      · cases h
def mostDownC (l : List Ld) (d t : Int) (f : Nat) : Nat → Option Int
  | 0 => some 0
  | n + 1 => match fitsC (l ++ [⟨(n + 1 : Int), d, t⟩]) f with
    | some true => some (n + 1 : Int)
    | some false => mostDownC l d t f n
    | none => none
theorem mostDownC_ok {l : List Ld} {d t : Int} {f : Nat} : ∀ {n : Nat} {r : Int}, mostDownC l d t f n = some r → mostDown l d t n = r := by
  intro n
  induction n with
  | zero => intro r h; injection h
  | succ n ih =>
    intro r h
    simp only [mostDownC] at h
    simp only [mostDown]
    split at h
    · rename_i heq
      have hw : fitW l (n + 1 : Int) d t = true := fitsC_ok heq
      rw [if_pos hw]; injection h
    · rename_i heq
      have hw : fitW l (n + 1 : Int) d t = false := fitsC_ok heq
      rw [if_neg (by rw [hw]; decide)]; exact ih h
    · cases h
def mayC (l : List Ld) (d t : Int) (f : Nat) : Option Bool := match fitsC l f with
  | some b => some (decide (l.length ≤ 23) && (decide (1 ≤ d) && (decide (d ≤ t) && (decide (t ≤ 200) && b))))
  | none => none
def mostC (l : List Ld) (d t m : Int) (f : Nat) : Option Int := match mayC l d t f with
  | some true => mostDownC l d t f (min m d).toNat
  | some false => some 0
  | none => none
theorem mayC_ok {l : List Ld} {d t : Int} {f : Nat} {b : Bool} (h : mayC l d t f = some b) : mayM l d t = b := by
  unfold mayC at h
  split at h
  · rename_i heq
    injection h with h
    subst h
    rw [← fitsC_ok heq]
    unfold mayM
    simp only [Bool.and_assoc]
  · cases h
theorem mostC_ok {l : List Ld} {d t m : Int} {f : Nat} {r : Int} (h : mostC l d t m f = some r) : mostV l d t m = r := by
  unfold mostC at h
  unfold mostV
  split at h
  · rename_i heq
    rw [if_pos (mayC_ok heq)]; exact mostDownC_ok h
  · rename_i heq
    rw [if_neg (by rw [mayC_ok heq]; decide)]; injection h
  · cases h
def tightUpC (l : List Ld) (t : Int) (f : Nat) : Nat → Int → Option Int
  | 0, c => some c
  | n + 1, c => match fitsC (l ++ [⟨c + 1, c + 1, t⟩]) f with
    | some true => intF (c + 1) fun c => tightUpC l t f n c
    | some false => some c
    | none => none
theorem tightUpC_ok {l : List Ld} {t : Int} {f : Nat} : ∀ {n : Nat} {c r : Int}, tightUpC l t f n c = some r → tightUp l t n c = r := by
  intro n
  induction n with
  | zero => intro c r h; injection h
  | succ n ih =>
    intro c r h
    simp only [tightUpC, intF_eq] at h
    simp only [tightUp]
    split at h
    · rename_i heq
      have hw : fitW l (c + 1) (c + 1) t = true := fitsC_ok heq
      rw [if_pos hw]; exact ih h
    · rename_i heq
      have hw : fitW l (c + 1) (c + 1) t = false := fitsC_ok heq
      rw [if_neg (by rw [hw]; decide)]; injection h
    · cases h
def tightC (l : List Ld) (t m : Int) (f : Nat) : Option Int := match mayC l t t f with
  | some true => tightUpC l t f (min m t).toNat 0
  | some false => some 0
  | none => none
theorem tightC_ok {l : List Ld} {t m : Int} {f : Nat} {r : Int} (h : tightC l t m f = some r) : tightV l t m = r := by
  unfold tightC at h
  unfold tightV
  split at h
  · rename_i heq
    rw [if_pos (mayC_ok heq)]; exact tightUpC_ok h
  · rename_i heq
    rw [if_neg (by rw [mayC_ok heq]; decide)]; injection h
  · cases h
def ldsOf : List PV → Option (List Ld)
  | [] => some []
  | .agg [.int .i64 c, .int .i64 d, .int .i64 t] :: l => match ldsOf l with
    | some xs => some (⟨c, d, t⟩ :: xs)
    | none => none
  | _ => none
theorem ldsOf_map {l : List PV} : ∀ {xs : List Ld}, ldsOf l = some xs → l = xs.map eL := by
  induction l with
  | nil => intro xs h; cases h; rfl
  | cons a l ih =>
    intro xs h
    unfold ldsOf at h
    split at h
    · rename_i heq; cases heq
    · rename_i heq
      injection heq with e1 e2
      subst e1; subst e2
      split at h
      · rename_i hx; injection h with h; subst h; rw [ih hx]; rfl
      · cases h
    · cases h
/-- What these give, too. -/
def extF (f : FuncId) (args : List PV) : Option DV :=
  match args with
  | [.sl size nl rows] => if Nat.beq f 47 && Nat.beq size 3 then match ldsOf rows with
    | some l => match fitsC l 300 with
      | some b => some (.p (.bool b))
      | none => none
    | none => none
    else extE f args
  | [.sl size nl rows, .int .i64 d, .int .i64 t, .int .i64 m] => if Nat.beq f 72 && (Nat.beq size 3 && ((!nl || rows.isEmpty) && (Nat.ble rows.length 1000 && decide (-1000000 ≤ m)))) then match ldsOf rows with
    | some l => match mostC l d t m 300 with
      | some b => some (.p (.int .i64 b))
      | none => none
    | none => none
    else extE f args
  | [.sl size nl rows, .int .i64 t, .int .i64 m] => if Nat.beq f 79 && (Nat.beq size 3 && ((!nl || rows.isEmpty) && Nat.ble rows.length 1000)) then match ldsOf rows with
    | some l => match tightC l t m 300 with
      | some b => some (.p (.int .i64 b))
      | none => none
    | none => none
    else extE f args
  | _ => extE f args
theorem extF_ok (f : FuncId) (args : List PV) (d : DV) (h : extF f args = some d) : PureCall Tryz.prog f args d := by
  unfold extF at h
  split at h
  · split at h
    · rename_i e
      simp only [Bool.and_eq_true] at e
      have e1 := Nat.eq_of_beq_eq_true e.1
      have e2 := Nat.eq_of_beq_eq_true e.2
      subst e1; subst e2
      split at h
      · rename_i hx
        split at h
        · rename_i hb
          injection h with h; subst h
          rw [ldsOf_map hx, ← fitsC_ok hb]
          exact fits47 _ _
        · cases h
      · cases h
    · exact extE_ok _ _ _ h
  · split at h
    · rename_i e
      simp only [Bool.and_eq_true, Bool.or_eq_true, Bool.not_eq_true', decide_eq_true_eq, Nat.ble_eq] at e
      obtain ⟨e1, e2, e3, e4, e5⟩ := e
      have e1 := Nat.eq_of_beq_eq_true e1
      have e2 := Nat.eq_of_beq_eq_true e2
      subst e1; subst e2
      split at h
      · rename_i l hx
        split at h
        · rename_i hb
          injection h with h; subst h
          have hr := ldsOf_map hx
          subst hr
          rw [← mostC_ok hb]
          refine fit72 _ l (fun hn => ?_) (by simpa using e4) _ _ _ e5
          rcases e3 with e3 | e3
          · rw [hn] at e3; cases e3
          · simpa using e3
        · cases h
      · cases h
    · exact extE_ok _ _ _ h
  · split at h
    · rename_i e
      simp only [Bool.and_eq_true, Bool.or_eq_true, Bool.not_eq_true', Nat.ble_eq] at e
      obtain ⟨e1, e2, e3, e4⟩ := e
      have e1 := Nat.eq_of_beq_eq_true e1
      have e2 := Nat.eq_of_beq_eq_true e2
      subst e1; subst e2
      split at h
      · rename_i l hx
        split at h
        · rename_i hb
          injection h with h; subst h
          have hr := ldsOf_map hx
          subst hr
          rw [← tightC_ok hb]
          refine tight79 _ l (fun hn => ?_) (by simpa using e4) _ _
          rcases e3 with e3 | e3
          · rw [hn] at e3; cases e3
          · simpa using e3
        · cases h
      · cases h
    · exact extE_ok _ _ _ h
  · exact extE_ok _ _ _ h
end Go.Proofs.YtkjghcbnmipgfaaGreatDoor.Vc
