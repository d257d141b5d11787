/- The instructions that touch no memory do what they say. No condition. -/
import Derived.Test.YtkjghcbnmipgfaaGreatDoorVcSem
namespace Go.Proofs.YtkjghcbnmipgfaaGreatDoor.Vc
open Go.RowKit
variable {P : Program}

def Post (G : Gl) (K : St → Prop) (a : Act) (w : World) : Prop := ∃ s X, Rel G X s a ∧ X.w = w ∧ K s

theorem getT_of {l : List DV} {n : Nat} {d : DV} (h : l[n]? = some d) : getT l n = d := by rw [getT_eq, h]; rfl

theorem Rel.get {G : Gl} {X : Cx} {s : St} {a : Act} (h : Rel G X s a) (n : Nat) : VRel X G.base (.tmp n) (getT s.t n) (a.tmps.getD n undef) := by
  rw [getT_eq]
  cases hn : s.t[n]? with
  | none => trivial
  | some d => exact h.tmps n d hn

theorem put_tmps (a : Act) (d : Option Nat) (u : Value) (i : Nat) : (a.put d u).tmps.getD i undef = if d = some i ∧ i < a.tmps.size then u else a.tmps.getD i undef := by
  cases d with
  | none => simp [Act.put]
  | some j =>
    simp only [Act.put, Option.some.injEq]
    by_cases hij : j = i
    · subst hij
      by_cases hlt : j < a.tmps.size
      · simp [Array.getD, hlt]
      · simp [Array.getD, hlt]
    · by_cases hlt : i < a.tmps.size
      · simp [Array.getD, hlt, hij]
      · simp [Array.getD, hlt]
theorem put_size (a : Act) (d : Option Nat) (u : Value) : (a.put d u).tmps.size = a.tmps.size := by cases d <;> simp [Act.put]
theorem put_defers (a : Act) (d : Option Nat) (u : Value) : (a.put d u).defers = a.defers := by cases d <;> simp [Act.put]

theorem putD_length (t : List DV) (d : Option Nat) (v : DV) : (putD t d v).length = t.length := by cases d <;> simp [putD, setL_length]
theorem putD_get (t : List DV) (d : Option Nat) (v : DV) (i : Nat) : (putD t d v)[i]? = if d = some i then t[i]?.map (fun _ => v) else t[i]? := by
  cases d with
  | none => simp [putD]
  | some j => simp only [putD, getElem?_setL, Option.some.injEq]; by_cases h : i = j <;> simp [h, eq_comm]

theorem Rel.put {G : Gl} {X : Cx} {s : St} {a : Act} (h : Rel G X s a) {d : Option Nat} {v : DV} {u : Value} (hv : ∀ j, d = some j → VRel X G.base (.tmp j) v u) :
    Rel G X ⟨putD s.t d v, s.b⟩ (a.put d u) := by
  refine ⟨by rw [put_defers]; exact h.defers, by rw [put_size]; simp [putD_length, h.size], ?_, h.boxes, h.below, h.hb, h.mold⟩
  intro i e he
  simp only [putD_get] at he
  rw [put_tmps]
  by_cases hd : d = some i
  · rw [if_pos hd] at he
    cases ht : s.t[i]? with
    | none => rw [ht] at he; simp at he
    | some e0 =>
      rw [ht] at he
      simp at he
      subst he
      have hlt : i < s.t.length := (List.getElem?_eq_some_iff.1 ht).1
      rw [if_pos ⟨hd, by rw [h.size]; exact hlt⟩]
      exact hv i hd
  · rw [if_neg hd] at he
    rw [if_neg (fun hh => hd hh.1)]
    exact h.tmps i e he

/-- A slot may be known less well. -/
theorem Rel.weak {G : Gl} {X : Cx} {s : St} {a : Act} (h : Rel G X s a) (n : Nat) (v : DV) (hv : VRel X G.base (.tmp n) v (a.tmps.getD n undef)) : Rel G X ⟨setL s.t n v, s.b⟩ a := by
  refine ⟨h.defers, by simp [setL_length, h.size], ?_, h.boxes, h.below, h.hb, h.mold⟩
  intro i e he
  rw [getElem?_setL] at he
  by_cases hi : i = n
  · subst hi
    rw [if_pos rfl] at he
    cases ht : s.t[i]? with
    | none => rw [ht] at he; simp at he
    | some e0 => rw [ht] at he; simp at he; subst he; exact hv
  · rw [if_neg hi] at he
    exact h.tmps i e he

/-- The operands. -/
inductive OT : Operand → O → Prop
  | tmp (n : Nat) : OT (.tmp n) (.t n)
  | int (k : IntKind) (n : Int) : OT (.const (.int k n)) (.c (.p (.int k n)))
  | bool (b : Bool) : OT (.const (.bool b)) (.c (.p (.bool b)))
  | str (s : ByteArray) : OT (.const (.string s)) (.c (.p (.str s)))
  | nil (n : Nat) : OT (.const (.slice none 0 0)) (.c (.ow n true []))
  | func (f : FuncId) : OT (.func f) (.c (.p (.fn f [])))
  | atom (v : Value) (h : v.oneCell' = true) : OT (.const v) (.c (.p (.atom v)))
  | any (x : Operand) : OT x (.c .top)

theorem VRel.const {X : Cx} {base : Nat} {L : Loc} {a : Act} {t : List DV} {x : Operand} {o : O} (h : OT x o) (hn : ∀ n, o ≠ .t n) : VRel X base L (o.val t) (a.eval x) := by
  cases h with
  | tmp n => exact absurd rfl (hn n)
  | int k n => exact Flat.int k n
  | bool b => exact Flat.bool b
  | str s => exact Flat.str s
  | nil n => exact .inl ⟨rfl, .inl ⟨rfl, rfl⟩⟩
  | func f => exact Flat.fn f [] #[] rfl (fun i c v h => by simp at h)
  | atom v h => exact Flat.atom v h
  | any x => trivial

theorem Rel.opnd {G : Gl} {X : Cx} {s : St} {a : Act} (h : Rel G X s a) {x : Operand} {o : O} (ho : OT x o) : ∃ L, VRel X G.base L (o.val s.t) (a.eval x) := by
  cases ho with
  | tmp n => exact ⟨.tmp n, h.get n⟩
  | _ => exact ⟨.tmp 0, VRel.const (by first | exact .int _ _ | exact .bool _ | exact .str _ | exact .nil _ | exact .func _ | exact .any _ | (exact .atom _ (by assumption))) (by intro n hn; cases hn)⟩

/-- What comes to a value without a look at the world. -/
theorem wp_value {G : Gl} {X : Cx} {s : St} {a : Act} {o : Oper} {K : St → Prop} {Q : Exit → Act → World → Prop} {v : DV} {u : Value}
    (h : Rel G X s a) (hrun : (execOp a.eval o).run P X.w = .ok (.value u) X.w) (hv : ∀ j, o.dst = some j → VRel X G.base (.tmp j) v u)
    (hK : K ⟨putD s.t o.dst v, s.b⟩) : o.wp P a X.w (Post G K) Q := by
  unfold Oper.wp
  rw [hrun, Oper.upon_value]
  exact ⟨_, X, h.put hv, rfl, hK⟩

theorem wp_pv {G : Gl} {X : Cx} {s : St} {a : Act} {o : Oper} {K : St → Prop} {Q : Exit → Act → World → Prop} {z : PV} {u : Value}
    (h : Rel G X s a) (hrun : (execOp a.eval o).run P X.w = .ok (.value u) X.w) (hv : Flat X.M X.w z u)
    (hK : K ⟨putD s.t o.dst (.p z), s.b⟩) : o.wp P a X.w (Post G K) Q := wp_value (v := .p z) h hrun (fun _ _ => hv) hK

theorem pv_of {X : Cx} {base : Nat} {L : Loc} {d : DV} {x : PV} {v : Value} (h : VRel X base L d v) (hx : pvOf d = some x) : Flat X.M X.w x v := by
  cases d <;> simp [pvOf] at hx
  · subst hx; exact h
  · subst hx; exact OwRel.flat h

theorem Flat.intv {M : Nat → Nat → Prop} {w : World} {k : IntKind} {n : Int} {v : Value} (h : Flat M w (.int k n) v) : v = .int k n := by cases h; rfl
theorem Flat.boolv {M : Nat → Nat → Prop} {w : World} {b : Bool} {v : Value} (h : Flat M w (.bool b) v) : v = .bool b := by cases h; rfl
theorem Flat.strv {M : Nat → Nat → Prop} {w : World} {s : ByteArray} {v : Value} (h : Flat M w (.str s) v) : v = .string s := by cases h; rfl

theorem run_binPV {G : Gl} {X : Cx} {s : St} {a : Act} {Q : Exit → Act → World → Prop} {o : Oper} {K : St → Prop} (h : Rel G X s a) (op : BinOp) (t t' : TypeId) (x y : Operand) (ho : o.op = .binOp op t x y t')
    {p q : PV} (hx : Flat X.M X.w p (a.eval x)) (hy : Flat X.M X.w q (a.eval y)) (hK : binPV op p q fun z => K ⟨putD s.t o.dst (.p z), s.b⟩) : o.wp P a X.w (Post G K) Q := by
  cases p <;> cases q <;> simp only [binPV] at hK <;> try exact hK.elim
  case int.int k m k' n =>
    have ex := hx.intv
    have ey := hy.intv
    cases op <;> simp only at hK
    case quo | rem =>
      obtain ⟨rfl, hn, hK⟩ := hK
      refine wp_pv (z := .int _ _) h ?_ (Flat.int _ _) hK
      simp [execOp, ho, ex, ey, binOp, Op.intDiv, hn, eqGuard]
    case shl | shr =>
      obtain ⟨hn, hK⟩ := hK
      refine wp_pv (z := .int _ _) h ?_ (Flat.int _ _) hK
      simp [execOp, ho, ex, ey, binOp, Op.shift, Int.not_lt.2 hn, eqGuard]
    all_goals
      obtain ⟨rfl, hK⟩ := hK
      first | refine wp_pv (z := .int _ _) h ?_ (Flat.int _ _) hK | refine wp_pv (z := .bool _) h ?_ (Flat.bool _) hK
      simp [execOp, ho, ex, ey, binOp, Op.intArith, Op.intCmp, Op.intBits, bitsOf, eqGuard]
  case str.str m n =>
    have ex := hx.strv
    have ey := hy.strv
    cases op <;> simp only at hK <;> try exact hK.elim
    case add =>
      obtain ⟨hn, hK⟩ := hK
      refine wp_pv (z := .str _) h ?_ (Flat.str _) hK
      have hn' : ¬ ((m.size + n.size : Nat) : Int) > IntKind.i64.max := by
        have : IntKind.i64.max = 9223372036854775807 := by decide
        rw [this]; omega
      simp only [execOp, ho, ex, ey, binOp, Op.stringOp, eqGuard, if_neg hn']
      simp
    all_goals
      refine wp_pv (z := .bool _) h ?_ (Flat.bool _) hK
      simp [execOp, ho, ex, ey, binOp, Op.stringOp, eqGuard]

end Go.Proofs.YtkjghcbnmipgfaaGreatDoor.Vc
