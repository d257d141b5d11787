/- Part of a proof over a Go program: Ext. No condition. -/
import Derived.Test.YtkjghcbnmipgfaaGreatDoorA05
import Derived.Test.YtkjghcbnmipgfaaGreatDoorA23
import Derived.Lib.Bytealg
import Derived.Laws.Externs
set_option linter.unusedSectionVars false
set_option linter.unusedSimpArgs false
set_option linter.unusedVariables false
namespace Go.Proofs.YtkjghcbnmipgfaaGreatDoor.Vc
open Go.RowKit
variable {P : Program}
theorem pure_native {f : FuncId} {args : List PV} {r : PV} {v : Value} {cs : Array Value} (hr : ∀ M w, Flat M w r v) (hcs : ∀ (M0 : Nat → Nat → Prop) (w : World) (cargs : Array Value), cargs.size = args.length →
    (∀ (j : Nat) x u, args[j]? = some x → cargs[j]? = some u → Flat M0 w x u) → cargs = cs) (h : ∀ w, (callFunc f cs).run P w = .ok (.value v) w) : PureCall P f args (.p r) := by
  refine ⟨rfl, fun M0 w cargs hs ha => .inr ⟨v, ⟨fun _ => none, fun _ => none, M0, w, fun _ => none⟩, ?_, hr _ _, fun _ _ _ => Iff.rfl, ⟨rfl, rfl, rfl, Nat.le_refl _, fun _ _ => rfl⟩⟩⟩
  rw [hcs M0 w cargs hs ha]
  exact h w
theorem arg_str {M : Nat → Nat → Prop} {w : World} {s : ByteArray} {v : Value} (h : Flat M w (.str s) v) : v = .string s := by cases h; rfl
theorem arg_int {M : Nat → Nat → Prop} {w : World} {k : IntKind} {n : Int} {v : Value} (h : Flat M w (.int k n) v) : v = .int k n := by cases h; rfl
theorem args_str_int {s : ByteArray} {k : IntKind} {n : Int} (M0 : Nat → Nat → Prop) (w : World) (cargs : Array Value) (hs : cargs.size = [PV.str s, PV.int k n].length)
    (ha : ∀ (j : Nat) x u, [PV.str s, PV.int k n][j]? = some x → cargs[j]? = some u → Flat M0 w x u) : cargs = #[.string s, .int k n] := by
  obtain ⟨l⟩ := cargs
  match l, hs with
  | [a, b], _ =>
    have h0 := arg_str (ha 0 _ a rfl rfl)
    have h1 := arg_int (ha 1 _ b rfl rfl)
    rw [h0, h1]
theorem pure225 (s : ByteArray) (c : Int) : PureCall Tryz.prog 225 [.str s, .int .u8 c] (.p (.int .i64 (Lib.indexByte s.data.toList c.toNat.toUInt8))) := by
  refine pure_native (fun _ _ => .int _ _) args_str_int fun w => ?_
  rw [run_callFunc_extern Tryz.func225 (by decide) rfl rfl (e := Extern.BytealgIndexByte.indexByte) rfl]
  rw [Lib.run_indexByteString]
  rfl
theorem pure200 (s : ByteArray) (c : Int) : PureCall Tryz.prog 200 [.str s, .int .u8 c] (.p (.int .i64 (Lib.countByte s.data.toList c.toNat.toUInt8))) := by
  refine pure_native (fun _ _ => .int _ _) args_str_int fun w => ?_
  rw [run_callFunc_extern Tryz.func200 (by decide) rfl rfl (e := Extern.BytealgCount.count) rfl]
  rw [Lib.run_countString]
  rfl
theorem pure210 (x y c : Int) (hx : 0 ≤ x) (hy : 0 ≤ y) (hc0 : 0 ≤ c) (hc : c ≤ 1) : PureCall Tryz.prog 210 [.int .u64 x, .int .u64 y, .int .u64 c]
    (.tup [.p (.int .u64 ((x + y + c) % 18446744073709551616)), .p (.int .u64 ((x + y + c) / 18446744073709551616))]) := by
  refine ⟨rfl, fun M0 w cargs hs ha => .inr ⟨.tuple #[.int .u64 ((x + y + c) % 18446744073709551616), .int .u64 ((x + y + c) / 18446744073709551616)],
    ⟨fun _ => none, fun _ => none, M0, w, fun _ => none⟩, ?_, ⟨_, rfl, rfl, ?_⟩, fun _ _ _ => Iff.rfl, ⟨rfl, rfl, rfl, Nat.le_refl _, fun _ _ => rfl⟩⟩⟩
  · obtain ⟨l⟩ := cargs
    match l, hs with
    | [p, q, r], _ =>
      have h0 := arg_int (ha 0 _ p rfl rfl)
      have h1 := arg_int (ha 1 _ q rfl rfl)
      have h2 := arg_int (ha 2 _ r rfl rfl)
      rw [h0, h1, h2]
      rw [run_callFunc_extern Tryz.func210 (by decide) rfl rfl (e := add64Entry) rfl]
      have := run_add64 (P := Tryz.prog) x y c hx hy hc0 hc w
      rw [this]
      rfl
  · intro j d u hj hu
    match j with
    | 0 => cases hj; cases hu; exact .int _ _
    | 1 => cases hj; cases hu; exact .int _ _
    | j + 2 => simp at hj
def strsOf : List PV → Option (List ByteArray)
  | [] => some []
  | .str s :: l => match strsOf l with
    | some xs => some (s :: xs)
    | none => none
  | _ => none
theorem strsOf_map {l : List PV} : ∀ {xs : List ByteArray}, strsOf l = some xs → l = xs.map .str := by
  induction l with
  | nil => intro xs h; cases h; rfl
  | cons a l ih =>
    intro xs h
    unfold strsOf at h
    split at h
    · rename_i heq; cases heq
    · rename_i heq
      injection heq with e1 e2
      subst e1; subst e2
      split at h
      · rename_i hx; injection h with h; subst h; rw [ih hx]; rfl
      · cases h
    · cases h
theorem pure148 (size : Nat) (nl : Bool) (xs : List ByteArray) (sep : ByteArray) (hN : xs.length ≤ 140737488355328)
    (hlen : (Lib.join (xs.map (·.data.toList)) sep.data.toList).length ≤ 140737488355328) (hsz : size = 1) :
    PureCall Tryz.prog 148 [.sl size nl (xs.map .str), .str sep] (.p (.str ⟨(Lib.join (xs.map (·.data.toList)) sep.data.toList).toArray⟩)) := by
  subst hsz
  refine ⟨rfl, fun M0 w cargs hs ha => .inl ⟨⟨_, Tryz.func148, rfl, by decide⟩, ?_⟩⟩
  obtain ⟨l⟩ := cargs
  match l, hs with
  | [a, b], _ =>
    have h0 := ha 0 _ a rfl rfl
    have h1 := arg_str (ha 1 _ b rfl rfl)
    subst h1
    cases xs with
    | nil =>
      have : ∃ ad c, a = .slice ad 0 c := by
        cases h0 with
        | nilsl => exact ⟨_, _, rfl⟩
        | sl0 => exact ⟨_, _, rfl⟩
        | sl => exact ⟨_, _, rfl⟩
      obtain ⟨ad, c, rfl⟩ := this
      refine (Tryz.strings_Join_none ad c sep w).mono fun e w' h => ?_
      obtain ⟨h1, h2⟩ := h
      subst h2
      exact ⟨_, ⟨fun _ => none, fun _ => none, M0, w', fun _ => none⟩, h1, rfl, .str _, fun _ _ _ => Iff.rfl, ⟨rfl, rfl, rfl, Nat.le_refl _, fun _ _ => rfl⟩⟩
    | cons x0 xs =>
      cases h0 with
      | sl _ _ bk off cap cv hcap hmax hc hrs h1 hr =>
        have hcell : ∀ (j : Nat) x, (x0 :: xs)[j]? = some x → w.cell? ⟨bk, off + j, none⟩ = some (.string x) := by
          intro j x hj
          have hjl : j < (x0 :: xs).length := (List.getElem?_eq_some_iff.1 hj).1
          have hf := hr j 0 (.str x) (.str x) (by rw [List.getElem?_map, hj]; rfl) rfl
          have := (hc j (by simp only [List.length_map, Nat.mul_one]; exact hjl)).1
          rw [this]
          simp only [Nat.mul_one, Nat.add_zero] at hf
          rw [arg_str hf]
        have hbk : bk < w.heap.size := by
          have := hcell 0 x0 rfl
          unfold World.cell? at this
          by_cases hb : bk < w.heap.size
          · exact hb
          · have e : w.heap[bk]? = none := Array.getElem?_eq_none (by omega)
            simp [e] at this
        have hcap' : (x0 :: xs).length ≤ cap := by simpa using hcap
        have hlm : ((x0 :: xs).map PV.str).length = (x0 :: xs).length := List.length_map _
        rw [hlm]
        refine (Tryz.strings_Join bk off cap (x0 :: xs) sep w hcell hbk hN hcap' hlen).mono fun e w' h => ?_
        obtain ⟨h1, h2⟩ := h
        exact ⟨_, ⟨fun _ => none, fun _ => none, M0, w', fun _ => none⟩, h1, rfl, .str _, fun _ _ _ => Iff.rfl, h2⟩
/-- What these give. -/
def extE (f : FuncId) (args : List PV) : Option DV :=
  match args with
  | [.str s, .int .u8 c] => if Nat.beq f 225 then some (.p (.int .i64 (Lib.indexByte s.data.toList c.toNat.toUInt8)))
    else if Nat.beq f 200 then some (.p (.int .i64 (Lib.countByte s.data.toList c.toNat.toUInt8))) else none
  | [.int .u64 x, .int .u64 y, .int .u64 c] => if Nat.beq f 210 && (decide (0 ≤ x) && (decide (0 ≤ y) && (decide (0 ≤ c) && decide (c ≤ 1)))) then
    some (.tup [.p (.int .u64 ((x + y + c) % 18446744073709551616)), .p (.int .u64 ((x + y + c) / 18446744073709551616))]) else none
  | [.sl size _ rows, .str sep] => if Nat.beq f 148 then match strsOf rows with
    | some xs => if Nat.beq size 1 && (Nat.ble xs.length 1000 && Nat.ble (Lib.join (xs.map (·.data.toList)) sep.data.toList).length 100000) then some (.p (.str ⟨(Lib.join (xs.map (·.data.toList)) sep.data.toList).toArray⟩)) else none
    | none => none
    else none
  | _ => none
theorem extE_ok (f : FuncId) (args : List PV) (d : DV) (h : extE f args = some d) : PureCall Tryz.prog f args d := by
  unfold extE at h
  split at h
  · split at h
    · rename_i e
      have := Nat.eq_of_beq_eq_true e
      subst this
      injection h with h; subst h
      exact pure225 _ _
    · split at h
      · rename_i e
        have := Nat.eq_of_beq_eq_true e
        subst this
        injection h with h; subst h
        exact pure200 _ _
      · cases h
  · split at h
    · rename_i e
      simp only [Bool.and_eq_true, decide_eq_true_eq] at e
      obtain ⟨e, h1, h2, h3, h4⟩ := e
      have := Nat.eq_of_beq_eq_true e
      subst this
      injection h with h; subst h
      exact pure210 _ _ _ h1 h2 h3 h4
    · cases h
  · split at h
    · rename_i e
      have := Nat.eq_of_beq_eq_true e
      subst this
      split at h
      · rename_i hx
        split at h
        · rename_i hh
          simp only [Bool.and_eq_true, Nat.ble_eq] at hh
          injection h with h; subst h
          rw [strsOf_map hx]
          exact pure148 _ _ _ _ (by omega) (by omega) (Nat.eq_of_beq_eq_true hh.1)
        · cases h
      · cases h
    · cases h
  · cases h
end Go.Proofs.YtkjghcbnmipgfaaGreatDoor.Vc
