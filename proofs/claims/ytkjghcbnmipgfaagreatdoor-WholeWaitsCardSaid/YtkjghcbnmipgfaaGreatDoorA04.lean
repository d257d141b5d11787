/- Part of a proof over a Go program: VcEv. No condition. -/
import Derived.Test.YtkjghcbnmipgfaaGreatDoorA03
set_option linter.unusedSectionVars false
set_option linter.unusedSimpArgs false
set_option linter.unusedVariables false
namespace Go.Proofs.YtkjghcbnmipgfaaGreatDoor.Vc
open Go.RowKit
variable {P : Program}
abbrev mv (d x : Nat) : Ins := ⟨some d, none, .mov false, [.t x]⟩
abbrev mt (d x : Nat) : Ins := ⟨some d, none, .mov true, [.t x]⟩
abbrev mc (d : Nat) (x : PV) : Ins := ⟨some d, none, .mov true, [.c (.p x)]⟩
abbrev fa (d o x : Nat) : Ins := ⟨some d, none, .fad o, [.t x]⟩
abbrev ld (d x : Nat) : Ins := ⟨some d, none, .load 1 false false, [.t x]⟩
abbrev b2 (d : Nat) (op : BinOp) (x y : Nat) : Ins := ⟨some d, none, .bin op, [.t x, .t y]⟩
abbrev b1 (d : Nat) (op : BinOp) (x : Nat) (y : PV) : Ins := ⟨some d, none, .bin op, [.t x, .c (.p y)]⟩
abbrev ii (d : Nat) (κ : Kd) (xs : List O) : Ins := ⟨some d, none, κ, xs⟩
abbrev gt (d j : Nat) (κ : Kd) (xs : List O) : Ins := ⟨some d, some (j, true), κ, xs⟩
abbrev gf (d j : Nat) (κ : Kd) (xs : List O) : Ins := ⟨some d, some (j, false), κ, xs⟩
/-- Lay out a slot's content. -/
def dvK (v : DV) (K : DV → Prop) : Prop :=
  match v with
  | .top => K .top
  | .p x => K (.p x)
  | .ow a b c => K (.ow a b c)
  | .tup ds => K (.tup ds)
  | .addr a b c d => K (.addr a b c d)
  | .bs a b c d e => K (.bs a b c d e)
  | .fn f cs => K (.fn f cs)
  | .mh k => K (.mh k)
theorem dvK_eq (v : DV) (K : DV → Prop) : dvK v K = K v := by cases v <;> rfl
def setK {α : Type} (l : List α) : Nat → α → (List α → Prop) → Prop :=
  List.rec (motive := fun _ => Nat → α → (List α → Prop) → Prop) (fun _ _ K => K []) (fun x xs ih n v K => Nat.rec (motive := fun _ => Prop) (K (v :: xs)) (fun n _ => ih n v fun ys => K (x :: ys)) n) l
theorem setK_eq {α : Type} (l : List α) (n : Nat) (v : α) (K : List α → Prop) : setK l n v K = K (setL l n v) := by
  induction l generalizing n K with
  | nil => rfl
  | cons x xs ih => cases n with
    | zero => rfl
    | succ n => exact ih n fun ys => K (x :: ys)
def spK {α : Type} (l : List α) : (List α → Prop) → Prop :=
  List.rec (motive := fun _ => (List α → Prop) → Prop) (fun K => K []) (fun x _ ih K => ih fun ys => K (x :: ys)) l
theorem spK_eq {α : Type} (l : List α) (K : List α → Prop) : spK l K = K l := by
  induction l generalizing K with
  | nil => rfl
  | cons x xs ih => exact ih fun ys => K (x :: ys)
def putK (t : List DV) (d : Option Nat) (v : DV) (K : List DV → Prop) : Prop :=
  match d with
  | some i => dvK v fun v => setK t i v K
  | none => K t
theorem putK_eq (t : List DV) (d : Option Nat) (v : DV) (K : List DV → Prop) : putK t d v K = K (putD t d v) := by
  cases d with
  | none => rfl
  | some i => simp only [putK, putD, dvK_eq, setK_eq]
def cpK (t : List DV) (n : Nat) (K : List DV → Prop) : Prop := dvK (getT t n).copy fun v => setK t n v K
def degK : Kd → List O → List DV → (List DV → Prop) → Prop
  | .mov true, [.t n], t, K => cpK t n K
  | .app _ _, .t n :: _, t, K => cpK t n K
  | .store _, [_, .t n], t, K => cpK t n K
  | .ext j, [.t n], t, K => spK (degr (.ext j) [.t n] t) K
  | _, _, t, K => K t
theorem degK_eq (κ : Kd) (xs : List O) (t : List DV) (K : List DV → Prop) : degK κ xs t K = K (degr κ xs t) := by
  unfold degK
  split
  · simp only [cpK, dvK_eq, setK_eq, degr]
  · simp only [cpK, dvK_eq, setK_eq, degr]
  · simp only [cpK, dvK_eq, setK_eq, degr]
  · rw [spK_eq]
  · rename_i h1 h2 h3 h4
    unfold degr
    split
    · exact (h1 _ rfl rfl).elim
    · exact (h2 _ _ _ _ rfl rfl).elim
    · exact (h3 _ _ _ rfl rfl).elim
    · exact (h4 _ _ rfl rfl).elim
    · rfl
def freshB (i : Ins) (s : St) : Bool :=
  match newBox i.k with
  | some k => decide (k < s.b.length) && (noRefT k (putD s.t i.d .top) && noRefB k 0 s.b)
  | none => true
theorem freshB_eq (i : Ins) (s : St) : (freshB i s = true) = fresh i s := by
  unfold freshB fresh
  split
  · rename_i k hk; rw [hk]; simp [and_assoc]
  · rename_i hk; rw [hk]; simp
/-- A closed test. -/
def testB (b : Bool) (A : Prop) : Prop :=
  match b with
  | true => A
  | false => False
theorem testB_eq (b : Bool) (A : Prop) : testB b A = (b = true ∧ A) := by cases b <;> simp [testB]
def exV (P : Program) (i : Ins) (s : St) (K : St → Prop) : Prop :=
  testB (freshB i s) (semJ P i.k (i.xs.map (O.val s.t)) s.b fun v b' => degK i.k.core i.xs s.t fun t => putK t i.d v fun t => spK b' fun b' => K ⟨t, b'⟩)
def exG (P : Program) (i : Ins) (s : St) (K : St → Prop) : Prop :=
  match i.g with
  | none => exV P i s K
  | some (j, want) => match getT s.t j with
    | .p (.bool c) => (c = want → setK s.t j (.p (.bool want)) fun t => exV P i ⟨t, s.b⟩ K) ∧ (c = (!want) → setK s.t j (.p (.bool (!want))) fun t => putK t i.d (.tup []) fun t => K ⟨t, s.b⟩)
    | .tup [] => putK s.t i.d (.tup []) fun t => K ⟨t, s.b⟩
    | _ => False
def exS (P : Program) (l : List Ins) : St → (St → Prop) → Prop :=
  List.rec (motive := fun _ => St → (St → Prop) → Prop) (fun s K => K s) (fun i _ ih s K => exG P i s fun s' => ih s' K) l
theorem exS_cons (P : Program) (i : Ins) (is : List Ins) (s : St) (K : St → Prop) : exS P (i :: is) s K = exG P i s fun s' => exS P is s' K := rfl
theorem exV_eq (i : Ins) (s : St) (K : St → Prop) : exV P i s K = exec P i s K := by
  unfold exV exec
  rw [testB_eq, freshB_eq]
  simp only [degK_eq, putK_eq, spK_eq]
theorem exG_eq (i : Ins) (s : St) (K : St → Prop) : exG P i s K = execG P i s K := by
  unfold exG execG
  simp only [setK_eq, putK_eq, exV_eq]
  cases i.g with
  | none => rfl
  | some g =>
    obtain ⟨j, want⟩ := g
    simp only
    cases getT s.t j with
    | p x => cases x <;> rfl
    | tup ds => cases ds <;> rfl
    | _ => rfl
theorem exS_eq (is : List Ins) (s : St) (K : St → Prop) : exS P is s K = execs P is s K := by
  induction is generalizing s K with
  | nil => rfl
  | cons i is ih => rw [exS_cons]; simp only [execs, exG_eq, ih]
def forgetK (t : List DV) (ns : List Nat) (K : List DV → Prop) : Prop :=
  List.rec (motive := fun _ => List DV → (List DV → Prop) → Prop) (fun t K => K t) (fun n _ ih t K => setK t n .top fun t => ih t K) ns t K
theorem forgetK_cons (t : List DV) (n : Nat) (ns : List Nat) (K : List DV → Prop) : forgetK t (n :: ns) K = setK t n .top fun t => forgetK t ns K := rfl
theorem forgetK_eq (t : List DV) (ns : List Nat) (K : List DV → Prop) : forgetK t ns K = K (forget t ns) := by
  induction ns generalizing t with
  | nil => rfl
  | cons n ns ih => rw [forgetK_cons]; simp only [forget, setK_eq, ih]
def dropK (t : List (Option Box)) (ns : List Nat) (K : List (Option Box) → Prop) : Prop :=
  List.rec (motive := fun _ => List (Option Box) → (List (Option Box) → Prop) → Prop) (fun t K => K t) (fun n _ ih t K => setK t n none fun t => ih t K) ns t K
theorem dropK_cons (t : List (Option Box)) (n : Nat) (ns : List Nat) (K : List (Option Box) → Prop) : dropK t (n :: ns) K = setK t n none fun t => dropK t ns K := rfl
theorem dropK_eq (t : List (Option Box)) (ns : List Nat) (K : List (Option Box) → Prop) : dropK t ns K = K (dropB t ns) := by
  induction ns generalizing t with
  | nil => rfl
  | cons n ns ih => rw [dropK_cons]; simp only [dropB, setK_eq, ih]
abbrev EvT := St → (St → Prop) → (Nat → St → Prop) → (St → Prop) → Prop
noncomputable def ev (P : Program) (c : C) : EvT :=
  C.rec (motive := fun _ => EvT)
    (fun _ _ _ _ => False)
    (fun s n _ _ => n s)
    (fun ops s n _ _ => exS P ops s n)
    (fun ops s n _ _ => exS P ops s n)
    (fun ops s n _ _ => testB (invB ops s) (exS P ops s n))
    (fun _ _ iha ihb s n x r => iha s (fun s' => ihb s' n x r) x r)
    (fun c _ _ iha ihb s n x r => match c, c.val s.t with
      | .t j, .p (.bool t) => (t = true → setK s.t j (.p (.bool true)) fun t => iha ⟨t, s.b⟩ n x r) ∧ (t = false → setK s.t j (.p (.bool false)) fun t => ihb ⟨t, s.b⟩ n x r)
      | .c _, .p (.bool t) => (t = true → iha s n x r) ∧ (t = false → ihb s n x r)
      | _, _ => False)
    (fun id _ ih s n x r => ih s n (fun j s' => if j = id then n s' else x j s') r)
    (fun fs ds _ ih s _ x r => ∃ k, forgetK s.t fs fun t => dropK s.b ds fun b => iter (fun s' N => ih s' (fun s2 => forgetK s2.t fs fun t => dropK s2.b ds fun b => N ⟨t, b⟩) x r) k ⟨t, b⟩)
    (fun id s _ x _ => x id s)
    (fun s _ _ r => r s)
    (fun fs zs ds _ ih s n x r => fixB s.b zs fun b => forgetK s.t fs fun t => dropK b ds fun b => ih ⟨t, b⟩ n x r)
    (fun i k ag _ ih s n x r => match getT s.t i with
      | .ow size _ rows => testB (decide (size ≠ 0) && (decide (k < s.b.length) && (noRefT k s.t && (noRefB k 0 s.b && (scalT i 0 s.t && scalB k 0 s.b))))) (rows ≠ [] ∧ scalR (ownRows rows) = true ∧
          setK s.t i (.bs k size ag 0 rows.length) fun t => setK s.b k (some ⟨true, size, ownRows rows, false⟩) fun b => ih ⟨t, b⟩ n x r)
      | _ => False) c
theorem ev_eq : ∀ (c : C) (s : St) (n : St → Prop) (x : Nat → St → Prop) (r : St → Prop), ev P c s n x r = vc P c s n x r := by
  intro c
  induction c with
  | stuck => intros; rfl
  | skip => intros; rfl
  | reg ops => intros; show exS P _ _ _ = _; simp only [vc, exS_eq]
  | regd ops => intros; show exS P _ _ _ = _; simp only [vc, exS_eq]
  | rega ops => intros; show testB _ (exS P _ _ _) = _; simp only [vc, exS_eq, testB_eq]
  | seq a b iha ihb => intro s n x r; show ev P a s (fun s' => ev P b s' n x r) x r = _; simp only [vc, iha, ihb]
  | cond c a b iha ihb =>
    intro s n x r
    show (match c, c.val s.t with
      | .t j, .p (.bool t) => (t = true → setK s.t j (.p (.bool true)) fun t => ev P a ⟨t, s.b⟩ n x r) ∧ (t = false → setK s.t j (.p (.bool false)) fun t => ev P b ⟨t, s.b⟩ n x r)
      | .c _, .p (.bool t) => (t = true → ev P a s n x r) ∧ (t = false → ev P b s n x r)
      | _, _ => False) = _
    simp only [vc, iha, ihb, setK_eq]
    cases c with
    | t j =>
      simp only [O.val]
      cases getT s.t j with
      | p z => cases z <;> rfl
      | _ => rfl
    | c d =>
      simp only [O.val]
      cases d with
      | p z => cases z <;> rfl
      | _ => rfl
  | block id c ih => intro s n x r; show ev P c s n (fun j s' => if j = id then n s' else x j s') r = _; simp only [vc, ih]
  | loop fs ds c ih =>
    intro s n x r
    show (∃ k, forgetK s.t fs fun t => dropK s.b ds fun b => iter (fun s' N => ev P c s' (fun s2 => forgetK s2.t fs fun t => dropK s2.b ds fun b => N ⟨t, b⟩) x r) k ⟨t, b⟩) = _
    simp only [vc, ih, forgetK_eq, dropK_eq]
  | exit id => intros; rfl
  | ret => intros; rfl
  | pre fs zs ds c ih =>
    intro s n x r
    show (fixB s.b zs fun b => forgetK s.t fs fun t => dropK b ds fun b => ev P c ⟨t, b⟩ n x r) = _
    simp only [vc, ih, forgetK_eq, dropK_eq]
  | own i k ag c ih =>
    intro s n x r
    show (match getT s.t i with
      | .ow size _ rows => testB (decide (size ≠ 0) && (decide (k < s.b.length) && (noRefT k s.t && (noRefB k 0 s.b && (scalT i 0 s.t && scalB k 0 s.b))))) (rows ≠ [] ∧ scalR (ownRows rows) = true ∧
          setK s.t i (.bs k size ag 0 rows.length) fun t => setK s.b k (some ⟨true, size, ownRows rows, false⟩) fun b => ev P c ⟨t, b⟩ n x r)
      | _ => False) = _
    simp only [vc]
    cases getT s.t i with
    | ow size nl rows => simp only [testB_eq, setK_eq, ih]
    | _ => rfl
/-- A loop, by what holds at its head after each round; 'n' falls. -/
theorem iter_inv {F : St → (St → Prop) → Prop} (I : Nat → St → Prop) (hs : ∀ n s (N : St → Prop), I n s → (∀ m s', m < n → I m s' → N s') → F s N) :
    ∀ (k n : Nat) (s : St), n < k → I n s → iter F k s := by
  intro k
  induction k with
  | zero => exact fun n s h => by omega
  | succ k ih => exact fun n s hn hI => hs n s _ hI fun m s' hm hI' => ih m s' (by omega) hI'
theorem loop_inv {T : List DV} {fs : List Nat} {B : List (Option Box)} {ds : List Nat} {F : St → (St → Prop) → Prop} (I : Nat → St → Prop) (n : Nat) (h0 : forgetK T fs fun t => dropK B ds fun b => I n ⟨t, b⟩)
    (hs : ∀ n t b (N : St → Prop), I n ⟨t, b⟩ → (∀ m s', m < n → I m s' → N s') → spK t fun t => spK b fun b => F ⟨t, b⟩ N) : ∃ k, forgetK T fs fun t => dropK B ds fun b => iter F k ⟨t, b⟩ := by
  rw [forgetK_eq, dropK_eq] at h0
  refine ⟨n + 1, ?_⟩
  rw [forgetK_eq, dropK_eq]
  exact iter_inv I (fun n s N hI hN => by have := hs n s.t s.b N hI hN; rwa [spK_eq, spK_eq] at this) _ _ _ (Nat.lt_succ_self n) h0
/-- Slots that hold this, the others nothing that is known. -/
def mkT (n : Nat) : List (Nat × DV) → List DV
  | [] => List.replicate n .top
  | (i, d) :: l => setL (mkT n l) i d
theorem wrapE {n : Int} (h1 : -9223372036854775808 ≤ n) (h2 : n ≤ 9223372036854775807) : IntKind.wrap .i64 n = n := by
  have e : (2 : Int) ^ (64 : Nat) = 18446744073709551616 := by decide
  have e' : (2 : Int) ^ (63 : Nat) = 9223372036854775808 := by decide
  simp only [IntKind.wrap, IntKind.signed, IntKind.bits]
  simp only [Bool.true_and, decide_eq_true_eq, e, e', ge_iff_le, Nat.add_one_sub_one, Nat.reduceSub]
  split <;> omega
/-- It can't be. -/
class No (A : Prop) : Prop where no : ¬ A
instance : No (true = false) := ⟨by decide⟩
instance : No (false = true) := ⟨by decide⟩
instance : No ((!true) = true) := ⟨by decide⟩
instance : No ((!false) = false) := ⟨by decide⟩
instance : No (true = !true) := ⟨by decide⟩
instance : No (false = !false) := ⟨by decide⟩
instance : No ((!true) = !false) := ⟨by decide⟩
instance : No ((!false) = !true) := ⟨by decide⟩
instance {a b c : Bool} [h : No (a = c)] : No ((if true = true then a else b) = c) := ⟨fun e => h.no (by simpa using e)⟩
instance {a b c : Bool} [h : No (b = c)] : No ((if false = true then a else b) = c) := ⟨fun e => h.no (by simpa using e)⟩
/-- The one is not the other. -/
class Opp (x y : Bool) : Prop where no : x ≠ y
instance : Opp true false := ⟨by decide⟩
instance : Opp false true := ⟨by decide⟩
instance : Opp true (!true) := ⟨by decide⟩
instance : Opp false (!false) := ⟨by decide⟩
theorem opN {c x y : Bool} [o : Opp x y] (h : c = x) : ¬ (c = y) := fun e => o.no (h.symm.trans e)
theorem zP {A B C D : Prop} (k : B) (h : ¬ C := by first | exact No.no | exact opN (x := true) (by assumption) | exact opN (x := false) (by assumption)) : (A → B) ∧ (C → D) := ⟨fun _ => k, fun c => (h c).elim⟩
theorem zL {A B C D : Prop} (k : D) (h : ¬ A := by first | exact No.no | exact opN (x := true) (by assumption) | exact opN (x := false) (by assumption)) : (A → B) ∧ (C → D) := ⟨fun c => (h c).elim, fun _ => k⟩
theorem zX {α : Type} {p K : α → Prop} {x : α} (k : K x) (h : p x := by assumption) : ∃ x, p x ∧ K x := ⟨x, h, k⟩
theorem zn {n : Nat} {K : Prop} (k : K) : (0 : Int) ≤ (n : Int) ∧ K := ⟨Int.natCast_nonneg _, k⟩
theorem zb {a b : Nat} {K : Prop} (h : Nat.ble a b = true) (k : K) : a ≤ b ∧ K := ⟨Nat.le_of_ble_eq_true h, k⟩
theorem zo {α : Type} {a b : α} {B K : Prop} (h : a = b) (k : K) : (a = b ∨ B) ∧ K := ⟨.inl h, k⟩
theorem zs {A K : Prop} (k : K) (h : A := by first | assumption | decide | (simp only [List.length_nil, List.length_cons, List.length_map, List.length_append]; omega) | (refine List.forall_mem_cons.2 ⟨rfl, ?_⟩; (repeat' first | exact fun _ h => absurd h List.not_mem_nil | refine List.forall_mem_cons.2 ⟨rfl, ?_⟩); done)) : A ∧ K := ⟨h, k⟩
/-- A function's contract: it is run on what its parameters hold. -/
theorem Fn.run {f : FuncId} {F : Fn} (h : chkF P f F = true) {args : List PV} {r : DV} (hr : r.plain = true)
    (hv : ev P F.c (St0 F.n F.nb args) (F.post r) (fun _ _ => False) (F.post r)) : PureCall P f args r :=
  Fn.pure h hr (by unfold Fn.vc; rw [← ev_eq]; exact hv)
theorem Fn.runM {f : FuncId} {F : Fn} (h : chkF P f F = true) {size : Nat} {args : List DV} {rows rows' : List (List DV)} {r : DV} (hr : r.plain = true) (hrows : allPR rows = true) (hrows' : allPR rows' = true) (hargs : args.all DV.arg = true) (hsz0 : size ≠ 0)
    (hv : ev P F.c (St1 F.n F.nb args size rows) (F.postM size rows' r) (fun _ _ => False) (F.postM size rows' r)) : MCall P f size args rows rows' r :=
  Fn.mcall h hr hrows hrows' hargs hsz0 (by rw [← ev_eq]; exact hv)
end Go.Proofs.YtkjghcbnmipgfaaGreatDoor.Vc
