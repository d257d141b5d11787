/- Part of a proof over a Go program: VcOca, VcOap, VcOmp. No condition. -/
import Derived.Test.YtnjphclbpgajpaaGreatDoorQ04
import Derived.Laws.Pointers
set_option linter.unnecessarySimpa false
set_option linter.unusedSectionVars false
set_option linter.unusedSimpArgs false
set_option linter.unusedVariables false
namespace Go.Proofs.YtnjphclbpgajpaaGreatDoor.Vc
open Go.RowKit
variable {P : Program}
def HP (X : Cx) (base : Nat) (ks : List Nat) (g : Nat) : Prop :=
 g < X.w.heap.size ∧ (∃ L L', X.own g = some L ∧ relO ks L = some L') ∧ (∀ o, X.M g o) ∧ (base ≤ g ∨ ∃ j, X.ex j = some g)
open Classical in
noncomputable def handX (X : Cx) (base : Nat) (ks : List Nat) : Cx :=
 {ρ := fun i => (ks[i]?).bind X.ρ
  own := fun g => if HP X base ks g then (X.own g).bind (relO ks) else none
  M := X.M
  w := X.w
  ex := fun q => if q < ks.length then (ks[q]?).bind X.ρ else if HP X base ks (q - ks.length) then some (q - ks.length) else none }
section
variable {G : Gl} {X : Cx} {s : St} {a : Act} {Q : Exit → Act → World → Prop} {o : Oper} {K : St → Prop}
theorem handX_in (h : Rel G X s a) {ks : List Nat} (hl : LiveB s.b ks) {j g : Nat} (he : (handX X G.base ks).ex j = some g) : HP X G.base ks g := by
 simp only [handX] at he
 split at he
 ·cases hk : ks[j]? with
  | none => rw [hk] at he; simp at he
  | some k =>
   rw [hk] at he
   obtain ⟨b0, h1, h2⟩ := hl k (List.mem_of_getElem? hk)
   obtain ⟨blk, e1, e2, e3, e4, e5, e6⟩ := BX.info (h.boxes k b0 h1) h2
   simp only [Option.bind_some] at he
   rw [e1] at he
   injection he with he
   subst he
   exact ⟨e6, ⟨_, _, e2, by simp only [relO]; rw [if_pos (List.mem_of_getElem? hk)]⟩, e5, e3⟩
 ·split at he
  ·injection he with he; subst he; assumption
  ·cases he
theorem handX_of {base : Nat} {ks : List Nat} {g : Nat} (h : HP X base ks g) : (handX X base ks).ex (ks.length + g) = some g := by
 simp only [handX]
 rw [if_neg (by omega), show ks.length + g - ks.length = g by omega, if_pos h]
theorem handX_nu {base : Nat} {ks : List Nat} {j j' : Nat} (h : nuO ks j = some j') : (handX X base ks).ρ j' = X.ρ j := by
 show (ks[j']?).bind X.ρ = X.ρ j
 rw [nuO_some h]; rfl
theorem hand_ok (h : Rel G X s a) {ks : List Nat} (hn : ks.Nodup) (hl : LiveB s.b ks) : Hand (handX X G.base ks) (handO s.b (nuO ks) ks) := by
 obtain ⟨e1, e2⟩ := handO_get (b := s.b) (ν := nuO ks) (ks := ks)
 refine ⟨fun j g hg o => (handX_in h hl hg).2.2.1 o, fun i bx hi => ?_⟩
 have hil : i < ks.length := by rw [← e1]; exact (List.getElem?_eq_some_iff.1 hi).1
 have hk : ks[i]? = some ks[i] := by simp [hil]
 have hkm := List.mem_of_getElem? hk
 rw [e2 i _ hk] at hi
 injection hi with hi
 obtain ⟨b0, g2, g3⟩ := hl _ hkm
 have hbb : bx = ⟨true, b0.size, handRs (nuO ks) b0.rows, true⟩ := by rw [← hi]; simp only [handB, getR_some.2 g2]
 subst hbb
 have hki : numO ks[i] ks 0 = i := numO_get hn hk
 exact BX.tr (X := X) (X' := handX X G.base ks) (base := G.base) (base' := X.w.heap.size) (i := ks[i]) (i' := i) (bx := b0) (fun L L' => relO ks L = some L') (nuO ks) (fun L L' j e => by simp only [relO]; rw [e]; rfl)
  (Keeps.refl _ _) rfl (fun g L L' hL h1 h2 h3 h4 => ⟨by
   simp only [handX]
   rw [if_pos ⟨h4, ⟨L, L', h1, hL⟩, h3, h2⟩, h1]; exact hL, .inr ⟨ks.length + g, handX_of ⟨h4, ⟨L, L', h1, hL⟩, h3, h2⟩⟩, h3⟩)
  (by simp only [relO]; rw [if_pos hkm, hki]) (fun r o => by simp only [relO]; rw [if_pos hkm, hki])
  (by show (ks[i]?).bind X.ρ = X.ρ ks[i]; rw [hk]; rfl) (fun j j' hj => handX_nu hj)
  true (fun _ blk hblk => by
   show (if i < ks.length then _ else _) = _
   rw [if_pos hil, hk]; exact hblk) g3 (h.boxes _ b0 g2)
open Classical in
noncomputable def backX (X X1 : Cx) (base : Nat) (ks : List Nat) (L m : Nat) (d : Nat) : Cx :=
 {ρ := fun q => if L ≤ q ∧ ks.length + (q - L) < m then X1.ρ (ks.length + (q - L)) else X.ρ q
  own := fun g => if g < X.w.heap.size ∧ ¬ HP X base ks g then X.own g else (X1.own g).map (bkL (sigO ks L) d)
  M := fun b o => if b < X.w.heap.size ∧ ¬ HP X base ks b then X.M b o else X1.M b o
  w := X1.w
  ex := X.ex }
theorem back_ok (h : Rel G X s a) {ks : List Nat} (hn : ks.Nodup) (hl : LiveB s.b ks) {bs' : List (Option Box)} (hlen : ks.length ≤ bs'.length)
  (hf : ks.length < bs'.length → ltT s.b.length s.t = true ∧ ltB s.b.length s.b = true) {r : DV} (hr : r.plain = true ∨ r.isRef = true) {X1 : Cx} {v : Value}
  (hb : Back (handX X G.base ks) X1 ks.length bs' r v) (d : Nat) :
  Rel G (backX X X1 G.base ks s.b.length bs'.length d) ⟨s.t, backO (nuB ks s.b.length bs'.length) ks bs' s.b⟩ a ∧ VRel (backX X X1 G.base ks s.b.length bs'.length d) G.base (.tmp d) (resD (nuB ks s.b.length bs'.length) r) v := by
 have hex : ∀ g, (∃ j, (handX X G.base ks).ex j = some g) ↔ HP X G.base ks g := fun g => ⟨fun ⟨j, hj⟩ => handX_in h hl hj, fun hp => ⟨_, handX_of hp⟩⟩
 have hnex : ∀ g, ¬ HP X G.base ks g → ∀ j, (handX X G.base ks).ex j ≠ some g := fun g hg j hj => hg ((hex g).1 ⟨j, hj⟩)
 have hbel := hb.below
 have hmem := hb.mem
 have hrho := hb.rho
 have hval := hb.val
 have hbx := hb.boxes
 have hexe := hb.ex
 have hkl : ∀ k, k ∈ ks → k < s.b.length := fun k hk => by obtain ⟨b0, g1, _⟩ := hl k hk; exact (List.getElem?_eq_some_iff.1 g1).1
 generalize hX' : backX X X1 G.base ks s.b.length bs'.length d = X'
 generalize hL : s.b.length = L at *
 have ew : X'.w = X1.w := by subst hX'; rfl
 have eex : X'.ex = X.ex := by subst hX'; rfl
 have eo1 : ∀ g, g < X.w.heap.size → ¬ HP X G.base ks g → X'.own g = X.own g := by subst hX'; intro g h1 h2; simp only [backX]; rw [if_pos ⟨h1, h2⟩]
 have eo2 : ∀ g, ¬ (g < X.w.heap.size ∧ ¬ HP X G.base ks g) → X'.own g = (X1.own g).map (bkL (sigO ks L) d) := by subst hX'; intro g h1; simp only [backX]; rw [if_neg h1]
 have eM1 : ∀ b, b < X.w.heap.size → ¬ HP X G.base ks b → ∀ o, X'.M b o ↔ X.M b o := by subst hX'; intro g h1 h2 o; simp only [backX]; rw [if_pos ⟨h1, h2⟩]
 have eM2 : ∀ b, ∀ o, X'.M b o ↔ X1.M b o := by
  intro b o
  by_cases hc : b < X.w.heap.size ∧ ¬ HP X G.base ks b
  ·rw [eM1 b hc.1 hc.2]; exact (hmem b hc.1 (hnex b hc.2) o).symm
  ·subst hX'; simp only [backX]; rw [if_neg hc]
 have eρ : ∀ q, (q < L ∨ bs'.length ≤ ks.length) → X'.ρ q = X.ρ q := by subst hX'; intro q hq; simp only [backX]; rw [if_neg (by omega)]
 have hσ : ∀ i, i < bs'.length → X'.ρ (sigO ks L i) = X1.ρ i := by
  intro i hi
  by_cases him : i < ks.length
  ·have hk : ks[i]? = some ks[i] := by simp [him]
   rw [sigO_get hk, eρ _ (.inl (hkl _ (List.mem_of_getElem? hk))), hrho i him]
   show _ = (ks[i]?).bind X.ρ
   rw [hk]; rfl
  ·rw [sigO_out (by omega)]
   subst hX'
   simp only [backX]
   rw [if_pos (by omega), show ks.length + (L + (i - ks.length) - L) = i by omega]
 have hν : ∀ j j', nuB ks L bs'.length j = some j' → X'.ρ j' = X1.ρ j := fun j j' hj => by
  obtain ⟨h1, h2⟩ := nuB_some hj
  rw [h2, hσ j h1]
 have hkeep : Keeps X1.M X1.w X'.M X'.w := fun b o u hM hc => ⟨by rw [ew]; exact hc, fun h' => hM ((eM2 b o).1 h')⟩
 have hS : ∀ g L, X.own g = some L → (∀ k, k ∈ ks → L.root ≠ .box k ∧ ∀ r o, L.root ≠ .cell k r o) → ¬ HP X G.base ks g := by
  rintro g L hg hS ⟨_, ⟨L2, L', h1, h2⟩, _⟩
  rw [hg] at h1
  injection h1 with h1
  subst h1
  obtain ⟨k, hk, h3 | ⟨r, o, h3⟩⟩ := relO_root h2
  ·exact (hS k hk).1 h3
  ·exact (hS k hk).2 r o h3
 have hev : Ev (fun L => ∀ k, k ∈ ks → L.root ≠ .box k ∧ ∀ r o, L.root ≠ .cell k r o) X X' := by
  refine ⟨fun b o u hM hc => ?_, fun g L hg hSg hlt => ?_, eex, fun g cs ty hg => ?_⟩
  ·have hlt : b < X.w.heap.size := World.block_lt_of_cell? _ _ hc
   have hnp : ¬ HP X G.base ks b := fun hp => hM (hp.2.2.1 o)
   exact ⟨by rw [ew]; exact (World.cell?_of_block (w := X.w) (hbel.block b hlt (hnex b hnp))).trans hc, fun h' => hM ((eM1 b hlt hnp o).1 h')⟩
  ·have hnp := hS g L hg hSg
   exact ⟨(eo1 g hlt hnp).trans hg, by rw [ew]; exact hbel.block g hlt (hnex g hnp), fun o hm => (eM1 g hlt hnp o).2 hm⟩
  ·rw [ew]; exact hbel.sz g (Array.getElem?_eq_some_iff.1 hg).1 cs ty hg
 have hbase : G.base ≤ X.w.heap.size := h.hb
 have hment : ∀ (e : DV), (ks.length < bs'.length → ltD L e = true) → ∀ q, e.ment q = true → X'.ρ q = X.ρ q := fun e he q hq => by
  by_cases hx : ks.length < bs'.length
  ·exact eρ q (.inl (ltD_ment (he hx) hq))
  ·exact eρ q (.inr (by omega))
 refine ⟨⟨h.defers, h.size, fun i e he => ?_, fun q bq hq => ?_, ?_, by rw [ew]; exact Nat.le_trans h.hb hbel.size, eex.trans h.mold.1, fun b hb' hx o => ?_⟩, ?_⟩
 ·exact (h.tmps i e he).mono (fun L j hL => hL) hev (by simp [Loc.root]) (hment e fun hx => ltT_get (hf hx).1 (List.mem_of_getElem? he))
 ·have back : ∀ (i : Nat) (bx : Box) (old : Bool), bs'[i]? = some (some bx) → (old = true → ∀ blk, X1.ρ i = some blk → X'.ex (sigO ks L i) = some blk) → BX X' G.base (sigO ks L i) ⟨true, bx.size, handRs (nuB ks L bs'.length) bx.rows, old⟩ := by
   intro i bx old hi hp
   obtain ⟨o1, o2⟩ := hbx i bx hi
   have hil : i < bs'.length := (List.getElem?_eq_some_iff.1 hi).1
   refine BX.tr (X := X1) (X' := X') (base := X.w.heap.size) (base' := G.base) (fun L1 L' => L' = bkL (sigO ks L) d L1) (nuB ks L bs'.length) (fun L1 L' j e => by rw [e]; rfl) hkeep ew (fun g L1 L' e g1 g2 g3 _ => ?_) rfl (fun _ _ => rfl) (hσ i hil) hν old hp o1 o2
   have hg : ¬ (g < X.w.heap.size ∧ ¬ HP X G.base ks g) := fun hc => by
    rcases g2 with g2 | ⟨j, g2⟩
    ·have := hc.1; omega
    ·rw [hexe] at g2; exact hc.2 ((hex g).1 ⟨j, g2⟩)
   refine ⟨by rw [eo2 g hg, g1, e]; rfl, ?_, fun o => (eM2 g o).2 (g3 o)⟩
   rcases g2 with g2 | ⟨j, g2⟩
   ·exact .inl (Nat.le_trans h.hb g2)
   ·rw [hexe] at g2
    have := ((hex g).1 ⟨j, g2⟩).2.2.2
    rw [eex]; exact this
  rcases backO_get hn hlen hq with ⟨i, k, bx, h1, h2, rfl, rfl⟩ | ⟨i, bx, h1, h2, rfl, rfl⟩ | ⟨h1, h2, h3⟩
  ·have hsi : sigO ks L i = q := sigO_get h1
   have := back i bx (oldB s.b q) h2 (fun ho blk hblk => by
    rw [hsi, eex]
    obtain ⟨b0, g1, g2⟩ := hl q (List.mem_of_getElem? h1)
    obtain ⟨blk', e1, e2, e3, e4, e5, e6⟩ := BX.info (h.boxes q b0 g1) g2
    have hold : b0.old = true := by simpa [oldB, getR_some.2 g1] using ho
    rw [hrho i (List.getElem?_eq_some_iff.1 h1).1] at hblk
    simp only [handX, h1, Option.bind_some] at hblk
    rw [← hblk, e1]; exact e4 hold)
   rw [hsi] at this
   exact this
  ·have := back i bx false h2 (fun ho => by cases ho)
   rw [sigO_out h1] at this
   rw [hL]
   exact this
  ·have hm : ∀ row, row ∈ bq.rows → ∀ e, e ∈ row → ∀ i, e.ment i = true → X'.ρ i = X.ρ i := fun row hrow e he => hment e fun hx => ltRs_get (ltB_get (hf hx).2 h3) hrow he
   refine (h.boxes q bq h3).mono (fun L j hL => hL) hev (fun k hk => ?_) (fun r' o' k hk => ?_) (eρ q (.inl (by omega))) hm
   ·exact ⟨(fun e => by injection e with e; subst e; exact h1 hk), (fun r o e => by cases e)⟩
   ·exact ⟨(fun e => by cases e), (fun r o e => by injection e with e; subst e; exact h1 hk)⟩
 ·refine h.below.trans ⟨by rw [ew]; exact hbel.os, by rw [ew]; exact hbel.tape, by rw [ew]; exact hbel.output, by rw [ew]; exact hbel.size, fun b hb' hx => ?_, fun b hb' => by rw [ew]; exact hbel.sz b (Nat.lt_of_lt_of_le hb' h.hb)⟩
  rw [ew]
  refine hbel.block b (Nat.lt_of_lt_of_le hb' h.hb) (hnex b fun hp => ?_)
  rcases hp.2.2.2 with hp | ⟨j, hj⟩
  ·omega
  ·rw [h.mold.1] at hj; exact hx j hj
 ·have hnp : ¬ HP X G.base ks b := fun hp => by
   rcases hp.2.2.2 with hp | ⟨j, hj⟩
   ·omega
   ·rw [h.mold.1] at hj; exact hx j hj
  exact (eM1 b (Nat.lt_of_lt_of_le hb' h.hb) hnp o).trans (h.mold.2 b hb' hx o)
 ·exact resS (base := X.w.heap.size) hkeep ew (fun g hg => ⟨eo2 g (fun hc => by have := hc.1; omega), fun o hm => (eM2 g o).2 hm⟩) h.hb hν hr hval
theorem top_put {t : List DV} {d : Option Nat} {v : DV} : putD (putD t d .top) d v = putD t d v := by
 cases d with
 | none => rfl
 | some i =>
  apply List.ext_getElem?
  intro j
  simp only [putD, getElem?_setL]
  split
  ·cases t[j]? <;> rfl
  ·rfl
theorem call_go (h : Rel G X s a) {f : FuncId} {gr : Bool} {vs : List DV} {cargs : Array Value} (hrun : (execOp a.eval o).run P X.w = .ok (.enter f cargs) X.w) (hl : cargs.size = vs.length)
  (hv : ∀ (i : Nat) d v, vs[i]? = some d → cargs[i]? = some v → ∃ L, VRel X G.base L d v) (hfr : gr = true → (ltT s.b.length (putD s.t o.dst .top) && ltB s.b.length s.b) = true)
  (hK : callO P f gr vs s.b fun v b => K ⟨putD s.t o.dst v, b⟩) : o.wp P a X.w (Post G K) Q := by
 unfold callO at hK
 obtain ⟨hlive, hn⟩ := ksO_ok (b := s.b) (xs := vs)
 generalize ksO s.b vs = ks at *
 cases hargs : argsO s.b (nuO ks) vs with
 | none => simp [hargs] at hK
 | some args =>
  simp only [hargs] at hK
  obtain ⟨bs', r, ⟨hfn, hr, hlen0, hcall⟩, hgr, hK⟩ := hK
  obtain ⟨e1, e2⟩ := argsO_get hargs
  have hbl := (handO_get (b := s.b) (ν := nuO ks) (ks := ks)).1
  rw [hbl] at hlen0 hcall
  have h0 : Rel G X ⟨putD s.t o.dst .top, s.b⟩ a := by
   cases o.dst with
   | none => exact h
   | some i => exact h.weak i .top trivial
  unfold Oper.wp
  rw [hrun, Oper.upon_enter]
  refine (hcall (handX X G.base ks) cargs (by omega) (hand_ok h hn hlive) fun i d v hd hvv => ?_).mono ?_
  ·have hi : i < vs.length := by rw [← e1]; exact (List.getElem?_eq_some_iff.1 hd).1
   obtain ⟨L, hvr⟩ := hv i vs[i] v (by simp [hi]) hvv
   rcases e2 i vs[i] d (by simp [hi]) hd with ⟨z, g1, rfl⟩ | ⟨g1, rfl⟩
   ·exact frz h hvr g1
   ·refine VRel.tr (X := X) (X' := handX X G.base ks) (base := G.base) (base' := X.w.heap.size) (fun L L' => relO ks L = some L') (nuO ks) (fun L L' j e => by simp only [relO]; rw [e]; rfl) (Keeps.refl _ _) rfl
     (fun g L L' hL h1 h2 h3 h4 => ⟨by
      simp only [handX]
      rw [if_pos ⟨h4, ⟨L, L', h1, hL⟩, h3, h2⟩, h1]; exact hL, .inr ⟨ks.length + g, handX_of ⟨h4, ⟨L, L', h1, hL⟩, h3, h2⟩⟩, h3⟩) (fun T e => ?_) (fun j j' hj => handX_nu hj) hvr
    rw [e] at g1; simp [DV.isRefF] at g1
  ·rintro e w' ⟨v, X1, rfl, rfl, hback⟩
   obtain ⟨q1, q2⟩ := back_ok h0 hn hlive hlen0 (fun hx => by
    rcases hgr with hgr | hgr
    ·have := hfr hgr
     simpa [Bool.and_eq_true] using this
    ·omega) hr hback (o.dst.getD 0)
   have h2 := q1.put (d := o.dst) (v := resD (nuB ks s.b.length bs'.length) r) (u := v) (fun j hj => by
    have e : o.dst.getD 0 = j := by rw [hj]; rfl
    rw [e] at q2 ⊢; exact q2)
   exact ⟨_, backX X X1 G.base ks s.b.length bs'.length (o.dst.getD 0), by simpa [top_put] using h2, rfl, hK⟩
theorem s_callo (h : Rel G X s a) {f : FuncId} {gr : Bool} {xs : Array Operand} {ts : Array TypeId} {os : List O} (ho : o.op = .call { callee := .value (.func f), args := xs, argTypes := ts })
  (hl : os.length = xs.size) (hos : ∀ (k : Nat) x oo, xs.toList[k]? = some x → os[k]? = some oo → OT x oo) (hfr : gr = true → (ltT s.b.length (putD s.t o.dst .top) && ltB s.b.length s.b) = true)
  (hK : semO P (.callo f gr) (os.map (O.val s.t)) s.b fun v b => K ⟨putD s.t o.dst v, b⟩) : o.wp P a X.w (Post G K) Q := by
 simp only [semO] at hK
 have hfn : FnOK P f := by
  unfold callO at hK
  split at hK
  ·obtain ⟨_, _, ⟨hfn, _⟩, _⟩ := hK; exact hfn
  ·exact hK.elim
 refine call_go h (cargs := xs.map a.eval) (by simp [execOp, ho, resolve, Deferred.ofValue, invoke, Act.eval, run_call hfn]) (by simp [hl]) (fun i d v hd hv => ?_) hfr hK
 rw [Array.getElem?_map] at hv
 cases hx : xs[i]? with
 | none => rw [hx] at hv; simp at hv
 | some y =>
  rw [hx] at hv
  simp only [Option.map_some, Option.some.injEq] at hv
  subst hv
  have hio : i < os.length := by rw [hl]; exact (Array.getElem?_eq_some_iff.1 hx).1
  have := h.opnd (hos i y os[i] (by simpa using hx) (by simp [hio]))
  rw [List.getElem?_map] at hd
  simp [hio] at hd
  subst hd
  exact this
theorem s_callvo (h : Rel G X s a) {gr : Bool} {x : Operand} {ox : O} (hx : OT x ox) {xs : Array Operand} {ts : Array TypeId} {os : List O} (ho : o.op = .call { callee := .value x, args := xs, argTypes := ts })
  (hl : os.length = xs.size) (hos : ∀ (k : Nat) x oo, xs.toList[k]? = some x → os[k]? = some oo → OT x oo) (hfr : gr = true → (ltT s.b.length (putD s.t o.dst .top) && ltB s.b.length s.b) = true)
  (hK : semO P (.callvo gr) ((ox :: os).map (O.val s.t)) s.b fun v b => K ⟨putD s.t o.dst v, b⟩) : o.wp P a X.w (Post G K) Q := by
 obtain ⟨_, rx⟩ := h.opnd hx
 simp only [List.map_cons] at hK
 generalize ox.val s.t = vx at *
 cases vx with
 | fn f caps =>
  simp only [semO] at hK
  have hfn : FnOK P f := by
   unfold callO at hK
   split at hK
   ·obtain ⟨_, _, ⟨hfn, _⟩, _⟩ := hK; exact hfn
   ·exact hK.elim
  obtain ⟨vs, ev, hvs, hcap⟩ := rx
  have hcd : ∀ (l : List CapV), (capsD l).length = l.length := by intro l; induction l with | nil => rfl | cons c l ih => cases c <;> simp [capsD, ih]
  have hcg : ∀ (l : List CapV) (i : Nat) d, (capsD l)[i]? = some d → ∃ c, l[i]? = some c ∧ ((∃ x, c = .p x ∧ d = .p x) ∨ ∃ k sz r o, c = .addr k sz r o ∧ d = .addr k sz r o) := by
   intro l
   induction l with
   | nil => intro i d hd; simp [capsD] at hd
   | cons c l ih =>
    intro i d hd
    cases i with
    | zero => cases c <;> simp [capsD] at hd <;> subst hd <;> simp
    | succ i => cases c <;> simp [capsD] at hd <;> simpa using ih i d hd
  refine call_go h (cargs := xs.map a.eval ++ vs) (by
   have ex : a.eval x = .func (.func f) #[] vs := ev
   simp [execOp, ho, resolve, ex, Deferred.ofValue, invoke, run_call hfn]) (by simp [hl, hcd, hvs]) (fun i d v hd hv => ?_) hfr hK
  rw [List.getElem?_append] at hd
  rw [Array.getElem?_append] at hv
  simp only [List.length_map, hl] at hd
  simp only [Array.size_map] at hv
  split at hd
  ·rename_i hi
   rw [if_pos hi, Array.getElem?_map] at hv
   cases hx' : xs[i]? with
   | none => rw [hx'] at hv; simp at hv
   | some y =>
    rw [hx'] at hv
    simp only [Option.map_some, Option.some.injEq] at hv
    subst hv
    have hio : i < os.length := by rw [hl]; exact hi
    have := h.opnd (hos i y os[i] (by simpa using hx') (by simp [hio]))
    rw [List.getElem?_map] at hd
    simp [hio] at hd
    subst hd
    exact this
  ·rename_i hi
   rw [if_neg hi] at hv
   obtain ⟨c, hc, hcc⟩ := hcg caps _ d hd
   have := hcap _ c v hc hv
   rcases hcc with ⟨x, rfl, rfl⟩ | ⟨k, sz, r, o, rfl, rfl⟩
   ·exact ⟨.tmp 0, this⟩
   ·exact ⟨.tmp 0, this⟩
 | _ => simp [semO] at hK
theorem s_eqp (h : Rel G X s a) {neq : Bool} {t t' : TypeId} {x y : Operand} {ox oy : O} (hx : OT x ox) (hy : OT y oy) (ho : o.op = .binOp (if neq then .neq else .eql) t x y t') (hu : P.underlying t = some (.pointer (P.pointee t)))
  (hK : semO P (.eqp neq) [ox.val s.t, oy.val s.t] s.b fun v b => K ⟨putD s.t o.dst v, b⟩) : o.wp P a X.w (Post G K) Q := by
 obtain ⟨_, rx⟩ := h.opnd hx
 obtain ⟨_, ry⟩ := h.opnd hy
 generalize ox.val s.t = vx at *
 generalize oy.val s.t = vy at *
 have go : ∀ p : Option Addr, a.eval x = .pointer p → a.eval y = .pointer none → K ⟨putD s.t o.dst (.p (.bool (if neq then !p.isNone else p.isNone))), s.b⟩ → o.wp P a X.w (Post G K) Q := by
  intro p ex ey hKK
  refine wp_pv (z := .bool _) h ?_ (.bool _) hKK
  cases neq with
  | true => simp [execOp, ho, ex, ey, eqGuard, run_neq_pointer_nil X.w t p hu]
  | false => simp [execOp, ho, ex, ey, eqGuard, run_eql_pointer_nil X.w t p hu]
 unfold semO at hK
 split at hK
 all_goals first
  | exact hK.elim
  | (rename_i e1 e2; cases e1; done)
  | (rename_i e2; cases e2; done)
  | skip
 ·rename_i neq' x' e1 e2
  injection e1 with e1
  injection e2 with e2 e3
  injection e3 with e3 _
  subst e1; subst e2; subst e3
  have ey : a.eval y = .pointer none := by
   generalize a.eval y = u at ry
   have ry' : Flat X.M X.w (.atom (.pointer none)) u := ry
   cases ry' with
   | atom v h => rfl
  split at hK
  ·obtain ⟨blk, _, ex⟩ := rx
   exact go _ ex ey (by simpa using hK)
  ·have ex : a.eval x = .pointer none := by
    generalize a.eval x = u at rx
    have rx' : Flat X.M X.w (.atom (.pointer none)) u := rx
    cases rx' with
    | atom v h => rfl
   exact go _ ex ey (by simpa using hK)
  ·have rx' : Flat X.M X.w (.ptr _ _) (a.eval x) := rx
   generalize hv : a.eval x = v at *
   cases rx' with
   | ptr _ _ b n0 cv hc h1 hr => exact go _ rfl ey (by simpa using hK)
  ·obtain ⟨b0, ex⟩ := rx
   exact go _ ex ey (by simpa using hK)
  ·exact hK.elim
end
end Go.Proofs.YtnjphclbpgajpaaGreatDoor.Vc
namespace Go.Proofs.YtnjphclbpgajpaaGreatDoor.Vc
open Go.RowKit
variable {P : Program}
theorem rowsD_eq (l : List PV) : rowsD l = l.map fun x => (rowCells x).map DV.p := by induction l with | nil => rfl | cons x xs ih => simp [rowsD, ih]
theorem copiesR_eq' (rs : List (List DV)) : copiesR rs = rs.map fun r => r.map DV.copy := by induction rs with | nil => rfl | cons r rs ih => simp [copiesR, ih, copies_eq]
def Cx.push (X : Cx) (k : Nat) (w' : World) : Cx :=
 {ρ := fun j => if j = k then some X.w.heap.size else X.ρ j
  own := fun g => if g = X.w.heap.size then some (.box k) else X.own g
  M := fun b o => if b = X.w.heap.size then True else X.M b o
  w := w'
  ex := X.ex }
theorem ev_push {X : Cx} {k : Nat} {w' : World} {cs : Array Value} {ty : TypeId} (h : NewBlock X.w w' cs ty) : Ev (fun _ => True) X (X.push k w') := by
 refine ⟨fun b o v hM hc => ?_, fun g L hg _ hlt => ⟨?_, ?_, fun o hM => ?_⟩, rfl, .below fun b hb => (h.below (Nat.le_refl _)).block b hb⟩
 ·have hlt : b < X.w.heap.size := World.block_lt_of_cell? _ _ hc
  refine ⟨(World.cell?_of_block (w := X.w) ((h.below (Nat.le_refl _)).block b hlt)).trans hc, ?_⟩
  show ¬ (if b = X.w.heap.size then _ else X.M b o)
  rw [if_neg (by omega)]; exact hM
 ·show (if g = X.w.heap.size then _ else X.own g) = _
  rw [if_neg (by omega)]; exact hg
 ·exact (h.below (Nat.le_refl _)).block g hlt
 ·show (if g = X.w.heap.size then _ else X.M g o)
  rw [if_neg (by omega)]; exact hM
theorem app_get {b : List (Option Box)} {x : Option Box} {j : Nat} {y : Option Box} (h : (b ++ [x])[j]? = some y) : (j = b.length ∧ y = x) ∨ (j < b.length ∧ b[j]? = some y) := by
 rw [List.getElem?_append] at h
 split at h
 ·exact .inr ⟨by assumption, h⟩
 ·rename_i hj
  have := (List.getElem?_eq_some_iff.1 h).1
  simp at this
  have e : j - b.length = 0 := by omega
  rw [e] at h
  simp at h
  exact .inl ⟨by omega, h.symm⟩
section
variable {G : Gl} {X : Cx} {s : St} {a : Act} {Q : Exit → Act → World → Prop} {o : Oper} {K : St → Prop}
theorem Rel.pushBox (h : Rel G X s a) {w' : World} {cs : Array Value} {ty : TypeId} (hn : NewBlock X.w w' cs ty) (bx : Box) (hT : ltT s.b.length s.t = true) (hB : ltB s.b.length s.b = true)
  (hsize : bx.rows.length * bx.size ≤ cs.size) (hwidth : ∀ row, row ∈ bx.rows → row.length = bx.size)
  (hcells : ∀ (r o : Nat) row e u, bx.rows[r]? = some row → row[o]? = some e → cs[r * bx.size + o]? = some u → VRel (X.push s.b.length w') G.base (.cell s.b.length r o) e u ∧ u.oneCell' = true)
  (hlive : bx.live = true) (hold : bx.old = false) (hne : bx.size ≠ 0) : Rel G (X.push s.b.length w') ⟨s.t, s.b ++ [some bx]⟩ a := by
 have hev := ev_push (k := s.b.length) hn
 generalize hX : X.push s.b.length w' = X' at *
 have ew : X'.w = w' := by subst hX; rfl
 have eex : X'.ex = X.ex := by subst hX; rfl
 have hρ : ∀ j, j < s.b.length → X'.ρ j = X.ρ j := by subst hX; intro j hj; show (if j = s.b.length then _ else X.ρ j) = _; rw [if_neg (by omega)]
 have hwh : w'.heap.size = X.w.heap.size + 1 := by rw [hn.heap]; simp
 refine ⟨h.defers, h.size, fun i e he => ?_, fun j bx' hj => ?_, h.below.trans (.of (by rw [ew]; exact hn.below h.hb)), by rw [ew, hwh]; exact Nat.le_succ_of_le h.hb, eex.trans h.mold.1, fun b hb hx o => ?_⟩
 ·exact (h.tmps i e he).mono (fun _ _ h => h) hev trivial fun j hj => hρ j (ltD_ment (ltT_get hT (List.mem_of_getElem? he)) hj)
 ·rcases app_get hj with ⟨rfl, e⟩ | ⟨hlt, hj⟩
  ·injection e with e
   subst e
   refine BX.cell (blk := X.w.heap.size) (cs := cs) (ty := ty) hne ⟨by subst hX; simp [Cx.push], by subst hX; simp [Cx.push], ⟨.inl h.hb, fun h => by rw [hold] at h; cases h⟩, by rw [ew]; exact hn.new, hsize, hwidth, hcells, fun _ o => by subst hX; simp [Cx.push], fun hl => by rw [hlive] at hl; cases hl⟩
  ·exact (h.boxes j bx' hj).mono (fun _ _ h => h) hev trivial (fun _ _ => trivial) (hρ j hlt) fun row hrow e he i hi => hρ i (ltD_ment (ltRs_get (ltB_get hB hj) hrow he) hi)
 ·have : b < X.w.heap.size := Nat.lt_of_lt_of_le hb h.hb
  have e : X'.M b o ↔ X.M b o := by subst hX; show (if b = X.w.heap.size then True else X.M b o) ↔ _; rw [if_neg (by omega)]
  exact e.trans (h.mold.2 b hb hx o)
structure Shows (X : Cx) (base size : Nat) (new : List (List DV)) (news : List Value) (v : Value) : Prop where
 width : ∀ row, row ∈ new → row.length = size
 len : news.length = new.length * size
 form : (new = [] ∧ ∃ b2 c2, v = .slice b2 0 c2) ∨ ∃ b o cap, v = .slice (some ⟨b, o, none⟩) new.length cap ∧ ∀ j u, news[j]? = some u → X.w.cell? ⟨b, o + j, none⟩ = some u
 cells : ∀ (i j : Nat) row d, new[i]? = some row → row[j]? = some d → ∃ u, news[i * size + j]? = some u ∧ (∀ L, VRel X base L d u) ∧ u.oneCell' = true
 one : ∀ u, u ∈ news → u.oneCell' = true
theorem BoxRel.shows {k : Nat} {bx : Box} {base blk : Nat} {cs : Array Value} {ty : TypeId} (hb : BoxRel X base k bx blk cs ty) (hpos : bx.size ≠ 0) (cap : Nat) :
  Shows X base bx.size (copiesR bx.rows) (cs.toList.take (bx.rows.length * bx.size)) (.slice (some ⟨blk, 0, none⟩) bx.rows.length cap) := by
 have hsz := hb.size
 have hget : ∀ (i j : Nat) row d, bx.rows[i]? = some row → row[j]? = some d → ∃ u, (cs.toList.take (bx.rows.length * bx.size))[i * bx.size + j]? = some u ∧ VRel X base (.cell k i j) d u ∧ u.oneCell' = true := by
  intro i j row d hr hd
  have hil := (List.getElem?_eq_some_iff.1 hr).1
  have hjl := (List.getElem?_eq_some_iff.1 hd).1
  rw [hb.width row (List.mem_of_getElem? hr)] at hjl
  have hlt : i * bx.size + j < bx.rows.length * bx.size := by
   have : (i + 1) * bx.size ≤ bx.rows.length * bx.size := Nat.mul_le_mul_right _ hil
   rw [Nat.add_mul] at this; omega
  have hu : cs[i * bx.size + j]? = some cs[i * bx.size + j] := by simp [show i * bx.size + j < cs.size by omega]
  obtain ⟨f1, f2⟩ := hb.cells i j row d _ hr hd hu
  exact ⟨_, by rw [List.getElem?_take, if_pos hlt]; simpa using hu, f1, f2⟩
 refine ⟨fun row hrow => ?_, by simp [copiesR_eq']; omega, .inr ⟨blk, 0, cap, by simp [copiesR_eq'], fun j u hj => ?_⟩, fun i j row d hr hd => ?_, fun u hu => ?_⟩
 ·rw [copiesR_eq'] at hrow
  obtain ⟨row0, hr0, rfl⟩ := List.mem_map.1 hrow
  simpa using hb.width row0 hr0
 ·rw [List.getElem?_take] at hj
  split at hj
  ·rw [Nat.zero_add, heap_cell hb.heap]; simpa using hj
  ·cases hj
 ·rw [copiesR_eq', List.getElem?_map] at hr
  cases hr0 : bx.rows[i]? with
  | none => rw [hr0] at hr; simp at hr
  | some row0 =>
   rw [hr0] at hr
   simp only [Option.map_some, Option.some.injEq] at hr
   subst hr
   rw [List.getElem?_map] at hd
   cases hd0 : row0[j]? with
   | none => rw [hd0] at hd; simp at hd
   | some d0 =>
    rw [hd0] at hd
    simp only [Option.map_some, Option.some.injEq] at hd
    subst hd
    obtain ⟨u, g1, g2, g3⟩ := hget i j row0 d0 hr0 hd0
    exact ⟨u, g1, fun L => g2.copy L, g3⟩
 ·obtain ⟨q, hq⟩ := List.getElem?_of_mem hu
  have hq' := hq
  rw [List.getElem?_take] at hq'
  split at hq'
  ·rename_i hlt
   have hpos : 0 < bx.size := Nat.pos_of_ne_zero hpos
   have hkr : q / bx.size < bx.rows.length := (Nat.div_lt_iff_lt_mul hpos).2 hlt
   have hrow : bx.rows[q / bx.size]? = some bx.rows[q / bx.size] := by simp [hkr]
   have hm : q % bx.size < bx.rows[q / bx.size].length := by rw [hb.width _ (List.mem_of_getElem? hrow)]; exact Nat.mod_lt _ hpos
   obtain ⟨u', g1, g2, g3⟩ := hget (q / bx.size) (q % bx.size) _ bx.rows[q / bx.size][q % bx.size] hrow (by simp [hm])
   have e : q / bx.size * bx.size + q % bx.size = q := by rw [Nat.mul_comm]; exact Nat.div_add_mod q bx.size
   rw [e, hq] at g1
   injection g1 with g1
   rw [g1]; exact g3
  ·cases hq'
theorem appRows_rel (h : Rel G X s a) {size : Nat} {y : DV} {v : Value} {L : Loc} (hv : VRel X G.base L y v) {new : List (List DV)} (hn : appRows s.b size y = some new) : ∃ news, Shows X G.base size new news v := by
 have fz : ∀ {y : DV}, VRel X G.base L y v → (match y.frz s.b with | some (.sl sz _ rows) => if sz = size ∨ rows = [] then some (rowsD rows) else none | _ => none) = some new → ∃ news, Shows X G.base size new news v := by
  intro y hv hn
  split at hn
  ·rename_i sz nl rows hf
   split at hn
   ·rename_i hsz
    injection hn with hn
    subst hn
    obtain ⟨hs, vs, hl, hform, hr, hone⟩ := (frz h hv hf).list
    by_cases hr0 : rows = []
    ·subst hr0
     refine ⟨[], fun row hrow => by simp [rowsD] at hrow, by simp [rowsD], ?_, fun i j row d hr => by simp [rowsD] at hr, fun u hu => by simp at hu⟩
     rcases hform with ⟨_, hf⟩ | ⟨b, o, cap, e, _⟩
     ·exact .inl ⟨rfl, hf⟩
     ·exact .inl ⟨rfl, _, _, e⟩
    ·have : sz = size := hsz.resolve_right hr0
     subst this
     refine ⟨vs, fun row hrow => ?_, by simp [rowsD_eq, hl], ?_, fun i j row d hri hdj => ?_, hone⟩
     ·rw [rowsD_eq] at hrow
      obtain ⟨x, hx, rfl⟩ := List.mem_map.1 hrow
      simpa using (hs x hx).1
     ·rcases hform with ⟨e, _⟩ | ⟨b, o, cap, e, hc⟩
      ·exact absurd e hr0
      ·exact .inr ⟨b, o, cap, by simp [rowsD_eq, e], hc⟩
     ·rw [rowsD_eq, List.getElem?_map] at hri
      cases hx : rows[i]? with
      | none => rw [hx] at hri; simp at hri
      | some x =>
       rw [hx] at hri
       simp only [Option.map_some, Option.some.injEq] at hri
       subst hri
       rw [List.getElem?_map] at hdj
       cases hc : (rowCells x)[j]? with
       | none => rw [hc] at hdj; simp at hdj
       | some c =>
        rw [hc] at hdj
        simp only [Option.map_some, Option.some.injEq] at hdj
        subst hdj
        obtain ⟨u, hu, hf⟩ := hr i j x c hx hc
        exact ⟨u, hu, fun _ => hf, hone u (List.mem_of_getElem? hu)⟩
   ·cases hn
  ·cases hn
 cases y with
 | bs k sz ag lo n =>
  simp only [appRows] at hn
  cases hb : getB s.b k with
  | none => rw [hb] at hn; cases hn
  | some bx =>
   rw [hb] at hn
   simp only at hn
   split at hn
   ·rename_i hc
    obtain ⟨c1, rfl, c3, rfl, rfl⟩ := hc
    injection hn with hn
    subst hn
    obtain ⟨blk, cap, e1, e2, e3, e5, e4⟩ := hv
    obtain ⟨blk', cs, ty, hbx⟩ := h.cbox (getB_some hb) (getB_ne hb)
    have : blk' = blk := by have := hbx.ρ; rw [e1] at this; injection this with h; exact h.symm
    subst this
    have := hbx.shows (getB_ne hb) cap
    rw [c3] at this
    exact ⟨_, by rw [e4, Nat.zero_mul]; exact this⟩
   ·cases hn
 | top => exact fz (y := .top) hv hn
 | p x => exact fz (y := .p x) hv hn
 | ow a b c => exact fz (y := .ow a b c) hv hn
 | tup ds => exact fz (y := .tup ds) hv hn
 | addr a1 a2 a3 a4 => exact fz (y := .addr a1 a2 a3 a4) hv hn
 | fn f c => exact fz (y := .fn f c) hv hn
 | mh k => exact fz (y := .mh k) hv hn
 | ob T => exact fz (y := .ob T) hv hn
 | pk o => exact fz (y := .pk o) hv hn
 | agd cs => exact fz (y := .agd cs) hv hn
theorem shows_ment (hB : ltB s.b.length s.b = true) {size : Nat} {y : DV} {new : List (List DV)} (hn : appRows s.b size y = some new) {row : List DV} (hr : row ∈ new) {d : DV} (hd : d ∈ row) {k : Nat} (hk : d.ment k = true) : k < s.b.length := by
 have fz : ∀ {y : DV}, (match y.frz s.b with | some (.sl sz _ rows) => if sz = size ∨ rows = [] then some (rowsD rows) else none | _ => none) = some new → k < s.b.length := by
  intro y hn
  split at hn
  ·split at hn
   ·injection hn with hn
    subst hn
    rw [rowsD_eq] at hr
    obtain ⟨x, _, rfl⟩ := List.mem_map.1 hr
    obtain ⟨c, _, rfl⟩ := List.mem_map.1 hd
    simp [DV.ment] at hk
   ·cases hn
  ·cases hn
 cases y with
 | bs q sz ag lo n =>
  simp only [appRows] at hn
  cases hb : getB s.b q with
  | none => rw [hb] at hn; cases hn
  | some bx =>
   rw [hb] at hn
   simp only at hn
   split at hn
   ·injection hn with hn
    subst hn
    rw [copiesR_eq'] at hr
    obtain ⟨row0, hr0, rfl⟩ := List.mem_map.1 hr
    obtain ⟨d0, hd0, rfl⟩ := List.mem_map.1 hd
    rw [ment_copy] at hk
    exact ltD_ment (ltRs_get (ltB_get hB (getB_some hb)) hr0 hd0) hk
   ·cases hn
 | top => exact fz (y := .top) hn
 | p x => exact fz (y := .p x) hn
 | ow a b c => exact fz (y := .ow a b c) hn
 | tup ds => exact fz (y := .tup ds) hn
 | addr a1 a2 a3 a4 => exact fz (y := .addr a1 a2 a3 a4) hn
 | fn f c => exact fz (y := .fn f c) hn
 | mh k => exact fz (y := .mh k) hn
 | ob T => exact fz (y := .ob T) hn
 | pk o => exact fz (y := .pk o) hn
 | agd cs => exact fz (y := .agd cs) hn
theorem rows_get2 {size : Nat} {r1 r2 : List (List DV)} {v1 v2 : List Value} {X : Cx} {base : Nat} (h1 : v1.length = r1.length * size) (hw : ∀ row, row ∈ r1 → row.length = size)
  (f1 : ∀ (i j : Nat) row d, r1[i]? = some row → row[j]? = some d → ∃ u, v1[i * size + j]? = some u ∧ (∀ L, VRel X base L d u) ∧ u.oneCell' = true)
  (f2 : ∀ (i j : Nat) row d, r2[i]? = some row → row[j]? = some d → ∃ u, v2[i * size + j]? = some u ∧ (∀ L, VRel X base L d u) ∧ u.oneCell' = true) :
  ∀ (i j : Nat) row d, (r1 ++ r2)[i]? = some row → row[j]? = some d → ∃ u, (v1 ++ v2)[i * size + j]? = some u ∧ (∀ L, VRel X base L d u) ∧ u.oneCell' = true := by
 intro i j row c hr hc
 rw [List.getElem?_append] at hr
 by_cases hi : i < r1.length
 ·rw [if_pos hi] at hr
  obtain ⟨u, hu, hf⟩ := f1 i j row c hr hc
  exact ⟨u, by rw [List.getElem?_append, if_pos (List.getElem?_eq_some_iff.1 hu).1]; exact hu, hf⟩
 ·rw [if_neg hi] at hr
  obtain ⟨u, hu, hf⟩ := f2 _ j row c hr hc
  refine ⟨u, ?_, hf⟩
  have : r1.length * size ≤ i * size := Nat.mul_le_mul_right _ (by omega)
  rw [List.getElem?_append, if_neg (by rw [h1]; omega), h1]
  have e : i * size + j - r1.length * size = (i - r1.length) * size + j := by rw [Nat.sub_mul]; omega
  rw [e]; exact hu
theorem app_new (h : Rel G X s a) (hT : ltT s.b.length (putD s.t o.dst .top) = true) (hB : ltB s.b.length s.b = true) {size : Nat} (hne : size ≠ 0) {rows : List (List DV)} {vs : List Value} {rest : Array Value} {w' : World} {ty : TypeId} {cap : Nat} {ag : Bool}
  (hn : NewBlock X.w w' (vs.toArray ++ rest) ty) (hw : ∀ row, row ∈ rows → row.length = size) (hl : vs.length = rows.length * size) (hcs : cap * size ≤ vs.length + rest.size) (hcap : rows.length ≤ cap) (hmax : cap ≤ maxLen)
  (hc : ∀ (i j : Nat) row d, rows[i]? = some row → row[j]? = some d → ∃ u, vs[i * size + j]? = some u ∧ (∀ L, VRel X G.base L d u) ∧ u.oneCell' = true) (hm : ∀ row, row ∈ rows → ∀ d, d ∈ row → ∀ k, d.ment k = true → k < s.b.length)
  (hrun : (execOp a.eval o).run P X.w = .ok (.value (.slice (some ⟨X.w.heap.size, 0, none⟩) rows.length cap)) w') {b' : List (Option Box)} (hb' : ∀ (j : Nat) bx, b'[j]? = some (some bx) → (s.b ++ [some ⟨true, size, rows, false⟩])[j]? = some (some bx))
  (hK : K ⟨putD s.t o.dst (.bs s.b.length size ag 0 rows.length), b'⟩) : o.wp P a X.w (Post G K) Q := by
 have h0 : Rel G X ⟨putD s.t o.dst .top, s.b⟩ a := by
  cases o.dst with
  | none => exact h
  | some i => exact h.weak i .top trivial
 have hev := ev_push (k := s.b.length) hn
 have h1 := h0.pushBox (s := ⟨putD s.t o.dst .top, s.b⟩) hn ⟨true, size, rows, false⟩ hT hB (by simp [hl]) hw (fun r i row e u hr he hu => by
  obtain ⟨u', g1, g2, g3⟩ := hc r i row e hr he
  have : u = u' := by
   have hlt := (List.getElem?_eq_some_iff.1 g1).1
   rw [Array.getElem?_append, if_pos (by simpa using hlt)] at hu
   rw [show vs.toArray[r * size + i]? = some u' by simpa using g1] at hu
   injection hu with hu; exact hu.symm
  subst this
  refine ⟨(g2 _).mono (fun _ _ h => h) hev trivial fun j hj => ?_, g3⟩
  have := hm row (List.mem_of_getElem? hr) e (List.mem_of_getElem? he) j hj
  show (if j = s.b.length then _ else X.ρ j) = _
  rw [if_neg (by omega)]) rfl rfl hne
 simp only at h1
 have h2 : Rel G (X.push s.b.length w') ⟨putD s.t o.dst .top, b'⟩ a := ⟨h1.defers, h1.size, h1.tmps, fun j bx hj => h1.boxes j bx (hb' j bx hj), h1.below, h1.hb, h1.mold⟩
 unfold Oper.wp
 rw [hrun, Oper.upon_value]
 have h3 := h2.put (d := o.dst) (v := .bs s.b.length size ag 0 rows.length) (u := .slice (some ⟨X.w.heap.size, 0, none⟩) rows.length cap) (fun j _ => ⟨X.w.heap.size, cap, by simp [Cx.push], hcap, hmax, ⟨_, _, hn.new, by simpa using hcs⟩, by simp⟩)
 exact ⟨_, _, by simpa [top_put] using h3, rfl, hK⟩
theorem app_room (h : Rel G X s a) (hT : ltT s.b.length (putD s.t o.dst .top) = true) (hB : ltB s.b.length s.b = true) {k : Nat} {bx : Box} (hk : s.b[k]? = some (some bx)) (hlive : bx.live = true) (hne : bx.size ≠ 0)
  {blk cap : Nat} {cs cs' : Array Value} {ty ty' : TypeId} (hb : BoxRel X G.base k bx blk cs ty) {w' : World} (hw' : w'.heap[blk]? = some (.cells cs' ty' (0, 0))) (hoth : ∀ b, b ≠ blk → w'.heap[b]? = X.w.heap[b]?)
  (hos : w'.os = X.w.os) (htape : w'.tape = X.w.tape) (hout : w'.output = X.w.output) (hhs : w'.heap.size = X.w.heap.size) (hcs : cs'.size = cs.size) {new : List (List DV)} {news : List Value}
  (hold : ∀ i, i < bx.rows.length * bx.size → cs'[i]? = cs[i]?) (hnew : ∀ j u, news[j]? = some u → cs'[bx.rows.length * bx.size + j]? = some u) (hw : ∀ row, row ∈ new → row.length = bx.size) (hl : news.length = new.length * bx.size)
  (hc : ∀ (i j : Nat) row d, new[i]? = some row → row[j]? = some d → ∃ u, news[i * bx.size + j]? = some u ∧ (∀ L, VRel X G.base L d u) ∧ u.oneCell' = true) (hm : ∀ row, row ∈ new → ∀ d, d ∈ row → ∀ k, d.ment k = true → k < s.b.length)
  (hcap : bx.rows.length + new.length ≤ cap) (hmax : cap ≤ maxLen) (hcc : cap * bx.size ≤ cs.size) {ag : Bool}
  (hrun : (execOp a.eval o).run P X.w = .ok (.value (.slice (some ⟨blk, 0, none⟩) (bx.rows.length + new.length) cap)) w')
  (hK : K ⟨putD s.t o.dst (.bs s.b.length bx.size ag 0 (bx.rows.length + new.length)), setL s.b k none ++ [some ⟨true, bx.size, copiesR bx.rows ++ new, false⟩]⟩) : o.wp P a X.w (Post G K) Q := by
 have hkl : k < s.b.length := (List.getElem?_eq_some_iff.1 hk).1
 generalize hX : ({ ρ := fun j => if j = s.b.length then some blk else X.ρ j, own := fun g => if g = blk then some (.box s.b.length) else X.own g, M := X.M, w := w', ex := X.ex } : Cx) = X'
 have ew : X'.w = w' := by subst hX; rfl
 have eM : X'.M = X.M := by subst hX; rfl
 have eex : X'.ex = X.ex := by subst hX; rfl
 have eρL : X'.ρ s.b.length = some blk := by subst hX; simp
 have hρ : ∀ j, j < s.b.length → X'.ρ j = X.ρ j := by subst hX; intro j hj; show (if j = s.b.length then _ else X.ρ j) = _; rw [if_neg (by omega)]
 have eob : X'.own blk = some (.box s.b.length) := by subst hX; simp
 have eo : ∀ g, g ≠ blk → X'.own g = X.own g := by subst hX; intro g hg; simp [hg]
 have hszA : ∀ g, SzAt X.w X'.w g := by rw [ew]; exact SzAt.heap hb.heap hw' hcs fun b hb _ => hoth b hb
 have hev : Ev (fun L => L ≠ .box k) X X' := by
  refine ⟨fun b i u hM hcv => ?_, fun g L hg hS _ => ?_, eex, hszA⟩
  ·have hbne : b ≠ blk := fun e => by subst e; exact hM (hb.live hlive i)
   exact ⟨by rw [ew]; exact (World.cell?_of_block (w := X.w) (hoth b hbne)).trans hcv, by rw [eM]; exact hM⟩
  ·have hgne : g ≠ blk := fun e => by subst e; rw [hb.own] at hg; injection hg with hg; exact hS hg.symm
   exact ⟨(eo g hgne).trans hg, by rw [ew]; exact hoth g hgne, fun _ h => by rw [eM]; exact h⟩
 have h0 : Rel G X ⟨putD s.t o.dst .top, s.b⟩ a := by
  cases o.dst with
  | none => exact h
  | some i => exact h.weak i .top trivial
 have hold0 := hb.shows hne cap
 have hall := rows_get2 hold0.len hold0.width hold0.cells hc
 have hnsz : (copiesR bx.rows).length = bx.rows.length := by simp [copiesR_eq']
 have h1 : Rel G X' ⟨putD s.t o.dst .top, setL s.b k none ++ [some ⟨true, bx.size, copiesR bx.rows ++ new, false⟩]⟩ a := by
  refine ⟨h0.defers, h0.size, fun i e he => ?_, fun j bx' hj => ?_, h0.below.trans ⟨by rw [ew]; exact hos, by rw [ew]; exact htape, by rw [ew]; exact hout, by rw [ew, hhs]; exact Nat.le_refl _, fun r hr hx => by
   rw [ew]; exact hoth r (fun e => by subst e; exact hb.hbase.1.elim (fun h => by omega) (fun ⟨j', h'⟩ => hx _ (by rw [← h.mold.1]; exact h'))), fun _ _ => hszA _⟩, by rw [ew, hhs]; exact h.hb, eex.trans h0.mold.1, fun b hb' hx o => by rw [eM]; exact h0.mold.2 b hb' hx o⟩
  ·exact (h0.tmps i e he).mono (fun _ _ _ h => by cases h) hev (by simp) fun j hj => hρ j (ltD_ment (ltT_get hT (List.mem_of_getElem? he)) hj)
  ·rcases app_get hj with ⟨e, e'⟩ | ⟨hlt, hj⟩
   ·rw [setL_length] at e
    subst e
    injection e' with e'
    subst e'
    refine BX.cell (blk := blk) (cs := cs') (ty := ty') hne ⟨eρL, eob, ⟨by rw [eex]; exact hb.hbase.1, fun h => by cases h⟩, by rw [ew]; exact hw', ?_, fun row hrow => ?_, fun r i row d u hr hd hu => ?_, fun _ o => by rw [eM]; exact hb.live hlive o, fun h => by cases h⟩
    ·rw [hcs, List.length_append, hnsz]; exact Nat.le_trans (Nat.mul_le_mul_right _ hcap) hcc
    ·rcases List.mem_append.1 hrow with hrow | hrow
     ·exact hold0.width row hrow
     ·exact hw row hrow
    ·obtain ⟨u', g1, g2, g3⟩ := hall r i row d hr hd
     have e : u = u' := by
      rw [List.getElem?_append] at g1
      split at g1
      ·rename_i hlt
       have hlt' : r * bx.size + i < bx.rows.length * bx.size := by rw [hold0.len, hnsz] at hlt; exact hlt
       rw [hold _ hlt'] at hu
       rw [List.getElem?_take, if_pos hlt'] at g1
       rw [show cs[r * bx.size + i]? = some u' by simpa using g1] at hu
       injection hu with hu; exact hu.symm
      ·rename_i hge
       rw [hold0.len, hnsz] at g1 hge
       have := hnew _ u' g1
       rw [show bx.rows.length * bx.size + (r * bx.size + i - bx.rows.length * bx.size) = r * bx.size + i by omega, hu] at this
       injection this
     subst e
     refine ⟨(g2 _).mono (fun _ _ _ h => by cases h) hev (by simp) fun j hj => hρ j ?_, g3⟩
     rcases List.mem_append.1 (List.mem_of_getElem? hr) with hrow | hrow
     ·rw [copiesR_eq'] at hrow
      obtain ⟨row0, hr0, rfl⟩ := List.mem_map.1 hrow
      obtain ⟨d0, hd0, rfl⟩ := List.mem_map.1 (List.mem_of_getElem? hd)
      rw [ment_copy] at hj
      exact ltD_ment (ltRs_get (ltB_get hB hk) hr0 hd0) hj
     ·exact hm row hrow d (List.mem_of_getElem? hd) j hj
   ·rw [setL_length] at hlt
    rw [getElem?_setL] at hj
    split at hj
    ·cases hb0 : s.b[j]? <;> rw [hb0] at hj <;> simp at hj
    ·rename_i hjk
     exact (h0.boxes j bx' hj).mono (fun _ _ _ h => by cases h) hev (by simp [hjk]) (fun _ _ => by simp) (hρ j hlt) fun row hrow e he i hi => hρ i (ltD_ment (ltRs_get (ltB_get hB hj) hrow he) hi)
 unfold Oper.wp
 rw [hrun, Oper.upon_value]
 have h3 := h1.put (d := o.dst) (v := .bs s.b.length bx.size ag 0 (bx.rows.length + new.length)) (u := .slice (some ⟨blk, 0, none⟩) (bx.rows.length + new.length) cap)
  (fun j _ => ⟨blk, cap, eρL, hcap, hmax, ⟨cs', ty', by rw [ew]; exact hw', by rw [hcs]; simpa using hcc⟩, by simp⟩)
 exact ⟨_, _, by simpa [top_put] using h3, ew, hK⟩
theorem s_appd (h : Rel G X s a) {size bytes : Nat} {ag : Bool} {x y : Operand} {ox oy : O} {t e : TypeId} (hx : OT x ox) (hy : OT y oy) (ho : o.op = .call { callee := .builtin .append, args := #[x, y], argTypes := #[t, t] })
  (hu : P.underlying t = some (.slice e)) {i : TypeInfo} {z : Value} (hi : P.info? e = some i) (hz : i.zero = some z) (hsz : i.size = size) (hby : i.bytes = bytes) (hzs : z.cells.size = size) (hne : size ≠ 0)
  (hf : (ltT s.b.length (putD s.t o.dst .top) && ltB s.b.length s.b) = true)
  (hK : semO P (.appd size bytes ag) [ox.val s.t, oy.val s.t] s.b fun v b => K ⟨putD s.t o.dst v, b⟩) : o.wp P a X.w (Post G K) Q := by
 obtain ⟨_, rx⟩ := h.opnd hx
 obtain ⟨_, ry⟩ := h.opnd hy
 generalize ox.val s.t = vx at *
 generalize oy.val s.t = vy at *
 simp only [Bool.and_eq_true] at hf
 obtain ⟨hT, hB⟩ := hf
 subst hsz
 subst hby
 simp only [semO] at hK
 cases hap : appRows s.b i.size vy with
 | none => simp [hap] at hK
 | some new =>
  simp only [hap] at hK
  obtain ⟨news, sh⟩ := appRows_rel h ry hap
  have hm : ∀ row, row ∈ new → ∀ d, d ∈ row → ∀ k, d.ment k = true → k < s.b.length := fun row hr d hd k hk => shows_ment hB hap hr hd hk
  have hexe : ∀ {v w'}, (Builtin.append_ #[t, t] o.type #[a.eval x, a.eval y]).run P X.w = .ok v w' → (execOp a.eval o).run P X.w = .ok (.value v) w' := fun hr => by simp [execOp, ho, resolve, invoke, builtin, hr]
  have hposi : 0 < i.size := Nat.pos_of_ne_zero hne
  cases vx with
  | p z0 =>
   cases z0 with
   | sl sz nl rows0 =>
    cases nl with
    | true =>
     cases rows0 with
     | nil =>
      simp only at hK
      obtain ⟨_, k1, k2, k3, k4⟩ := hK
      have ex : a.eval x = .slice none 0 0 := by
       generalize a.eval x = u at rx
       have rx' : Flat X.M X.w (.sl sz true []) u := rx
       cases rx'; rfl
      by_cases hnew : new = []
      ·obtain ⟨b2, c2, ey⟩ : ∃ b2 c2, a.eval y = .slice b2 0 c2 := by
        rcases sh.form with ⟨_, hf⟩ | ⟨b, o', cap, ey, _⟩
        ·exact hf
        ·subst hnew; exact ⟨_, _, ey⟩
       have := run_append_zero (P := P) (ty := o.type) hu hi none 0 0 (Nat.le_refl _) b2 c2 X.w
       exact wp_pv (z := .sl i.size true []) h (hexe (by rw [ex, ey]; exact this)) (.nilsl _) (k3 hnew)
      ·rcases sh.form with ⟨e0, _⟩ | ⟨b2, o2, cap2, ey, hcell⟩
       ·exact absurd e0 hnew
       ·have hpos2 : 0 < new.length := List.length_pos_iff.2 hnew
        have hm63 : new.length ≤ 9223372036854775807 := by simpa [maxLen] using k2
        have hr := run_append_nil (P := P) X.w t o.type e i z hu hi hz ⟨b2, o2, none⟩ new.length cap2 news sh.len (fun j u hj => by rw [Addr.add_lit]; exact hcell j u hj) hpos2 (by omega) (by omega)
        have hge := grownCap_ge X.w new.length 0 e
        have hcm := grownCap_le_maxLen X.w new.length 0 e k2
        refine app_new (K := K) h hT hB hne (NewBlock.drew X.w _ e) sh.width sh.len ?_ hge hcm sh.cells hm (hexe (by rw [ex, ey]; exact hr)) (fun j bx hj => hj) (k4 hnew)
        rw [size_zeroCells, hzs, sh.len, ← Nat.add_mul]
        exact Nat.mul_le_mul_right _ (by omega)
     | cons _ _ => simp at hK
    | false => cases rows0 <;> simp at hK
   | _ => simp at hK
  | bs k sz ag' lo n =>
   simp only at hK
   cases hbk : getB s.b k with
   | none => simp [hbk] at hK
   | some bx =>
    simp only [hbk] at hK
    obtain ⟨hlive, rfl, c3, rfl, rfl, k1, k2, hK⟩ := hK
    have hbk' := getB_some hbk
    obtain ⟨blk, cap, e1, e2, e3, ⟨cs0, ty0, g1, g2⟩, e4⟩ := rx
    obtain ⟨blk', cs, ty, hb⟩ := h.cbox hbk' (getB_ne hbk)
    have : blk' = blk := by have := hb.ρ; rw [e1] at this; injection this with h; exact h.symm
    subst this
    rw [hb.heap] at g1
    injection g1 with g1
    injection g1 with g1 g1'
    subst g1
    rw [Nat.zero_add] at g2
    rw [Nat.zero_mul] at e4
    have hbne := getB_ne hbk
    have hnr : (copiesR bx.rows).length = bx.rows.length := by simp [copiesR_eq']
    have hold0 := hb.shows hbne cap
    by_cases hnew : new = []
    ·subst hnew
     obtain ⟨b2, c2, ey⟩ : ∃ b2 c2, a.eval y = .slice b2 0 c2 := by
      rcases sh.form with ⟨_, hf⟩ | ⟨b, o', cap, ey, _⟩
      ·exact hf
      ·exact ⟨_, _, ey⟩
     have hr := run_append_zero (P := P) (ty := o.type) hu hi (some ⟨blk', 0, none⟩) bx.rows.length cap e2 b2 c2 X.w
     rw [← c3] at hK g2
     refine app_room (K := K) h hT hB hbk' hlive hbne hb hb.heap (fun _ _ => rfl) rfl rfl rfl rfl rfl (new := []) (news := []) (fun _ _ => rfl) (fun j u hj => by simp at hj) (fun row hr => by simp at hr) (by simp) (fun i j row d hr => by simp at hr)
      (fun row hr => by simp at hr) (by simpa using e2) e3 g2 (hexe (by rw [e4, ey]; exact hr)) hK
    ·rcases sh.form with ⟨e0, _⟩ | ⟨b2, o2, cap2, ey, hcell⟩
     ·exact absurd e0 hnew
     ·have hpos2 : 0 < new.length := List.length_pos_iff.2 hnew
      have hm63 : bx.rows.length + new.length ≤ 9223372036854775807 := by simpa [maxLen] using k2
      by_cases hroom : bx.rows.length + new.length ≤ cap
      ·have hfit : bx.rows.length * i.size + news.length ≤ cs.size := by rw [sh.len, ← Nat.add_mul]; exact Nat.le_trans (Nat.mul_le_mul_right _ hroom) g2
       have hr := run_append_room' (P := P) (ty := o.type) hu hi X.w blk' bx.rows.length cap cs hb.heap ⟨b2, o2, none⟩ new.length cap2 news sh.len (fun j u hj => by rw [Addr.add_lit]; exact hcell j u hj) sh.one hroom hfit
       generalize hnewc : (cs.toList.take (bx.rows.length * i.size) ++ news ++ cs.toList.drop (bx.rows.length * i.size + news.length)).toArray = cs' at *
       have hget : ∀ j, cs'[j]? = if bx.rows.length * i.size ≤ j ∧ j < bx.rows.length * i.size + news.length then news[j - bx.rows.length * i.size]? else cs[j]? := by
        intro j; rw [← hnewc]; exact splice_get cs _ news j hfit
       have hcs' : cs'.size = cs.size := by rw [← hnewc]; simp; omega
       have hheap : (X.w.setRow blk' cs').heap[blk']? = some (.cells cs' ty (0, 0)) := setRow_heap _ _ cs cs' ty (0, 0) hb.heap
       rw [← c3] at hK g2 sh hget
       refine app_room (K := K) h hT hB hbk' hlive hbne hb hheap (fun b hb => setRow_other _ _ _ _ hb) rfl rfl rfl (by simp [World.setRow]) hcs' (new := new) (news := news) (fun j hj => ?_) (fun j u hj => ?_) sh.width sh.len sh.cells
        hm hroom e3 g2 (hexe (by rw [e4, ey]; exact hr)) hK
       ·rw [hget, if_neg (by omega)]
       ·have := (List.getElem?_eq_some_iff.1 hj).1
        rw [hget, if_pos (by omega), show bx.rows.length * bx.size + j - bx.rows.length * bx.size = j by omega]; exact hj
      ·have hlo : (cs.toList.take (bx.rows.length * bx.size)).length = bx.rows.length * i.size := by rw [hold0.len, hnr, c3]
       have hr := run_append_grow (P := P) X.w t o.type e i z hu hi hz ⟨blk', 0, none⟩ bx.rows.length cap (cs.toList.take (bx.rows.length * bx.size)) hlo (fun j u hj => by
        rcases hold0.form with ⟨e0, _⟩ | ⟨b3, o3, cap3, e5, hc3⟩
        ·rw [e0] at hnr
         have := (List.getElem?_eq_some_iff.1 hj).1
         rw [hlo] at this
         simp at hnr
         rw [← hnr] at this
         simp at this
        ·injection e5 with e5 e6 e7
         injection e5 with e5
         injection e5 with e5 e8
         subst e5; subst e8
         rw [Addr.add_lit]; exact hc3 j u hj) ⟨b2, o2, none⟩ new.length cap2 news sh.len (fun j u hj => by rw [Addr.add_lit]; exact hcell j u hj) (by omega) (by omega) (growslice_fits (by omega) k1)
       have hge := grownCap_ge X.w (bx.rows.length + new.length) cap e
       have hcm := grownCap_le_maxLen X.w (bx.rows.length + new.length) cap e k2
       have hkl : k < s.b.length := (List.getElem?_eq_some_iff.1 hbk').1
       rw [c3] at hold0
       refine app_new (K := K) h hT hB hne (rows := copiesR bx.rows ++ new) (vs := cs.toList.take (bx.rows.length * bx.size) ++ news) (rest := Builtin.zeroCells z.cells (grownCap X.w (bx.rows.length + new.length) cap e - (bx.rows.length + new.length)))
        (cap := grownCap X.w (bx.rows.length + new.length) cap e) (ag := ag) (ty := e) (w' := X.w.drew.alloc (.cells ((cs.toList.take (bx.rows.length * bx.size)).toArray ++ news.toArray ++ Builtin.zeroCells z.cells (grownCap X.w (bx.rows.length + new.length) cap e - (bx.rows.length + new.length))) e))
        ?_ ?_ ?_ ?_ ?_ hcm ?_ ?_ (hexe ?_) (b' := setL s.b k none ++ [some ⟨true, i.size, copiesR bx.rows ++ new, false⟩]) (fun j bx' hj => ?_) ?_
       ·have := NewBlock.drew X.w ((cs.toList.take (bx.rows.length * bx.size) ++ news).toArray ++ Builtin.zeroCells z.cells (grownCap X.w (bx.rows.length + new.length) cap e - (bx.rows.length + new.length))) e
        rw [show (cs.toList.take (bx.rows.length * bx.size) ++ news).toArray = (cs.toList.take (bx.rows.length * bx.size)).toArray ++ news.toArray by simp] at this
        rw [show (cs.toList.take (bx.rows.length * bx.size) ++ news).toArray = (cs.toList.take (bx.rows.length * bx.size)).toArray ++ news.toArray by simp]
        exact this
       ·intro row hrow
        rcases List.mem_append.1 hrow with hrow | hrow
        ·exact hold0.width row hrow
        ·exact sh.width row hrow
       ·rw [List.length_append, List.length_append, hlo, sh.len, hnr, Nat.add_mul]
       ·rw [List.length_append, hlo, sh.len, size_zeroCells, hzs, ← Nat.add_mul, ← Nat.add_mul]
        exact Nat.mul_le_mul_right _ (by omega)
       ·rw [List.length_append, hnr]; exact hge
       ·have := rows_get2 hold0.len hold0.width hold0.cells sh.cells
        rw [c3]
        exact this
       ·intro row hrow d hd q hq
        rcases List.mem_append.1 hrow with hrow | hrow
        ·rw [copiesR_eq'] at hrow
         obtain ⟨row0, hr0, rfl⟩ := List.mem_map.1 hrow
         obtain ⟨d0, hd0, rfl⟩ := List.mem_map.1 hd
         rw [ment_copy] at hq
         exact ltD_ment (ltRs_get (ltB_get hB hbk') hr0 hd0) hq
        ·exact hm row hrow d hd q hq
       ·rw [e4, ey, List.length_append, hnr]; exact hr
       ·rcases app_get hj with ⟨e9, e10⟩ | ⟨hlt, hj⟩
        ·rw [setL_length] at e9
         subst e9
         rw [e10]; simp
        ·rw [setL_length] at hlt
         rw [getElem?_setL] at hj
         split at hj
         ·cases hb0 : s.b[j]? <;> rw [hb0] at hj <;> simp at hj
         ·rw [List.getElem?_append, if_pos hlt]; exact hj
       ·rw [List.length_append, hnr]; exact hK
  | _ => simp at hK
theorem s_slx (h : Rel G X s a) {size : Nat} {isA : Bool} {t e : TypeId} {x m : Operand} {ox om : O} (hx : OT x ox) (hm : OT m om) (ho : o.op = .slice t x none (some m) none)
  (hu : P.underlying t = some (.slice e)) (hi' : TyIs P e size isA)
  (hK : semO P (.slx size) [ox.val s.t, om.val s.t] s.b fun v b => K ⟨putD s.t o.dst v, b⟩) : o.wp P a X.w (Post G K) Q := by
 obtain ⟨Lx, rx⟩ := h.opnd hx
 obtain ⟨Lm, rm⟩ := h.opnd hm
 generalize ex : ox.val s.t = vx at *
 generalize em' : om.val s.t = vm at *
 have hu' := P_elem hu
 have he : P.elem t = e := by rw [hu] at hu'; injection hu' with h1; injection h1 with h2; exact h2.symm
 have hsize : ∀ w, (sizeOf (P.elem t)).run P w = .ok size w := fun w => by rw [he]; exact hi'.run_sizeOf w
 unfold semO at hK
 split at hK
 all_goals first
  | exact hK.elim
  | (rename_i e1 e2; cases e1; done)
  | (rename_i e2; cases e2; done)
  | skip
 ·rename_i sz0 k' sz ag l n k1 m' e1 e2
  injection e1 with e1
  injection e2 with e2 e3
  injection e3 with e3 _
  subst e1; subst e2; subst e3
  obtain ⟨rfl, rfl, h0, h1, hK⟩ := hK
  have em := Flat.intv rm
  cases hbk : getB s.b k' with
  | none => simp [hbk] at hK
  | some bx =>
   simp only [hbk] at hK
   obtain ⟨_, _, h2, hK⟩ := hK
   obtain ⟨blk, cap, e1, e2, e3, e5, e4⟩ := rx
   obtain ⟨blk', cs, ty, hb⟩ := h.cbox (getB_some hbk) (getB_ne hbk)
   have hne0 : bx.size ≠ 0 := getB_ne hbk
   have h' := h.setBox (.cell (bx := { bx with rows := bx.rows.take m'.toNat }) hne0 (hb.cut (n := m'.toNat) (by omega)))
   have run : (execOp a.eval o).run P X.w = .ok (.value (.slice (some ⟨blk, 0, none⟩) m'.toNat cap)) X.w := by
    simp [execOp, ho, e4, em, run_sliceAt_slice, hu', run_slice_h X.w t _ n cap hu' _ m' h0 (by omega), hsize, sliced, Addr.add_lit]
   exact wp_value (v := .bs k' _ ag 0 m'.toNat) h' run (fun _ _ => ⟨blk, cap, e1, by omega, e3, by simpa using e5, by simp⟩) hK
 ·rename_i sz0 sz nl rows k1 m' e1 e2
  injection e1 with e1
  injection e2 with e2 e3
  injection e3 with e3 _
  subst e1; subst e2; subst e3
  refine s_slc (K := K) h hx (lo := none) (hi := some m) (ys := [om]) ho hu hi' hm ?_
  simp only [List.map_cons, List.map_nil, ex, em', Option.isSome_none, Option.isSome_some, semI]
  exact ⟨hK.1, hK.2.1, hK.2.2.1, hK.2.2.2⟩
end
end Go.Proofs.YtnjphclbpgajpaaGreatDoor.Vc
namespace Go.Proofs.YtnjphclbpgajpaaGreatDoor.Vc
open Go.RowKit
variable {P : Program}
inductive ZV : PV → Value → Prop
 | one (c : PV) (v : Value) (h : ZP c v) : ZV c v
 | agg (cs : List PV) (vs : Array Value) (hl : vs.size = cs.length) (h : ∀ (i : Nat) c v, cs[i]? = some c → vs[i]? = some v → ZP c v) : ZV (.agg cs) (.agg vs)
theorem ZV.flat {M : Nat → Nat → Prop} {w : World} {c : PV} {v : Value} (h : ZV c v) : Flat M w c v := by
 cases h with
 | one _ _ h => exact h.rel.1
 | agg cs vs hl h =>
  refine .agg cs vs hl (fun c hc => ?_) fun i c v hc hv => (h i c v hc hv).rel.1
  obtain ⟨i, hi⟩ := List.getElem?_of_mem hc
  have hlt : i < vs.size := by rw [hl]; exact (List.getElem?_eq_some_iff.1 hi).1
  exact (h i c vs[i] hi (by simp [hlt])).rel (M := M) (w := w) |>.2
def Rows (rows : List (List DV)) (es : List MapEntry) : Prop :=
 es.length = rows.length ∧ ∀ (i : Nat) row e, rows[i]? = some row → es[i]? = some e → ∃ (q : PV) (n : Bool) (d : DV), row = .p q :: d :: third n e ∧ e.key = keyV q
theorem Rows.tail {r : List DV} {rows : List (List DV)} {e : MapEntry} {es : List MapEntry} (h : Rows (r :: rows) (e :: es)) : Rows rows es :=
 ⟨by simpa using h.1, fun i row e h1 h2 => h.2 (i + 1) row e (by simpa using h1) (by simpa using h2)⟩
theorem keyP_is {q : Option IntKind} {x : PV} (h : keyP q x = true) : MapKept.IsKey (kdesc q) (keyV x) := by
 cases q <;> cases x <;> simp [keyP] at h <;> simp [kdesc, keyV, MapKept.IsKey, h]
theorem keyP_flat {M : Nat → Nat → Prop} {w : World} {q : Option IntKind} {x : PV} {v : Value} (h : keyP q x = true) (hv : Flat M w x v) : v = keyV x := by
 cases q <;> cases x <;> simp [keyP] at h <;> cases hv <;> rfl
theorem bytes_ext {a b : ByteArray} (h : a.data.toList = b.data.toList) : a = b := by
 obtain ⟨⟨a⟩⟩ := a
 obtain ⟨⟨b⟩⟩ := b
 simp at h
 subst h
 rfl
theorem sameK_iff {q : Option IntKind} {x k : PV} (hx : keyP q x = true) (hk : keyP q k = true) : sameK x k = true ↔ keyV x = keyV k := by
 cases q with
 | none =>
  cases x <;> simp [keyP] at hx
  cases k <;> simp [keyP] at hk
  simp only [sameK, keyV, decide_eq_true_eq, Value.string.injEq]
  exact ⟨fun h => (bytes_ext h).symm, fun h => by rw [h]⟩
 | some q =>
  cases x <;> simp [keyP] at hx
  cases k <;> simp [keyP] at hk
  subst hx
  subst hk
  simp only [sameK, keyV, decide_eq_true_eq, Value.int.injEq, true_and]
  exact eq_comm
theorem sameK_now {q : Option IntKind} {x k : PV} (hx : keyP q x = true) (hk : keyP q k = true) : Instr.sameNow (kdesc q) (keyV x) (keyV k) = some (sameK x k) := by
 obtain ⟨r, h1, h2⟩ := MapKept.sameNow_of_keys (keyP_is hx) (keyP_is hk)
 rw [h1]
 congr 1
 rw [Bool.eq_iff_iff, h2, sameK_iff hx hk]
theorem findX_now {q : Option IntKind} {x : PV} (hx : keyP q x = true) : ∀ {rows : List (List DV)} {es : List MapEntry} {r : Option DV} {i0 : Nat}, Rows rows es → findX q x rows = some r →
  (r = none ∧ Instr.findNow (kdesc q) (keyV x) es i0 = some none) ∨ ∃ j e d k, r = some d ∧ Instr.findNow (kdesc q) (keyV x) es i0 = some (some (i0 + j, e.val)) ∧ es[j]? = some e ∧ rows[j]? = some [.p k, d]
 | [], [], r, i0, _, h => by simp only [findX, Option.some.injEq] at h; subst h; exact .inl ⟨rfl, rfl⟩
 | [], _ :: _, _, _, hr, _ => by have := hr.1; simp at this
 | _ :: _, [], _, _, hr, _ => by have := hr.1; simp at this
 | row :: rows, e :: es, r, i0, hr, h => by
  obtain ⟨k, n3, d, rfl, ek⟩ := hr.2 0 row e rfl rfl
  obtain rfl : n3 = false := by cases n3 <;> first | rfl | (simp [findX, third] at h)
  simp only [third] at h ⊢
  simp only [findX] at h
  split at h
  ·rename_i hk
   have hs := sameK_now hx hk
   split at h
   ·rename_i hn
    rw [hn] at hs
    injection h with h
    subst h
    exact .inr ⟨0, e, d, k, rfl, by simp [Instr.findNow, ek, hs], rfl, rfl⟩
   ·rename_i hn
    rw [Bool.not_eq_true] at hn
    rw [hn] at hs
    rcases findX_now hx (i0 := i0 + 1) hr.tail h with ⟨h1, h2⟩ | ⟨j, e', d', k', h1, h2, h3, h4⟩
    ·exact .inl ⟨h1, by simp [Instr.findNow, ek, hs, h2]⟩
    ·exact .inr ⟨j + 1, e', d', k', h1, by simp [Instr.findNow, ek, hs, h2]; omega, by simpa using h3, by simpa using h4⟩
  ·cases h
theorem updX_now {q : Option IntKind} {x : PV} (hx : keyP q x = true) {v : DV} : ∀ {rows rows' : List (List DV)} {es : List MapEntry} {i0 : Nat}, Rows rows es → updX q x v rows = some rows' →
  (Instr.findNow (kdesc q) (keyV x) es i0 = some none ∧ rows' = rows ++ [[.p x, v]]) ∨
  ∃ j e k, Instr.findNow (kdesc q) (keyV x) es i0 = some (some (i0 + j, e.val)) ∧ es[j]? = some e ∧ e.key = keyV x ∧ keyV x = keyV k ∧ rows' = setL rows j [.p k, v]
 | [], rows', [], i0, _, h => by simp only [updX, Option.some.injEq] at h; subst h; exact .inl ⟨rfl, rfl⟩
 | [], _, _ :: _, _, hr, _ => by have := hr.1; simp at this
 | _ :: _, _, [], _, hr, _ => by have := hr.1; simp at this
 | row :: rows, rows', e :: es, i0, hr, h => by
  obtain ⟨k, n3, d, rfl, ek⟩ := hr.2 0 row e rfl rfl
  obtain rfl : n3 = false := by cases n3 <;> first | rfl | (simp [updX, third] at h)
  simp only [third] at h ⊢
  simp only [updX] at h
  split at h
  ·rename_i hk
   have hs := sameK_now hx hk
   split at h
   ·rename_i hn
    have hkk := (sameK_iff hx hk).1 hn
    rw [hn] at hs
    injection h with h
    subst h
    exact .inr ⟨0, e, k, by simp [Instr.findNow, ek, hs], rfl, ek.trans hkk.symm, hkk, rfl⟩
   ·rename_i hn
    rw [Bool.not_eq_true] at hn
    rw [hn] at hs
    split at h
    ·rename_i l hl'
     injection h with h
     subst h
     rcases updX_now hx (i0 := i0 + 1) hr.tail hl' with ⟨h1, h2⟩ | ⟨j, e', k', h1, h2, h3, h4, h5⟩
     ·exact .inl ⟨by simp [Instr.findNow, ek, hs, h1], by rw [h2]; rfl⟩
     ·exact .inr ⟨j + 1, e', k', by simp [Instr.findNow, ek, hs, h1]; omega, by simpa using h2, h3, h4, by rw [h5]; rfl⟩
    ·cases h
  ·cases h
theorem delX_now {q : Option IntKind} {x : PV} (hx : keyP q x = true) : ∀ {rows rows' : List (List DV)} {es : List MapEntry} {i0 : Nat}, Rows rows es → delX q x rows = some rows' →
  (Instr.findNow (kdesc q) (keyV x) es i0 = some none ∧ rows' = rows) ∨
  ∃ j e, Instr.findNow (kdesc q) (keyV x) es i0 = some (some (i0 + j, e.val)) ∧ es[j]? = some e ∧ rows' = rows.eraseIdx j
 | [], rows', [], i0, _, h => by simp only [delX, Option.some.injEq] at h; subst h; exact .inl ⟨rfl, rfl⟩
 | [], _, _ :: _, _, hr, _ => by have := hr.1; simp at this
 | _ :: _, _, [], _, hr, _ => by have := hr.1; simp at this
 | row :: rows, rows', e :: es, i0, hr, h => by
  obtain ⟨k, n3, d, rfl, ek⟩ := hr.2 0 row e rfl rfl
  obtain rfl : n3 = false := by cases n3 <;> first | rfl | (simp [delX, third] at h)
  simp only [third] at h ⊢
  simp only [delX] at h
  split at h
  ·rename_i hk
   have hs := sameK_now hx hk
   split at h
   ·rename_i hn
    rw [hn] at hs
    injection h with h
    subst h
    exact .inr ⟨0, e, by simp [Instr.findNow, ek, hs], rfl, rfl⟩
   ·rename_i hn
    rw [Bool.not_eq_true] at hn
    rw [hn] at hs
    split at h
    ·rename_i l hl'
     injection h with h
     subst h
     rcases delX_now hx (i0 := i0 + 1) hr.tail hl' with ⟨h1, h2⟩ | ⟨j, e', h1, h2, h3⟩
     ·exact .inl ⟨by simp [Instr.findNow, ek, hs, h1], by rw [h2]⟩
     ·exact .inr ⟨j + 1, e', by simp [Instr.findNow, ek, hs, h1]; omega, by simpa using h2, by rw [h3]; rfl⟩
    ·cases h
  ·cases h
section
variable {G : Gl} {X : Cx} {s : St} {a : Act} {Q : Exit → Act → World → Prop} {o : Oper} {K : St → Prop}
theorem mapOf (h : Rel G X s a) {k : Nat} {bx : Box} (hb : getM s.b k = some bx) {L : Loc} {v : Value} (hv : VRel X G.base L (.mh k) v) :
  ∃ blk es clock, v = .map (some blk) ∧ X.ρ k = some blk ∧ X.own blk = some (.box k) ∧ ((G.base ≤ blk ∨ ∃ j, X.ex j = some blk) ∧ (bx.old = true → X.ex k = some blk)) ∧ X.w.heap[blk]? = some (.map es clock) ∧ (∀ o, X.M blk o) ∧
   Rows bx.rows es.toList ∧ BornOk es clock ∧ (∀ (i : Nat) row e, bx.rows[i]? = some row → es[i]? = some e → ∃ (q : PV) (n : Bool) (d : DV), row = .p q :: d :: third n e ∧ e.key = keyV q ∧ VRel X G.base (.cell k i 1) d e.val) := by
 obtain ⟨hsb, hs0⟩ := getM_some hb
 have hB := h.boxes k bx hsb
 unfold BX at hB
 rw [if_pos hs0] at hB
 obtain ⟨blk, es, clock, m1, m2, m3, m4, m5, m6, m0, m7⟩ := hB
 obtain ⟨blk', e1, e2⟩ := hv
 have : blk' = blk := by rw [e1] at m1; injection m1
 subst this
 exact ⟨blk', es, clock, e2, e1, m2, m3, m4, m6, ⟨by simpa using m5, fun i row e hr he => by
  obtain ⟨q, n, d, f1, f2, f3⟩ := m7 i row e hr (by simpa using he); exact ⟨q, n, d, f1, f2⟩⟩, m0, m7⟩
theorem s_lookx (h : Rel G X s a) {zero : PV} {ok : Bool} {t kt et : TypeId} {q : Option IntKind} {zv : Value} {i : TypeInfo} {x y : Operand} {ox oy : O} (hx : OT x ox) (hy : OT y oy) (ho : o.op = .lookup t x y ok) (hu : P.underlying t = some (.map kt et))
  (hk : P.underlying kt = some (kdesc q)) (hi : P.info? et = some i) (hz : i.zero = some zv) (hzr : ZV zero zv)
  (hK : semO P (.lookx q zero ok) [ox.val s.t, oy.val s.t] s.b fun v b => K ⟨putD s.t o.dst v, b⟩) : o.wp P a X.w (Post G K) Q := by
 obtain ⟨_, rx⟩ := h.opnd hx
 obtain ⟨_, ry⟩ := h.opnd hy
 generalize ox.val s.t = vx at *
 generalize oy.val s.t = vy at *
 cases vx with
 | mh k =>
  obtain ⟨n, rfl⟩ : ∃ n, vy = .p n := by
   rcases vy with _ | x | _ | _ | _ | _ | _ | _ <;> first | (simp [semO] at hK; done) | exact ⟨_, rfl⟩
  simp only [semO] at hK
  obtain ⟨hkp, hK⟩ := hK
  have ey := keyP_flat hkp ry
  have hik := keyP_is hkp
  cases hbk : getM s.b k with
  | none => simp [hbk] at hK
  | some bx =>
   simp only [hbk] at hK
   obtain ⟨blk, es, clock, e2, e1, m2, m3, m4, m6, m7, m0, m8⟩ := mapOf h hbk rx
   cases hf : findX q n bx.rows with
   | none => simp [hf] at hK
   | some r =>
    have hkey : ∀ e n0, (Instr.checkKey e (n0 + 1) kt (keyV n)).run P X.w = .ok () X.w := fun e n0 => MapKept.run_checkKey hk hik e n0
    rcases findX_now hkp (i0 := 0) m7 hf with ⟨rfl, g1⟩ | ⟨j, e, d, k0, rfl, g1, g2, g3⟩
    ·simp only [hf] at hK
     have hfind : (Instr.findKey kt (keyV n) es.toList).run P X.w = .ok none X.w := MapKept.run_findKey hk g1
     have hzv : ∀ w, (zeroValue et).run P w = .ok zv w := fun w => by simp [zeroValue, typeInfo, hi, hz]
     have run : (execOp a.eval o).run P X.w = .ok (.value (if ok then .tuple #[zv, .bool false] else zv)) X.w := by
      cases ok <;> simp [execOp, ho, e2, ey, Instr.lookup, run_underlying hu, MapKept.run_getObj_map m4, hkey _ 9999, hfind, hzv]
     cases ok with
     | false => exact wp_pv (z := zero) h run hzr.flat hK
     | true =>
      refine wp_value (v := .tup [.p zero, .p (.bool false)]) h run (fun _ _ => ⟨#[zv, .bool false], rfl, rfl, fun j d u hd hu => ?_⟩) hK
      match j, hd, hu with
      | 0, hd, hu => simp at hd hu; subst hd; subst hu; exact hzr.flat
      | 1, hd, hu => simp at hd hu; subst hd; subst hu; exact .bool _
      | j + 2, hd, hu => simp at hd
    ·simp only [hf] at hK
     have hfind : (Instr.findKey kt (keyV n) es.toList).run P X.w = .ok (some (0 + j, e.val)) X.w := MapKept.run_findKey hk g1
     obtain ⟨q1, n1, d1, f1, f2, f3⟩ := m8 j _ e g3 (by simpa using g2)
     injection f1 with f1 f1'
     injection f1' with f1' _
     subst f1'
     have run : (execOp a.eval o).run P X.w = .ok (.value (if ok then .tuple #[e.val, .bool true] else e.val)) X.w := by
      cases ok <;> simp [execOp, ho, e2, ey, Instr.lookup, run_underlying hu, MapKept.run_getObj_map m4, hkey _ 9999, hfind]
     cases ok with
     | false => exact wp_value h run (fun _ _ => f3.copy _) hK
     | true =>
      simp only [if_true] at hK
      obtain ⟨v, rfl, hK⟩ := hK
      refine wp_value (v := .tup [.p v, .p (.bool true)]) h run (fun _ _ => ⟨#[e.val, .bool true], rfl, rfl, fun j d u hd hu => ?_⟩) hK
      match j, hd, hu with
      | 0, hd, hu => simp at hd hu; subst hd; subst hu; exact f3
      | 1, hd, hu => simp at hd hu; subst hd; subst hu; exact .bool _
      | j + 2, hd, hu => simp at hd
 | _ => cases vy <;> simp [semO] at hK
theorem map_turn (h : Rel G X s a) {k : Nat} {bx : Box} (hb : getM s.b k = some bx) {blk : Nat} {es es' : Array MapEntry} {clock clock' : Nat} (e1 : X.ρ k = some blk) (m2 : X.own blk = some (.box k))
  (m3 : (G.base ≤ blk ∨ ∃ j, X.ex j = some blk) ∧ (bx.old = true → X.ex k = some blk)) (m4 : X.w.heap[blk]? = some (.map es clock)) (m6 : ∀ o, X.M blk o) {rows' : List (List DV)} (k0 : BornOk es' clock')
  (k1 : es'.size = rows'.length) (k2 : ∀ (i : Nat) row e, rows'[i]? = some row → es'[i]? = some e → ∃ (q : PV) (n : Bool) (d : DV), row = .p q :: d :: third n e ∧ e.key = keyV q ∧ VRel X G.base (.cell k i 1) d e.val) :
  ∃ w', { X.w with heap := X.w.heap.setIfInBounds blk (.map es' clock') } = w' ∧ Rel G { X with w := w' } ⟨s.t, setL s.b k (some { bx with rows := rows' })⟩ a := by
 obtain ⟨hsb, hs0⟩ := getM_some hb
 generalize hw : ({ X.w with heap := X.w.heap.setIfInBounds blk (.map es' clock') } : World) = w'
 obtain ⟨q1, q2⟩ := MapKept.heap_set (o' := .map es' clock') m4
 have hwh : w'.heap = X.w.heap.setIfInBounds blk (.map es' clock') := by subst hw; rfl
 rw [← hwh] at q1 q2
 have hsz : w'.heap.size = X.w.heap.size := by subst hw; simp
 have hszA : ∀ g, SzAt X.w w' g := fun g cs' ty' hg => by
  have hne : g ≠ blk := fun e => by subst e; rw [m4] at hg; injection hg with hg; cases hg
  exact ⟨cs', ty', (q2 g hne).trans hg, rfl⟩
 have hev : Ev (fun L => L ≠ .box k) X { X with w := w' } := by
  refine ⟨fun b i u hM hcv => ?_, fun g L hg hS hgl => ?_, rfl, hszA⟩
  ·have hbne : b ≠ blk := fun e => by subst e; exact hM (m6 i)
   exact ⟨(World.cell?_of_block (w := X.w) (q2 b hbne)).trans hcv, hM⟩
  ·have hgne : g ≠ blk := fun e => by subst e; rw [m2] at hg; injection hg with hg; exact hS hg.symm
   exact ⟨hg, q2 g hgne, fun _ h => h⟩
 refine ⟨w', rfl, h.defers, h.size, fun i d hdd => (h.tmps i d hdd).mono (fun _ _ _ h => by cases h) hev (by simp) fun _ _ => rfl, fun j bx' hj => ?_,
  h.below.trans ⟨by subst hw; rfl, by subst hw; rfl, by subst hw; rfl, by rw [hsz]; exact Nat.le_refl _, fun r hr hx => q2 r (fun e => by subst e; exact m3.1.elim (fun h => by omega) (fun ⟨j', h'⟩ => hx _ (by rw [← h.mold.1]; exact h'))), fun _ _ => hszA _⟩,
  by show G.base ≤ w'.heap.size; rw [hsz]; exact h.hb, h.mold⟩
 rcases setB_get hj with ⟨rfl, rfl⟩ | ⟨hne, hj⟩
 ·unfold BX
  rw [if_pos (show bx.size = 0 from hs0)]
  refine ⟨blk, es', clock', e1, m2, m3, q1, k1, m6, k0, fun i row e hr he => ?_⟩
  obtain ⟨q0, n0, d0, f1, f2, f3⟩ := k2 i row e hr he
  exact ⟨q0, n0, d0, f1, f2, f3.mono (fun _ _ _ h => by cases h) hev (by simp) fun _ _ => rfl⟩
 ·exact (h.boxes j bx' hj).mono (fun _ _ _ h => by cases h) hev (by simp [hne]) (fun _ _ => by simp) rfl fun _ _ _ _ _ _ => rfl
theorem anyL {X : Cx} {base : Nat} {L : Loc} {d : DV} {v : Value} (hd : (d.isRef || d.isP) = true) (h : VRel X base L d v) (L' : Loc) : VRel X base L' d v := by
 cases d <;> first | exact h | (simp [DV.isRef, DV.isP] at hd)
theorem s_mupx (h : Rel G X s a) {t kt et : TypeId} {q : Option IntKind} {x y z : Operand} {ox oy oz : O} (hx : OT x ox) (hy : OT y oy) (hz : OT z oz) (ho : o.op = .mapUpdate t x y z) (hd : o.dst = none) (hu : P.underlying t = some (.map kt et))
  (hk : P.underlying kt = some (kdesc q))
  (hK : semO P (.mupx q) [ox.val s.t, oy.val s.t, oz.val s.t] s.b fun v b => K ⟨putD s.t o.dst v, b⟩) : o.wp P a X.w (Post G K) Q := by
 obtain ⟨_, rx⟩ := h.opnd hx
 obtain ⟨_, ry⟩ := h.opnd hy
 obtain ⟨_, rz⟩ := h.opnd hz
 generalize ox.val s.t = vx at *
 generalize oy.val s.t = vy at *
 generalize oz.val s.t = vz at *
 cases vx with
 | mh k =>
  obtain ⟨n, rfl⟩ : ∃ n, vy = .p n := by
   rcases vy with _ | x | _ | _ | _ | _ | _ | _ <;> first | (simp [semO] at hK; done) | exact ⟨_, rfl⟩
  simp only [semO] at hK
  obtain ⟨hkp, hone, hK⟩ := hK
  have ey := keyP_flat hkp ry
  have hik := keyP_is hkp
  cases hbk : getM s.b k with
  | none => simp [hbk] at hK
  | some bx =>
   simp only [hbk] at hK
   obtain ⟨blk, es, clock, e2, e1, m2, m3, m4, m6, m7, m0, m8⟩ := mapOf h hbk rx
   cases hf : updX q n vz bx.rows with
   | none => simp [hf] at hK
   | some rows' =>
    simp only [hf] at hK
    have hkey : ∀ e n0, (Instr.checkKey e (n0 + 1) kt (keyV n)).run P X.w = .ok () X.w := fun e n0 => MapKept.run_checkKey hk hik e n0
    have key : ∃ es' clock', (execOp a.eval o).run P X.w = .ok .skip { X.w with heap := X.w.heap.setIfInBounds blk (.map es' clock') } ∧ BornOk es' clock' ∧ es'.size = rows'.length ∧
      ∀ (i : Nat) row e, rows'[i]? = some row → es'[i]? = some e → ∃ (q : PV) (n : Bool) (d : DV), row = .p q :: d :: third n e ∧ e.key = keyV q ∧ VRel X G.base (.cell k i 1) d e.val := by
     have hml : es.size = bx.rows.length := by simpa using m7.1
     rcases updX_now hkp (i0 := 0) m7 hf with ⟨g1, g2⟩ | ⟨j, e, k0, g1, g2, g3, g3', g4⟩
     ·refine ⟨es.push { key := keyV n, val := a.eval z, born := clock }, clock + 1, ?_, born_push m0, by simp [g2, hml], fun i row e hr he => ?_⟩
      ·simp [execOp, ho, e2, ey, Instr.mapUpdate, run_underlying hu, MapKept.run_getObj_map m4, hkey _ 9999, MapKept.run_findKey hk g1, MapKept.run_setObj_map _ m4]
      ·subst g2
       rw [List.getElem?_append] at hr
       rw [Array.getElem?_push] at he
       by_cases hi : i < bx.rows.length
       ·rw [if_pos hi] at hr
        rw [if_neg (by omega)] at he
        exact m8 i row e hr he
       ·rw [if_neg hi] at hr
        have h0 : i - bx.rows.length = 0 := by
         have := (List.getElem?_eq_some_iff.1 hr).1
         simp at this; omega
        rw [h0] at hr
        rw [if_pos (by omega)] at he
        simp only [List.getElem?_cons_zero, Option.some.injEq] at hr he
        subst hr; subst he
        exact ⟨_, false, _, rfl, rfl, anyL hone rz _⟩
     ·have hj : es[j]? = some e := by simpa using g2
      have hjl : j < es.size := (Array.getElem?_eq_some_iff.1 hj).1
      have g1' : Instr.findNow (kdesc q) (keyV n) es.toList 0 = some (some (j, e.val)) := by simpa using g1
      refine ⟨es.modify j (fun e => { e with key := keyV n, val := a.eval z }), clock, ?_, born_modify m0 _ _ (fun _ => rfl), by simp [g4, setL_length, hml], fun i row e' hr he => ?_⟩
      ·simp [execOp, ho, e2, ey, Instr.mapUpdate, run_underlying hu, MapKept.run_getObj_map m4, hkey _ 9999, MapKept.run_findKey hk g1', hj, g3, MapKept.run_keyThatStays hik, MapKept.run_setObj_map _ m4]
      ·subst g4
       rw [getElem?_setL] at hr
       rw [Array.getElem?_modify] at he
       by_cases hij : i = j
       ·subst hij
        rw [if_pos rfl] at hr
        rw [if_pos rfl, hj] at he
        cases hrow : bx.rows[i]? with
        | none => rw [hrow] at hr; simp at hr
        | some row0 =>
         rw [hrow] at hr
         simp only [Option.map_some, Option.some.injEq] at hr he
         subst hr; subst he
         exact ⟨_, false, _, rfl, g3', anyL hone rz _⟩
       ·rw [if_neg hij] at hr
        rw [if_neg (fun e => hij e.symm)] at he
        exact m8 i row e' hr he
    obtain ⟨es', clock', run, k0, k1, k2⟩ := key
    obtain ⟨w', hw, hrel⟩ := map_turn h hbk (clock' := clock') e1 m2 m3 m4 m6 k0 k1 k2
    rw [hw] at run
    unfold Oper.wp
    rw [run, Oper.upon_skip]
    have hp : a.put o.dst undef = a := by rw [hd]; rfl
    rw [hp]
    refine ⟨_, { X with w := w' }, ?_, rfl, hK⟩
    rw [hd]
    exact hrel
 | _ => rcases vy with _ | y | _ | _ | _ | _ | _ | _ <;> (try cases y) <;> simp [semO] at hK
theorem s_mdel (h : Rel G X s a) {t kt et : TypeId} {q : Option IntKind} {x y : Operand} {ts : Array TypeId} {ox oy : O} (hx : OT x ox) (hy : OT y oy) (ho : o.op = .call { callee := .builtin .delete, args := #[x, y], argTypes := ts }) (hts : ts[0]? = some t)
  (hu : P.underlying t = some (.map kt et)) (hk : P.underlying kt = some (kdesc q))
  (hK : semO P (.mdel q) [ox.val s.t, oy.val s.t] s.b fun v b => K ⟨putD s.t o.dst v, b⟩) : o.wp P a X.w (Post G K) Q := by
 obtain ⟨_, rx⟩ := h.opnd hx
 obtain ⟨_, ry⟩ := h.opnd hy
 generalize ox.val s.t = vx at *
 generalize oy.val s.t = vy at *
 cases vx with
 | mh k =>
  obtain ⟨n, rfl⟩ : ∃ n, vy = .p n := by
   rcases vy with _ | x | _ | _ | _ | _ | _ | _ <;> first | (simp [semO] at hK; done) | exact ⟨_, rfl⟩
  simp only [semO] at hK
  obtain ⟨hkp, hK⟩ := hK
  have ey := keyP_flat hkp ry
  have hik := keyP_is hkp
  cases hbk : getM s.b k with
  | none => simp [hbk] at hK
  | some bx =>
   simp only [hbk] at hK
   obtain ⟨blk, es, clock, e2, e1, m2, m3, m4, m6, m7, m0, m8⟩ := mapOf h hbk rx
   cases hf : delX q n bx.rows with
   | none => simp [hf] at hK
   | some rows' =>
    simp only [hf] at hK
    have hml : es.size = bx.rows.length := by simpa using m7.1
    have hkey : ∀ e n0, (Instr.checkKey e (n0 + 1) kt (keyV n)).run P X.w = .ok () X.w := fun e n0 => MapKept.run_checkKey hk hik e n0
    have key : ∃ es', (execOp a.eval o).run P X.w = .ok (.value (.tuple #[])) { X.w with heap := X.w.heap.setIfInBounds blk (.map es' clock) } ∧ BornOk es' clock ∧ es'.size = (copiesR rows').length ∧
      ∀ (i : Nat) row e, (copiesR rows')[i]? = some row → es'[i]? = some e → ∃ (q : PV) (n : Bool) (d : DV), row = .p q :: d :: third n e ∧ e.key = keyV q ∧ VRel X G.base (.cell k i 1) d e.val := by
     have cp : ∀ {rows : List (List DV)} {es1 : Array MapEntry}, (∀ (i : Nat) row e, rows[i]? = some row → es1[i]? = some e → ∃ i' : Nat, bx.rows[i']? = some row ∧ es[i']? = some e) →
       ∀ (i : Nat) row e, (copiesR rows)[i]? = some row → es1[i]? = some e → ∃ (q : PV) (n : Bool) (d : DV), row = .p q :: d :: third n e ∧ e.key = keyV q ∧ VRel X G.base (.cell k i 1) d e.val := by
      intro rows es1 hm i row e hr he
      rw [copiesR_eq', List.getElem?_map] at hr
      cases hr0 : rows[i]? with
      | none => rw [hr0] at hr; simp at hr
      | some row0 =>
       rw [hr0] at hr
       simp only [Option.map_some, Option.some.injEq] at hr
       subst hr
       obtain ⟨i', g1, g2⟩ := hm i row0 e hr0 he
       obtain ⟨q, n, d, f1, f2, f3⟩ := m8 i' row0 e g1 g2
       exact ⟨q, n, d.copy, by rw [f1]; cases n <;> rfl, f2, f3.copy _⟩
     rcases delX_now hkp (i0 := 0) m7 hf with ⟨g1, g2⟩ | ⟨j, e, g1, g2, g3⟩
     ·refine ⟨es, ?_, m0, by simp [copiesR_eq', g2, hml], cp fun i row e hr he => ⟨i, by rw [← g2]; exact hr, he⟩⟩
      simp [execOp, ho, resolve, invoke, builtin, Builtin.delete_, hts, e2, ey, run_underlying hu, MapKept.run_getObj_map m4, hkey _ 9999, MapKept.run_findKey hk g1, MapKept.run_setObj_map _ m4]
     ·have g1' : Instr.findNow (kdesc q) (keyV n) es.toList 0 = some (some (j, e.val)) := by simpa using g1
      have hj : es[j]? = some e := by simpa using g2
      have hjl : j < es.size := (Array.getElem?_eq_some_iff.1 hj).1
      have hes : (es.eraseIdxIfInBounds j).toList = es.toList.eraseIdx j := by
       simp [Array.eraseIdxIfInBounds, hjl]
      refine ⟨es.eraseIdxIfInBounds j, ?_, born_erase m0 j, ?_, cp fun i row e' hr he => ?_⟩
      ·simp [execOp, ho, resolve, invoke, builtin, Builtin.delete_, hts, e2, ey, run_underlying hu, MapKept.run_getObj_map m4, hkey _ 9999, MapKept.run_findKey hk g1', MapKept.run_setObj_map _ m4]
      ·have : (es.eraseIdxIfInBounds j).size = (es.toList.eraseIdx j).length := by rw [← hes, Array.length_toList]
       rw [this, copiesR_eq', List.length_map, g3, List.length_eraseIdx, List.length_eraseIdx, if_pos (by simpa using hjl), if_pos (by omega)]
       simp [hml]
      ·rw [g3, List.getElem?_eraseIdx] at hr
       have he' : (es.toList.eraseIdx j)[i]? = some e' := by rw [← hes, Array.getElem?_toList]; exact he
       rw [List.getElem?_eraseIdx] at he'
       by_cases hij : i < j
       ·rw [if_pos hij] at hr he'; exact ⟨i, hr, by simpa using he'⟩
       ·rw [if_neg hij] at hr he'; exact ⟨i + 1, hr, by simpa using he'⟩
    obtain ⟨es', run, k0, k1, k2⟩ := key
    obtain ⟨w', hw, hrel⟩ := map_turn h hbk (clock' := clock) e1 m2 m3 m4 m6 k0 k1 k2
    rw [hw] at run
    unfold Oper.wp
    rw [run, Oper.upon_value]
    have h2 := hrel.put (d := o.dst) (v := .top) (u := .tuple #[]) (fun _ _ => trivial)
    exact ⟨_, { X with w := w' }, h2, rfl, hK⟩
 | _ => cases vy <;> simp [semO] at hK
theorem s_mlen (h : Rel G X s a) {t kt et : TypeId} {x : Operand} {ox : O} (hx : OT x ox) (ho : o.op = .call { callee := .builtin .len, args := #[x], argTypes := #[t] }) (hu : P.underlying t = some (.map kt et))
  (hK : semO P .mlen [ox.val s.t] s.b fun v b => K ⟨putD s.t o.dst v, b⟩) : o.wp P a X.w (Post G K) Q := by
 obtain ⟨_, rx⟩ := h.opnd hx
 generalize ox.val s.t = vx at *
 cases vx with
 | mh k =>
  simp only [semO] at hK
  cases hbk : getM s.b k with
  | none => simp [hbk] at hK
  | some bx =>
   simp only [hbk] at hK
   obtain ⟨blk, es, clock, e2, e1, m2, m3, m4, m6, m7, m0, m8⟩ := mapOf h hbk rx
   have hml : es.size = bx.rows.length := by simpa using m7.1
   refine wp_pv (z := .int .i64 bx.rows.length) h ?_ (.int _ _) hK
   simp [execOp, ho, resolve, invoke, builtin, Builtin.len_, e2, run_underlying hu, MapKept.run_getObj_map m4, hml, goInt]
 | _ => simp [semO] at hK
theorem findE_now {q : Option IntKind} {x : PV} (hx : keyP q x = true) : ∀ {rows : List (List DV)} {es : List MapEntry} {v : PV} {s : Int} {i0 : Nat}, Rows rows es → findE q x rows = some (v, s) →
  ∃ j e k, Instr.findNow (kdesc q) (keyV x) es i0 = some (some (i0 + j, e.val)) ∧ es[j]? = some e ∧ e.key = keyV x ∧ rows[j]? = some [.p k, .p v, .p (.int .i64 s)]
 | [], _, v, s, _, _, h => by simp [findE] at h
 | _ :: _, [], _, _, _, hr, _ => by have := hr.1; simp at this
 | row :: rows, e :: es, v, s, i0, hr, h => by
  obtain ⟨k, n3, d, rfl, ek⟩ := hr.2 0 row e rfl rfl
  obtain rfl : n3 = true := by cases n3 <;> first | rfl | (simp [findE, third] at h)
  simp only [third] at h ⊢
  obtain ⟨u, rfl⟩ : ∃ u, d = .p u := by cases d <;> first | exact ⟨_, rfl⟩ | (simp [findE] at h)
  simp only [findE] at h
  split at h
  ·rename_i hk
   have hs := sameK_now hx hk
   split at h
   ·rename_i hn
    have hkk := (sameK_iff hx hk).1 hn
    rw [hn] at hs
    injection h with h
    injection h with h1 h2
    subst h1; subst h2
    exact ⟨0, e, k, by simp [Instr.findNow, ek, hs], rfl, ek.trans hkk.symm, rfl⟩
   ·rename_i hn
    rw [Bool.not_eq_true] at hn
    rw [hn] at hs
    obtain ⟨j, e', k', h1, h2, h3, h4⟩ := findE_now hx (i0 := i0 + 1) hr.tail h
    exact ⟨j + 1, e', k', by simp [Instr.findNow, ek, hs, h1]; omega, by simpa using h2, h3, by simpa using h4⟩
  ·cases h
theorem setE_now {s : Int} {d : DV} : ∀ {rows rows' : List (List DV)} {es : List MapEntry}, Rows rows es → setE s d rows = some rows' →
  ∃ j e k u, es[j]? = some e ∧ (e.born : Int) = s ∧ (∀ i e', i < j → es[i]? = some e' → (e'.born : Int) ≠ s) ∧ rows[j]? = some [.p k, u, .p (.int .i64 s)] ∧ rows' = setL rows j [.p k, d, .p (.int .i64 s)]
 | [], _, _, _, h => by simp [setE] at h
 | _ :: _, _, [], hr, _ => by have := hr.1; simp at this
 | row :: rows, rows', e :: es, hr, h => by
  obtain ⟨k, n3, u, rfl, ek⟩ := hr.2 0 row e rfl rfl
  obtain rfl : n3 = true := by cases n3 <;> first | rfl | (simp [setE, third] at h)
  simp only [third] at h ⊢
  simp only [setE] at h
  split at h
  ·rename_i hs
   injection h with h
   subst h
   subst hs
   exact ⟨0, e, k, u, rfl, rfl, fun i e' hi => by omega, rfl, rfl⟩
  ·rename_i hs
   split at h
   ·rename_i l hl
    injection h with h
    subst h
    obtain ⟨j, e', k', u', h1, h2, h3, h4, h5⟩ := setE_now hr.tail hl
    refine ⟨j + 1, e', k', u', by simpa using h1, h2, fun i e2 hi he => ?_, by simpa using h4, by rw [h5]; rfl⟩
    cases i with
    | zero => simp at he; subst he; exact hs
    | succ i => exact h3 i e2 (by omega) (by simpa using he)
   ·cases h
theorem modify_self {es : Array MapEntry} {j : Nat} {e : MapEntry} (he : es[j]? = some e) {k : Value} (hk : e.key = k) : es.modify j (fun e => { e with key := k }) = es := by
 apply Array.ext_getElem?
 intro i
 rw [Array.getElem?_modify]
 split
 ·rename_i hij
  subst hij
  rw [he]
  simp only [Option.map_some, Option.some.injEq]
  subst hk
  rfl
 ·rfl
theorem heap_self {w : World} {g : Nat} {o : Obj} (h : w.heap[g]? = some o) : ({ w with heap := w.heap.setIfInBounds g o } : World) = w := by
 have : w.heap.setIfInBounds g o = w.heap := by
  apply Array.ext_getElem?
  intro i
  by_cases hi : g = i
  ·subst hi
   rw [h, Array.getElem?_setIfInBounds_self_of_lt (Array.getElem?_eq_some_iff.1 h).1]
  ·rw [Array.getElem?_setIfInBounds_ne hi]
 rw [this]
theorem s_mpe (h : Rel G X s a) {t kt et : TypeId} {q : Option IntKind} {x y : Operand} {ox oy : O} (hx : OT x ox) (hy : OT y oy) (ho : o.op = .mapEntry t x y) (hu : P.underlying t = some (.map kt et))
  (hk : P.underlying kt = some (kdesc q))
  (hK : semO P (.mpe q) [ox.val s.t, oy.val s.t] s.b fun v b => K ⟨putD s.t o.dst v, b⟩) : o.wp P a X.w (Post G K) Q := by
 obtain ⟨_, rx⟩ := h.opnd hx
 obtain ⟨_, ry⟩ := h.opnd hy
 generalize ox.val s.t = vx at *
 generalize oy.val s.t = vy at *
 cases vx with
 | mh k =>
  obtain ⟨n, rfl⟩ : ∃ n, vy = .p n := by
   rcases vy with _ | x | _ | _ | _ | _ | _ | _ <;> first | (simp [semO] at hK; done) | exact ⟨_, rfl⟩
  simp only [semO] at hK
  obtain ⟨hkp, hK⟩ := hK
  have ey := keyP_flat hkp ry
  have hik := keyP_is hkp
  cases hbk : getM s.b k with
  | none => simp [hbk] at hK
  | some bx =>
   simp only [hbk] at hK
   obtain ⟨blk, es, clock, e2, e1, m2, m3, m4, m6, m7, m0, m8⟩ := mapOf h hbk rx
   have hfe : findEI q n bx.rows = findE q n bx.rows := by unfold findEI; rfl
   rw [hfe] at hK
   cases hf : findE q n bx.rows with
   | none => simp [hf] at hK
   | some vs =>
    obtain ⟨v, st⟩ := vs
    simp only [hf] at hK
    have hkey : ∀ e n0, (Instr.checkKey e (n0 + 1) kt (keyV n)).run P X.w = .ok () X.w := fun e n0 => MapKept.run_checkKey hk hik e n0
    obtain ⟨j, e, k0, g1, g2, g3, g4⟩ := findE_now hkp (i0 := 0) m7 hf
    have hj : es[j]? = some e := by simpa using g2
    have g1' : Instr.findNow (kdesc q) (keyV n) es.toList 0 = some (some (j, e.val)) := by simpa using g1
    obtain ⟨q1, n1, d1, f1, f2, f3⟩ := m8 j _ e g4 hj
    injection f1 with f1 f1'
    injection f1' with f1' f1''
    subst f1'
    have hst : st = e.born := by
     cases n1 with
     | false => simp [third] at f1''
     | true => simp [third] at f1''; exact f1''
    have hw : ({ X.w with heap := X.w.heap.setIfInBounds blk (.map (es.modify j (fun e => { e with key := keyV n })) clock) } : World) = X.w := by rw [modify_self hj g3]; exact heap_self m4
    have run : (execOp a.eval o).run P X.w = .ok (.value (.tuple #[e.val, .int .i64 e.born])) X.w := by
     have : (execOp a.eval o).run P X.w = .ok (.value (.tuple #[e.val, .int .i64 e.born])) ({ X.w with heap := X.w.heap.setIfInBounds blk (.map (es.modify j (fun e => { e with key := keyV n })) clock) } : World) := by
      simp [execOp, ho, e2, ey, Instr.mapEntry, run_underlying hu, MapKept.run_getObj_map m4, hkey _ 9999, MapKept.run_findKey hk g1', hj, g3, MapKept.run_keyThatStays hik, MapKept.run_setObj_map _ m4, goInt]
     rw [hw] at this; exact this
    refine wp_value (v := .tup [.p v, .p (.int .i64 st)]) h run (fun _ _ => ⟨#[e.val, .int .i64 e.born], rfl, rfl, fun j d u hd hu => ?_⟩) hK
    match j, hd, hu with
    | 0, hd, hu => simp at hd hu; subst hd; subst hu; exact f3
    | 1, hd, hu => simp at hd hu; subst hd; subst hu; rw [hst]; exact .int _ _
    | j + 2, hd, hu => simp at hd
 | _ => cases vy <;> simp [semO] at hK
theorem rfsOfD_get : ∀ {ds : List DV} {cs : List RfV}, rfsOfD ds = some cs → cs.length = ds.length ∧ ∀ (i : Nat) d c, ds[i]? = some d → cs[i]? = some c → rfOf d = some c
 | [], cs, h => by simp only [rfsOfD, Option.some.injEq] at h; subst h; exact ⟨rfl, fun i d c h => by simp at h⟩
 | d :: ds, cs, h => by
  simp only [rfsOfD] at h
  split at h
  ·rename_i x xs h1 h2
   injection h with h
   subst h
   obtain ⟨e1, e2⟩ := rfsOfD_get h2
   refine ⟨by simp [e1], fun i d' c hd hc => ?_⟩
   cases i with
   | zero => simp only [List.getElem?_cons_zero, Option.some.injEq] at hd hc; subst hd; subst hc; exact h1
   | succ i => exact e2 i d' c (by simpa using hd) (by simpa using hc)
  ·cases h
theorem rfOf_rel {X : Cx} {base : Nat} {L : Loc} {d : DV} {c : RfV} {v : Value} (hc : rfOf d = some c) (h : VRel X base L d v) : RRel X c v := by
 cases d <;> simp [rfOf] at hc <;> subst hc
 all_goals first | exact OwRel.flat h | exact h
theorem s_lda (h : Rel G X s a) {n : Nat} {t : TypeId} (ht : TyIs P t n true) {x : Operand} {ox : O} (hx : OT x ox) (ho : o.op = .load t x)
  (hK : semO P (.lda n) [ox.val s.t] s.b fun v b => K ⟨putD s.t o.dst v, b⟩) : o.wp P a X.w (Post G K) Q := by
 obtain ⟨_, rx⟩ := h.opnd hx
 generalize ox.val s.t = vx at *
 cases vx with
 | addr k sz r off =>
  obtain ⟨blk, hρ, ev⟩ := rx
  simp only [semO] at hK
  cases hbk : getB s.b k with
  | none => simp [hbk] at hK
  | some bx =>
   simp only [hbk] at hK
   obtain ⟨rfl, row, hr, hle, hK⟩ := hK
   obtain ⟨blk', cs, ty, hb⟩ := h.cbox (getB_some hbk) (getB_ne hbk)
   have : blk' = blk := by have := hb.ρ; rw [hρ] at this; injection this with h; exact h.symm
   subst this
   cases hp : rfsOfD (takeD row off n) with
   | none => simp [hp] at hK
   | some xs =>
    simp only [hp] at hK
    obtain ⟨e1, e2⟩ := rfsOfD_get hp
    have hcell : ∀ j, j < n → ∃ u, X.w.cell? ⟨blk', r * bx.size + off + j, none⟩ = some u ∧ VRel X G.base (.cell k r (off + j)) (row[off + j]?.getD .top) u ∧ u.oneCell' = true := by
     intro j hj
     obtain ⟨u, _, h2, h3, h4⟩ := hb.cell hr (i := off + j) (by omega)
     refine ⟨u, by rw [Nat.add_assoc]; exact h2, ?_, h4⟩
     rw [List.getElem?_eq_getElem (by omega)]
     exact h3
    have hf : ∃ f : Nat → Value, ∀ j, j < n → X.w.cell? ⟨blk', r * bx.size + off + j, none⟩ = some (f j) ∧ VRel X G.base (.cell k r (off + j)) (row[off + j]?.getD .top) (f j) ∧ (f j).oneCell' = true := by
     refine ⟨fun j => if hj : j < n then (hcell j hj).choose else undef, fun j hj => ?_⟩
     simp only [dif_pos hj]
     exact (hcell j hj).choose_spec
    obtain ⟨f, hf⟩ := hf
    have hlen : xs.length = n := by rw [e1, takeD_eq]; simp; omega
    refine wp_value (v := .agd xs) h (run_load_agg ht ho ev f fun j hj => (hf j hj).1) (fun _ _ => ⟨_, rfl, by simp [hlen], fun j c u hc hu => ?_⟩) hK
    have hin : j < n := by rw [← hlen]; exact (List.getElem?_eq_some_iff.1 hc).1
    have hd : (takeD row off n)[j]? = some (row[off + j]?.getD .top) := by
     rw [takeD_eq, List.getElem?_take, if_pos hin, List.getElem?_drop, List.getElem?_eq_getElem (by omega)]; rfl
    have : u = f j := by simpa [hin, eq_comm] using hu
    subst this
    exact ⟨rfOf_rel (e2 j _ c hd hc) (hf j hin).2.1, (hf j hin).2.2⟩
 | _ => simp [semO] at hK
theorem s_ents (h : Rel G X s a) {t : TypeId} {x y z : Operand} {ox oy oz : O} (hx : OT x ox) (hy : OT y oy) (hz : OT z oz) (ho : o.op = .entryStore t x y z) (hd : o.dst = none)
  (hK : semO P .ents [ox.val s.t, oy.val s.t, oz.val s.t] s.b fun v b => K ⟨putD s.t o.dst v, b⟩) : o.wp P a X.w (Post G K) Q := by
 obtain ⟨_, rx⟩ := h.opnd hx
 obtain ⟨_, ry⟩ := h.opnd hy
 obtain ⟨_, rz⟩ := h.opnd hz
 generalize ox.val s.t = vx at *
 generalize oy.val s.t = vy at *
 generalize oz.val s.t = vz at *
 unfold semO at hK
 split at hK
 all_goals first
  | exact hK.elim
  | (rename_i e1 e2; cases e1; done)
  | (rename_i e2; cases e2; done)
  | skip
 rename_i k st d e1 e2
 injection e2 with e2 e3
 injection e3 with e3 e4
 injection e4 with e4 _
 subst e2; subst e3; subst e4
 obtain ⟨hone, hK⟩ := hK
 have ey := Flat.intv ry
 cases hbk : getM s.b k with
 | none => simp [hbk] at hK
 | some bx =>
  simp only [hbk] at hK
  obtain ⟨blk, es, clock, e2, e1, m2, m3, m4, m6, m7, m0, m8⟩ := mapOf h hbk rx
  have hfe : setEI st vz bx.rows = setE st vz bx.rows := by unfold setEI; rfl
  rw [hfe] at hK
  cases hf : setE st vz bx.rows with
  | none => simp [hf] at hK
  | some rows' =>
   simp only [hf] at hK
   have hml : es.size = bx.rows.length := by simpa using m7.1
   obtain ⟨j, e, k0, u0, g1, g2, g3, g4, g5⟩ := setE_now m7 hf
   have hj : es[j]? = some e := by simpa using g1
   have hjl : j < es.size := (Array.getElem?_eq_some_iff.1 hj).1
   have hfi : es.findIdx? (fun e => (e.born : Int) == st) = some j := by
    rw [Array.findIdx?_eq_some_iff_getElem]
    refine ⟨hjl, ?_, fun i hi => ?_⟩
    ·have : es[j] = e := (Array.getElem?_eq_some_iff.1 hj).2
     rw [this]; simpa using g2
    ·have hil : i < es.size := by omega
     have := g3 i es[i] hi (by simp [hil])
     simpa using this
   have run : (execOp a.eval o).run P X.w = .ok .skip { X.w with heap := X.w.heap.setIfInBounds blk (.map (es.modify j (fun e => { e with val := a.eval z })) clock) } := by
    simp [execOp, ho, e2, ey, Instr.entryStore, asInt, asIntOf, MapKept.run_getObj_map m4, hfi, MapKept.run_setObj_map _ m4]
   obtain ⟨w', hw, hrel⟩ := map_turn (rows' := rows') (es' := es.modify j (fun e => { e with val := a.eval z })) h hbk (clock' := clock) e1 m2 m3 m4 m6 (born_modify m0 _ _ fun _ => rfl) (by simp [g5, setL_length, hml]) (fun i row e' hr he => by
    subst g5
    rw [getElem?_setL] at hr
    rw [Array.getElem?_modify] at he
    by_cases hij : i = j
    ·subst hij
     rw [if_pos rfl, g4] at hr
     rw [if_pos rfl, hj] at he
     simp only [Option.map_some, Option.some.injEq] at hr he
     subst hr; subst he
     obtain ⟨q1, n1, d1, f1, f2, f3⟩ := m8 i _ e g4 hj
     injection f1 with f1 f1'
     injection f1 with f1
     refine ⟨k0, true, _, ?_, by rw [f1]; exact f2, anyL hone rz _⟩
     simp only [third]
     rw [g2]
    ·rw [if_neg hij] at hr
     rw [if_neg (fun e => hij e.symm)] at he
     exact m8 i row e' hr he)
   rw [hw] at run
   unfold Oper.wp
   rw [run, Oper.upon_skip]
   have hp : a.put o.dst undef = a := by rw [hd]; rfl
   rw [hp]
   refine ⟨_, { X with w := w' }, ?_, rfl, hK⟩
   rw [hd]
   exact hrel
theorem s_bsld (h : Rel G X s a) {size n : Nat} {ag : Bool} {t e : TypeId} {parts : Array (Nat × Operand)} {os : List O} {xs : List Operand} (ho : o.op = .buildSlice t n parts)
  (hu : P.underlying t = some (.slice e)) {i : TypeInfo} {z : Value} (hi : P.info? e = some i) (hz : i.zero = some z) (hsz : i.size = 1) (hn : n ≤ 16777216) (hnm : n ≤ maxLen)
  (hp : parts.toList = (xs.zipIdx 0).map fun x => (x.2, x.1)) (hl : os.length = xs.length) (hos : ∀ (j : Nat) x oo, xs[j]? = some x → os[j]? = some oo → OT x oo)
  (hf : (ltT s.b.length (putD s.t o.dst .top) && ltB s.b.length s.b) = true)
  (hK : semO P (.bsld size n ag) (os.map (O.val s.t)) s.b fun v b => K ⟨putD s.t o.dst v, b⟩) : o.wp P a X.w (Post G K) Q := by
 simp only [semO] at hK
 obtain ⟨rfl, hxl, hn0, hrf, hlt, hK⟩ := hK
 simp only [Bool.and_eq_true] at hf
 obtain ⟨hT, hB⟩ := hf
 simp only [List.length_map] at hxl
 have hlen : xs.length = n := by omega
 generalize hvs : xs.map a.eval = vs
 have hvl : vs.length = n := by rw [← hvs]; simp [hlen]
 have hval : ∀ (j : Nat) v, vs[j]? = some v → ∃ d, (os.map (O.val s.t))[j]? = some d ∧ d.isRef = true ∧ (∀ L, VRel X G.base L d v) ∧ v.oneCell' = true := by
  intro j v hv
  rw [← hvs, List.getElem?_map] at hv
  cases hx : xs[j]? with
  | none => rw [hx] at hv; simp at hv
  | some x =>
   rw [hx] at hv
   simp only [Option.map_some, Option.some.injEq] at hv
   subst hv
   have hj := (List.getElem?_eq_some_iff.1 hx).1
   have hoj : os[j]? = some os[j] := by simp [show j < os.length by omega]
   obtain ⟨L, hvr⟩ := h.opnd (hos j x os[j] hx hoj)
   have hd : (os.map (O.val s.t))[j]? = some (os[j].val s.t) := by rw [List.getElem?_map, hoj]; rfl
   have hr := List.all_eq_true.1 hrf _ (List.mem_of_getElem? hd)
   refine ⟨_, hd, hr, fun L' => anyL (by rw [hr]; rfl) hvr L', ?_⟩
   generalize os[j].val s.t = dv at hvr hr
   cases dv with
   | addr k sz r o => obtain ⟨b, _, e⟩ := hvr; rw [e]; rfl
   | bs k sz ag lo m => obtain ⟨b, cap, _, _, _, _, e⟩ := hvr; rw [e]; rfl
   | mh k => obtain ⟨b, _, e⟩ := hvr; rw [e]; rfl
   | _ => simp [DV.isRef] at hr
 have hvcells : ∀ v ∈ vs, v.cells.size = i.size := by
  intro v hv
  obtain ⟨j, hj⟩ := List.getElem?_of_mem hv
  obtain ⟨d, _, _, _, h1⟩ := hval j v hj
  rw [cells_of_one h1, hsz]; rfl
 have hev : (parts.map fun (i, x) => (i, a.eval x)).toList = (vs.zipIdx 0).map fun x => (x.2, x.1) := by
  rw [Array.toList_map, hp, ← hvs, List.zipIdx_map, List.map_map, List.map_map]
  rfl
 have hcap := Go.Great.fill_whole (by rw [hsz]; omega) vs ((Array.range (n * i.size)).map (z.cells[· % z.cells.size]!)) hvcells (by simp [hvl])
 have hr := run_buildSlice (P := P) X.w t e n (parts.map fun (i, x) => (i, a.eval x)) _ i z hu hi hz (by rw [hsz]; omega) (by rw [hsz]; omega) (by rw [hev]; exact hcap)
 have hcur : (vs.flatMap fun v => v.cells.toList) = vs := by
  have : ∀ (l : List Value), (∀ v ∈ l, v.cells.size = 1 → v.cells = #[v]) → (∀ v ∈ l, v.cells = #[v]) → (l.flatMap fun v => v.cells.toList) = l := by
   intro l _ h
   induction l with
   | nil => rfl
   | cons v l ih => simp only [List.flatMap_cons]; rw [h v (by simp), ih (fun _ _ _ => h _ (by simp [*])) (fun v hv => h v (by simp [hv]))]; rfl
  exact this vs (fun v hv _ => by obtain ⟨j, hj⟩ := List.getElem?_of_mem hv; obtain ⟨d, _, _, _, h1⟩ := hval j v hj; exact cells_of_one h1) (fun v hv => by obtain ⟨j, hj⟩ := List.getElem?_of_mem hv; obtain ⟨d, _, _, _, h1⟩ := hval j v hj; exact cells_of_one h1)
 rw [hcur] at hr
 have run : (execOp a.eval o).run P X.w = .ok (.value (.slice (some ⟨X.w.heap.size, 0, none⟩) n n)) (X.w.alloc (.cells vs.toArray e)) := by
  simp only [execOp, ho, Sem.run_bind]
  rw [hr]; rfl
 have hrl : ((os.map (O.val s.t)).map fun x => [x]).length = n := by simp; omega
 refine app_new (K := K) (size := 1) h hT hB (by decide) (rows := (os.map (O.val s.t)).map fun x => [x]) (vs := vs) (rest := #[]) (cap := n) (ag := ag) (ty := e) (w' := X.w.alloc (.cells vs.toArray e)) (by have := NewBlock.alloc X.w vs.toArray e; simpa using this)
  (fun row hrow => ?_) (by simp; omega) (by simp; omega) (by omega) hnm (fun i' j row d hr hd => ?_) (fun row hr d hd q hq => ?_) (by rw [hrl]; exact run) (b' := s.b ++ [some ⟨true, 1, (os.map (O.val s.t)).map fun x => [x], false⟩]) (fun j bx hj => hj) (by rw [hrl]; exact hK)
 ·obtain ⟨x, _, rfl⟩ := List.mem_map.1 hrow; rfl
 ·rw [List.getElem?_map] at hr
  cases hd0 : (os.map (O.val s.t))[i']? with
  | none => rw [hd0] at hr; simp at hr
  | some d0 =>
   rw [hd0] at hr
   simp only [Option.map_some, Option.some.injEq] at hr
   subst hr
   cases j with
   | zero =>
    simp at hd
    subst hd
    have hil := (List.getElem?_eq_some_iff.1 hd0).1
    simp at hil
    have hv : vs[i']? = some vs[i'] := by simp [show i' < vs.length by omega]
    obtain ⟨d1, g1, g2, g3, g4⟩ := hval i' _ hv
    rw [hd0] at g1
    injection g1 with g1
    subst g1
    exact ⟨_, by simpa using hv, g3, g4⟩
   | succ j => simp at hd
 ·obtain ⟨x, hx, rfl⟩ := List.mem_map.1 hr
  simp at hd
  subst hd
  exact ltD_ment (List.all_eq_true.1 hlt _ hx) hq
theorem setsR_length (l : List RfV) (o : Nat) (cs : List RfV) : (setsR l o cs).length = l.length := by
 induction cs generalizing l o with
 | nil => rfl
 | cons c cs ih => simp [setsR, ih, setL_length]
theorem setsR_get (l : List RfV) (o : Nat) (cs : List RfV) (i : Nat) : (setsR l o cs)[i]? = if o ≤ i ∧ i < o + cs.length ∧ i < l.length then cs[i - o]? else l[i]? := by
 induction cs generalizing l o with
 | nil => simp [setsR]; intro h1 h2; omega
 | cons c cs ih =>
  rw [setsR, ih, setL_length, getElem?_setL]
  by_cases h1 : i = o
  ·subst h1
   rw [if_neg (by omega), if_pos rfl]
   by_cases hl : i < l.length
   ·rw [if_pos ⟨Nat.le_refl _, by simp, hl⟩]; simp [hl]
   ·rw [if_neg (by omega)]; simp [hl]
  ·by_cases h2 : o + 1 ≤ i ∧ i < o + 1 + cs.length ∧ i < l.length
   ·rw [if_pos h2, if_pos ⟨by omega, by simp; omega, h2.2.2⟩]
    have : i - o = (i - (o + 1)) + 1 := by omega
    rw [this]; simp
   ·rw [if_neg h2, if_neg h1, if_neg (by simp; omega)]
def RCells (X : Cx) (cs : List RfV) (vs : Array Value) : Prop :=
 vs.size = cs.length ∧ ∀ (i : Nat) c v, cs[i]? = some c → vs[i]? = some v → RRel X c v ∧ v.oneCell' = true
theorem rfsOf_get : ∀ {l : List PV} {i : Nat}, (rfsOf l)[i]? = (l[i]?).map RfV.p
 | [], i => by simp [rfsOf]
 | x :: l, 0 => by simp [rfsOf]
 | x :: l, i + 1 => by simp only [rfsOf, List.getElem?_cons_succ]; exact rfsOf_get
theorem rfsOf_length : ∀ {l : List PV}, (rfsOf l).length = l.length
 | [] => rfl
 | x :: l => by simp [rfsOf, rfsOf_length]
theorem partR_rel {X : Cx} {base : Nat} {L : Loc} {x : DV} {v : Value} (h : VRel X base L x v) {cs : List RfV} (hc : partR x = some cs) : RCells X cs v.cells := by
 have single : ∀ {c : RfV}, cs = [c] → RRel X c v → v.oneCell' = true → RCells X cs v.cells := by
  intro c e hr hone
  subst e
  rw [cells_of_one hone]
  refine ⟨rfl, fun i d u hd hu => ?_⟩
  cases i with
  | zero => simp at hd hu; subst hd; subst hu; exact ⟨hr, hone⟩
  | succ i => simp at hd
 cases x with
 | p z =>
  simp only [partR, Option.some.injEq] at hc
  subst hc
  obtain ⟨e1, e2⟩ := Flat.cells (show Flat X.M X.w z v from h)
  refine ⟨by rw [rfsOf_length]; exact e1, fun i c u hc hu => ?_⟩
  rw [rfsOf_get] at hc
  cases hz : (rowCells z)[i]? with
  | none => rw [hz] at hc; simp at hc
  | some c0 =>
   rw [hz] at hc
   simp only [Option.map_some, Option.some.injEq] at hc
   subst hc
   obtain ⟨f1, f2⟩ := e2 i c0 u hz hu
   exact ⟨f1, f1.oneCell f2⟩
 | ow sz nl rows =>
  simp only [partR, Option.some.injEq] at hc
  have := OwRel.flat h
  exact single hc.symm this (this.oneCell rfl)
 | addr k sz r o =>
  simp only [partR, Option.some.injEq] at hc
  exact single hc.symm h (by obtain ⟨blk, _, rfl⟩ := h; rfl)
 | bs k sz ag lo n =>
  simp only [partR, Option.some.injEq] at hc
  exact single hc.symm h (by obtain ⟨blk, cap, _, _, _, _, rfl⟩ := h; rfl)
 | mh k =>
  simp only [partR, Option.some.injEq] at hc
  exact single hc.symm h (by obtain ⟨blk, _, rfl⟩ := h; rfl)
 | _ => simp [partR] at hc
theorem fillR_rel {X : Cx} {base : Nat} {place : Nat → Option (Nat × Nat)} : ∀ (parts : List (Nat × Value)) (offs : List (Nat × Nat)) (ps : List DV) (zero : List RfV) (zs : Array Value) (cs : List RfV),
  RCells X zero zs → parts.length = offs.length →
  (∀ (k : Nat) (p : Nat × Value) (o : Nat × Nat), parts[k]? = some p → offs[k]? = some o → place p.1 = some o ∧ o.1 + o.2 ≤ zero.length) →
  (∀ (k : Nat) (p : Nat × Value) x, parts[k]? = some p → ps[k]? = some x → ∃ L, VRel X base L x p.2) → fillR zero offs ps = some cs →
  ∃ cells, Instr.fill place zs parts = some cells ∧ RCells X cs cells
 | [], [], [], zero, zs, cs, hz, _, _, _, hf => by
  simp [fillR] at hf
  subst hf
  exact ⟨zs, rfl, hz⟩
 | [], [], _ :: _, _, _, _, _, _, _, _, hf => by simp [fillR] at hf
 | [], _ :: _, _, _, _, _, _, hl, _, _, _ => by simp at hl
 | _ :: _, [], _, _, _, _, _, hl, _, _, _ => by simp at hl
 | _ :: _, _ :: _, [], _, _, _, _, _, _, _, hf => by simp [fillR] at hf
 | p :: parts, o :: offs, x :: ps, zero, zs, cs, hz, hl, hpl, hfl, hf => by
  simp only [fillR] at hf
  split at hf
  ·rename_i c0 hpx
   split at hf
   ·rename_i hlen
    obtain ⟨hp, hb⟩ := hpl 0 p o rfl rfl
    obtain ⟨L, hx⟩ := hfl 0 p x rfl rfl
    obtain ⟨c1, c2⟩ := partR_rel hx hpx
    obtain ⟨pi, pv⟩ := p
    obtain ⟨oo, os⟩ := o
    simp only at hp hb hlen c1 c2 hf
    have hsz : pv.cells.size = os := by rw [c1, hlen]
    obtain ⟨f1, f2⟩ := Go.Great.foldl_set oo pv.cells.toList 0 zs
    have hz' : RCells X (setsR zero oo c0) ((pv.cells.toList.zipIdx 0).foldl (fun cs (x : Value × Nat) => cs.setIfInBounds (oo + x.2) x.1) zs) := by
     refine ⟨by rw [f1, setsR_length, hz.1], fun i c v hc hv => ?_⟩
     rw [setsR_get] at hc
     rw [f2] at hv
     simp only [Nat.add_zero, Array.length_toList, hz.1, c1] at hv
     by_cases hin : oo ≤ i ∧ i < oo + c0.length ∧ i < zero.length
     ·rw [if_pos hin] at hc hv
      exact c2 _ c v hc (by simpa using hv)
     ·rw [if_neg hin] at hc hv
      exact hz.2 i c v hc hv
    obtain ⟨cells, g1, g2⟩ := fillR_rel (place := place) parts offs ps _ _ cs hz' (by simpa using hl) (fun k p o hp ho => by
     have := hpl (k + 1) p o (by simpa using hp) (by simpa using ho)
     rw [setsR_length]; exact this) (fun k p x hp hx => hfl (k + 1) p x (by simpa using hp) (by simpa using hx)) hf
    refine ⟨cells, ?_, g2⟩
    unfold Instr.fill
    rw [hp]
    simp only
    rw [if_neg (by rw [hz.1, hsz]; simp; omega)]
    have e : pv.cells.zipIdx.foldl (fun cs (x : Value × Nat) => match x with | (c, j) => cs.setIfInBounds (oo + j) c) zs = (pv.cells.toList.zipIdx 0).foldl (fun cs (x : Value × Nat) => cs.setIfInBounds (oo + x.2) x.1) zs := by
     rw [← Array.foldl_toList]; simp
    rw [e]; exact g1
   ·cases hf
  ·cases hf
theorem s_bldo (h : Rel G X s a) {t : TypeId} {parts : Array (Nat × Operand)} {os : List O} {zero : List PV} {offs : List (Nat × Nat)} (ho : o.op = .build t parts)
  {fields : Array Field} (hu : P.underlying t = some (.struct fields)) {it : TypeInfo} {z : Value} (hi : P.info? t = some it) (hz : it.zero = some z)
  {places : List (Nat × Nat)} (hpl : fields.toList.mapM (fun f => (P.info? f.type).map fun i => (f.offset, i.size)) = some places)
  (hzs : z.cells.size = zero.length) (hzr : ∀ (i : Nat) c v, zero[i]? = some c → z.cells[i]? = some v → ZP c v)
  (hl : parts.size = offs.length) (hl2 : os.length = parts.size)
  (hoff : ∀ (k : Nat) (p : Nat × Operand) (o : Nat × Nat), parts[k]? = some p → offs[k]? = some o → places[p.1]? = some o ∧ o.1 + o.2 ≤ zero.length)
  (hos : ∀ (k : Nat) (p : Nat × Operand) oo, parts[k]? = some p → os[k]? = some oo → OT p.2 oo)
  (hK : semO P (.bldo zero offs) (os.map (O.val s.t)) s.b fun v b => K ⟨putD s.t o.dst v, b⟩) : o.wp P a X.w (Post G K) Q := by
 simp only [semO] at hK
 cases hf : fillR (rfsOf zero) offs (os.map (O.val s.t)) with
 | none => simp [hf] at hK
 | some cs =>
  simp only [hf] at hK
  have hz0 : RCells X (rfsOf zero) z.cells := ⟨by rw [rfsOf_length]; exact hzs, fun i c v hc hv => by
   rw [rfsOf_get] at hc
   cases hzz : zero[i]? with
   | none => rw [hzz] at hc; simp at hc
   | some c0 =>
    rw [hzz] at hc
    simp only [Option.map_some, Option.some.injEq] at hc
    subst hc
    obtain ⟨f1, f2⟩ := (hzr i c0 v hzz hv).rel (M := X.M) (w := X.w)
    exact ⟨f1, f1.oneCell f2⟩⟩
  obtain ⟨cells, g1, g2⟩ := fillR_rel (X := X) (base := G.base) (place := fun x => places.toArray[x]?) (parts.toList.map fun (i, x) => (i, a.eval x)) offs (os.map (O.val s.t)) (rfsOf zero) z.cells cs hz0
   (by simp [hl]) (fun k p o hp ho => by
    rw [List.getElem?_map] at hp
    cases hpk : parts.toList[k]? with
    | none => rw [hpk] at hp; simp at hp
    | some q =>
     rw [hpk] at hp
     simp at hp
     subst hp
     have := hoff k q o (by simpa using hpk) ho
     rw [rfsOf_length]
     simpa using this) (fun k p x hp hx => by
    rw [List.getElem?_map] at hp
    cases hpk : parts.toList[k]? with
    | none => rw [hpk] at hp; simp at hp
    | some q =>
     rw [hpk] at hp
     simp at hp
     subst hp
     have hkl : k < os.length := by
      have := (List.getElem?_eq_some_iff.1 hpk).1
      simp at this; omega
     have hok : os[k]? = some os[k] := by simp [hkl]
     rw [List.getElem?_map, hok] at hx
     simp only [Option.map_some, Option.some.injEq] at hx
     subst hx
     exact h.opnd (hos k q os[k] (by simpa using hpk) hok)) hf
  have hb : P.built t (parts.map fun (i, x) => (i, a.eval x)).toList = some cells := by
   unfold Program.built
   simp only [hi, hu, hz, hpl]
   rw [Array.toList_map]
   exact g1
  have run : (execOp a.eval o).run P X.w = .ok (.value (.agg cells)) X.w := by
   simp only [execOp, ho, Sem.run_bind]
   rw [run_build X.w t _ cells hb]; rfl
  exact wp_value (v := .agd cs) h run (fun _ _ => ⟨cells, rfl, g2.1, g2.2⟩) hK
end
end Go.Proofs.YtnjphclbpgajpaaGreatDoor.Vc
