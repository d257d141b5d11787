/- Part of a proof over a Go program: Cbx, Bxo, Csw, Beg3, Beg4, Ljn. No condition. -/
import Derived.Test.YtnjphclbpgajpaaGreatDoorQ19
import Derived.Test.YtnjphclbpgajpaaGreatDoorQ05
import Derived.Test.YtnjphclbpgajpaaGreatDoorQ15
import Derived.Test.YtnjphclbpgajpaaGreatDoorQ10
import Derived.Test.YtnjphclbpgajpaaGreatDoorQ18
import Derived.Test.YtnjphclbpgajpaaGreatDoorQ13
import Derived.Test.YtnjphclbpgajpaaGreatDoorQ12
set_option linter.unnecessarySimpa false
set_option linter.unusedSectionVars false
set_option linter.unusedSimpArgs false
set_option linter.unusedVariables false
set_option maxHeartbeats 4000000
set_option maxRecDepth 1000000
namespace Go.Proofs.YtnjphclbpgajpaaGreatDoor.Vc
open Go.Conc Go.RowKit
def chB (cap : Nat) (items : List PV) (old : Bool) : Box := ⟨true, 1, [[.ob (.ch cap items)]], old⟩
theorem ch_open {X : Cx} {base k cap : Nat} {items : List PV} {old : Bool} (h : BX X base k (chB cap items old)) : ∃ (blk : Nat) (cs : Array Value) (ty : TypeId) (g sent got : Nat) (buf : Array Value), BoxRel X base k (chB cap items old) blk cs ty ∧
  cs[0]? = some (.chan (some g)) ∧ X.own g = some (.cell k 0 0) ∧ (base ≤ g ∨ ∃ j, X.ex j = some g) ∧ X.w.heap[g]? = some (.chan cap buf false sent got false) ∧ (∀ o, X.M g o) ∧ buf.size = items.length ∧
  ∀ (i : Nat) x u, items[i]? = some x → buf[i]? = some u → Flat X.M X.w x u := by
 unfold BX at h
 rw [if_neg (by simp [chB])] at h
 obtain ⟨blk, cs, ty, hb⟩ := h
 have hs : 1 ≤ cs.size := by have := hb.size; simp [chB] at this; exact this
 have h0 : cs[0]? = some cs[0] := by simp
 have hc := (hb.cells 0 0 [.ob (.ch cap items)] (.ob (.ch cap items)) cs[0] rfl rfl (by simpa [chB] using h0)).1
 have hc : ObRel X base (.cell k 0 0) (.ch cap items) cs[0] := hc
 generalize cs[0] = u at *
 cases hc with
 | ch _ _ g _ sent got buf h1 h2 h3 h4 h5 h6 => exact ⟨blk, cs, ty, g, sent, got, buf, hb, h0, h1, h2, h3, h4, h5, h6⟩
theorem ch_cell {X : Cx} {base k cap : Nat} {items : List PV} {old : Bool} {blk : Nat} {cs : Array Value} {ty : TypeId} {g : Nat} (hb : BoxRel X base k (chB cap items old) blk cs ty) (h0 : cs[0]? = some (.chan (some g))) : X.w.cell? ⟨blk, 0, none⟩ = some (.chan (some g)) := by
 simp only [World.cell?]
 rw [hb.heap]
 exact h0
theorem ch_turn {X : Cx} {cap : Nat} {items items' : List PV} (hh : Hand X [chB cap items true]) {blk : Nat} {cs : Array Value} {ty : TypeId} {g sent got sent' got' : Nat} {buf buf' : Array Value} (hb : BoxRel X X.w.heap.size 0 (chB cap items true) blk cs ty)
  (h0 : cs[0]? = some (.chan (some g))) (h1 : X.own g = some (.cell 0 0 0)) (h2 : X.w.heap.size ≤ g ∨ ∃ j, X.ex j = some g) (h3 : X.w.heap[g]? = some (.chan cap buf false sent got false)) (h4 : ∀ o, X.M g o)
  (h5 : buf'.size = items'.length) (h6 : ∀ (i : Nat) x u, items'[i]? = some x → buf'[i]? = some u → Flat X.M X.w x u) {w' : World} (ht : ChTurn X.w w' g (.chan cap buf' false sent' got' false)) {r : DV} {v : Value}
  (hr : Keeps X.M X.w X.M w' → VRel { X with w := w' } X.w.heap.size (.tmp 0) r v) : Back X { X with w := w' } 1 [some (chB cap items' true)] r v := by
 have hgl : g < X.w.heap.size := (Array.getElem?_eq_some_iff.1 h3).1
 have hex : ∃ j, X.ex j = some g := h2.resolve_left (by omega)
 have hne : blk ≠ g := fun e => by have := hb.heap; rw [e, h3] at this; injection this with this; cases this
 have hbl : blk < X.w.heap.size := (Array.getElem?_eq_some_iff.1 hb.heap).1
 have hk : Keeps X.M X.w X.M w' := fun b o u hM hc => by
  have hlt := World.block_lt_of_cell? _ _ hc
  have hbg : b ≠ g := fun e => by subst e; exact hM (h4 o)
  exact ⟨(World.cell?_of_block (w := X.w) (ht.other b hlt hbg)).trans hc, hM⟩
 refine ⟨rfl, hr hk, fun i bx hi => ?_, fun _ _ => rfl, fun _ _ _ _ => Iff.rfl, ⟨ht.os, ht.tape, ht.output, ht.size, fun q hq hx => ht.other q hq (fun e => ?_), fun q hq => ?_⟩⟩
 ·match i, hi with
  | 0, hi =>
   simp only [List.getElem?_cons_zero, Option.some.injEq] at hi
   subst hi
   refine ⟨rfl, ?_⟩
   unfold BX
   rw [if_neg (by simp [chB])]
   refine ⟨blk, cs, ty, hb.ρ, hb.own, hb.hbase, (ht.other blk hbl hne).trans hb.heap, by have := hb.size; simpa [chB] using this, fun row hrow => ?_, fun r0 o0 row d u hrow hd hu => ?_, fun _ => hb.live rfl, fun h => by cases h⟩
   ·simp [chB] at hrow; subst hrow; rfl
   ·match r0, hrow with
    | 0, hrow =>
     simp only [chB, List.getElem?_cons_zero, Option.some.injEq] at hrow
     subst hrow
     match o0, hd with
     | 0, hd =>
      simp only [List.getElem?_cons_zero, Option.some.injEq] at hd
      subst hd
      have hu' : cs[0]? = some u := by simpa [chB] using hu
      rw [h0] at hu'
      injection hu' with hu'
      subst hu'
      exact ⟨.ch _ _ g cap sent' got' buf' h1 h2 ht.at_ h4 h5 fun i x u hx hu => (h6 i x u hx hu).mono hk, rfl⟩
     | o0 + 1, hd => simp at hd
    | r0 + 1, hrow => simp [chB] at hrow
  | i + 1, hi => simp at hi
 ·obtain ⟨j, hj⟩ := hex
  exact hx j (by rw [e]; exact hj)
 ·intro cs' ty' hq'
  have hqg : q ≠ g := fun e => by subst e; rw [h3] at hq'; injection hq' with hq'; cases hq'
  exact ⟨cs', ty', (ht.other q hq hqg).trans hq', rfl⟩
theorem ChTurn.same {w : World} {g : Nat} {o : Obj} (h : w.heap[g]? = some o) : ChTurn w w g o := ⟨rfl, rfl, rfl, Nat.le_refl _, h, fun _ _ _ => rfl⟩
theorem args2 {cargs : Array Value} (h : cargs.size = 2) : ∃ a b, cargs = #[a, b] := by
 obtain ⟨l⟩ := cargs
 match l, h with
 | [a, b], _ => exact ⟨a, b, rfl⟩
theorem args1 {cargs : Array Value} (h : cargs.size = 1) : ∃ a, cargs = #[a] := by
 obtain ⟨l⟩ := cargs
 match l, h with
 | [a], _ => exact ⟨a, rfl⟩
theorem putI_o (cap : Nat) (items : List PV) (n : Int) : OCall Tryz.prog 119 [.addr 0 1 0 0, .p (.int .i64 n)] [chB cap items true]
  [some (chB cap (bif Nat.blt items.length cap then items ++ [.int .i64 n] else items) true)] (.p (.bool (Nat.blt items.length cap))) := by
 refine ⟨⟨_, Tryz.func119, rfl, by decide⟩, .inl rfl, Nat.le_refl _, fun X cargs hl hh ha => ?_⟩
 obtain ⟨v0, v1, rfl⟩ := args2 hl
 obtain ⟨blk, cs, ty, g, sent, got, buf, hb, h0, h1, h2, h3, h4, h5, h6⟩ := ch_open (hh.boxes 0 _ rfl)
 obtain ⟨blk', e1, e2⟩ : ∃ blk', X.ρ 0 = some blk' ∧ v0 = .pointer (some ⟨blk', 0 * 1 + 0, none⟩) := ha 0 _ _ rfl rfl
 have : blk' = blk := by have := hb.ρ; rw [e1] at this; injection this
 subst this
 have e3 : v1 = .int .i64 n := Flat.intv (ha 1 _ _ rfl rfl)
 subst e2; subst e3
 have hc := ch_cell hb h0
 by_cases hlt : items.length < cap
 ·have hbl : Nat.blt items.length cap = true := by simpa [Nat.blt_eq] using hlt
  refine (putI_room n hc h3 (by omega)).mono fun e w' hr => ?_
  obtain ⟨rfl, rfl⟩ := hr
  refine ⟨.bool true, { X with w := _ }, rfl, rfl, ?_⟩
  rw [hbl]
  refine ch_turn (r := .p (.bool true)) (v := .bool true) (items' := items ++ [.int .i64 n]) (buf' := buf.push (.int .i64 n)) hh hb h0 h1 h2 h3 h4 (by simp [h5]) (fun i x u hx hu => ?_) ((ChTurn.same h3).first (Array.getElem?_eq_some_iff.1 h3).1) fun _ => Flat.bool true
  rw [List.getElem?_append] at hx
  rw [Array.getElem?_push] at hu
  by_cases hi : i < items.length
  ·rw [if_pos hi] at hx
   rw [if_neg (by omega)] at hu
   exact h6 i x u hx hu
  ·rw [if_neg hi] at hx
   have h00 : i - items.length = 0 := by have := (List.getElem?_eq_some_iff.1 hx).1; simp at this; omega
   rw [h00] at hx
   rw [if_pos (by omega)] at hu
   simp only [List.getElem?_cons_zero, Option.some.injEq] at hx hu
   subst hx; subst hu
   exact .int _ _
 ·have hbl : Nat.blt items.length cap = false := by
   cases h : Nat.blt items.length cap with
   | false => rfl
   | true => exact absurd (by simpa [Nat.blt_eq] using h) hlt
  refine (putI_full n hc h3 (by omega)).mono fun e w' hr => ?_
  obtain ⟨rfl, rfl⟩ := hr
  refine ⟨.bool false, { X with w := _ }, rfl, rfl, ?_⟩
  rw [hbl]
  exact ch_turn (r := .p (.bool false)) (v := .bool false) (items' := items) (buf' := buf) hh hb h0 h1 h2 h3 h4 h5 h6 (ChTurn.same h3) fun _ => Flat.bool false
theorem flat5 {M : Nat → Nat → Prop} {w : World} {a0 a1 a2 a3 a4 : Int} {v : Value} (h : Flat M w (.agg [.int .i64 a0, .int .i64 a1, .int .i64 a2, .int .i64 a3, .int .i64 a4]) v) : v = .agg #[.int .i64 a0, .int .i64 a1, .int .i64 a2, .int .i64 a3, .int .i64 a4] := by
 cases h with
 | agg _ vs hl h1 hc =>
  obtain ⟨l⟩ := vs
  match l, hl with
  | [b0, b1, b2, b3, b4], _ =>
   have e0 := Flat.intv (hc 0 _ b0 rfl rfl)
   have e1 := Flat.intv (hc 1 _ b1 rfl rfl)
   have e2 := Flat.intv (hc 2 _ b2 rfl rfl)
   have e3 := Flat.intv (hc 3 _ b3 rfl rfl)
   have e4 := Flat.intv (hc 4 _ b4 rfl rfl)
   rw [e0, e1, e2, e3, e4]
theorem flat5_mk {M : Nat → Nat → Prop} {w : World} (a0 a1 a2 a3 a4 : Int) : Flat M w (.agg [.int .i64 a0, .int .i64 a1, .int .i64 a2, .int .i64 a3, .int .i64 a4]) (.agg #[.int .i64 a0, .int .i64 a1, .int .i64 a2, .int .i64 a3, .int .i64 a4]) := by
 refine .agg _ _ rfl (fun c hc => ?_) fun i c u hc hu => ?_
 ·simp at hc; rcases hc with rfl | rfl | rfl | rfl | rfl <;> rfl
 ·match i, hc, hu with
  | 0, hc, hu => simp at hc hu; subst hc; subst hu; exact .int _ _
  | 1, hc, hu => simp at hc hu; subst hc; subst hu; exact .int _ _
  | 2, hc, hu => simp at hc hu; subst hc; subst hu; exact .int _ _
  | 3, hc, hu => simp at hc hu; subst hc; subst hu; exact .int _ _
  | 4, hc, hu => simp at hc hu; subst hc; subst hu; exact .int _ _
  | i + 5, hc, hu => simp at hc
theorem putM_o (cap : Nat) (items : List PV) (a0 a1 a2 a3 a4 : Int) : OCall Tryz.prog 62 [.addr 0 1 0 0, .p (.agg [.int .i64 a0, .int .i64 a1, .int .i64 a2, .int .i64 a3, .int .i64 a4])] [chB cap items true]
  [some (chB cap (bif Nat.blt items.length cap then items ++ [.agg [.int .i64 a0, .int .i64 a1, .int .i64 a2, .int .i64 a3, .int .i64 a4]] else items) true)] (.p (.bool (Nat.blt items.length cap))) := by
 refine ⟨⟨_, Tryz.func62, rfl, by decide⟩, .inl rfl, Nat.le_refl _, fun X cargs hl hh ha => ?_⟩
 obtain ⟨v0, v1, rfl⟩ := args2 hl
 obtain ⟨blk, cs, ty, g, sent, got, buf, hb, h0, h1, h2, h3, h4, h5, h6⟩ := ch_open (hh.boxes 0 _ rfl)
 obtain ⟨blk', e1, e2⟩ : ∃ blk', X.ρ 0 = some blk' ∧ v0 = .pointer (some ⟨blk', 0 * 1 + 0, none⟩) := ha 0 _ _ rfl rfl
 have : blk' = blk := by have := hb.ρ; rw [e1] at this; injection this
 subst this
 have e3 := flat5 (ha 1 _ _ rfl rfl)
 subst e2; subst e3
 have hc := ch_cell hb h0
 have hal : ∀ cs ty, ChTurn X.w (X.w.alloc (.cells cs ty (0, 0))) g (.chan cap buf false sent got false) := fun cs ty => (ChTurn.same h3).alloc _
 by_cases hlt : items.length < cap
 ·have hbl : Nat.blt items.length cap = true := by simpa [Nat.blt_eq] using hlt
  refine (putM_room a0 a1 a2 a3 a4 hc h3 (by omega)).mono fun e w' hr => ?_
  obtain ⟨rfl, rfl⟩ := hr
  refine ⟨.bool true, { X with w := _ }, rfl, rfl, ?_⟩
  rw [hbl]
  refine ch_turn (r := .p (.bool true)) (v := .bool true) (items' := items ++ [.agg [.int .i64 a0, .int .i64 a1, .int .i64 a2, .int .i64 a3, .int .i64 a4]]) (buf' := buf.push (.agg #[.int .i64 a0, .int .i64 a1, .int .i64 a2, .int .i64 a3, .int .i64 a4])) hh hb h0 h1 h2 h3 h4 (by simp [h5]) (fun i x u hx hu => ?_) ((hal _ _).first (Array.getElem?_eq_some_iff.1 (hal _ _).at_).1) fun _ => Flat.bool true
  rw [List.getElem?_append] at hx
  rw [Array.getElem?_push] at hu
  by_cases hi : i < items.length
  ·rw [if_pos hi] at hx
   rw [if_neg (by omega)] at hu
   exact h6 i x u hx hu
  ·rw [if_neg hi] at hx
   have h00 : i - items.length = 0 := by have := (List.getElem?_eq_some_iff.1 hx).1; simp at this; omega
   rw [h00] at hx
   rw [if_pos (by omega)] at hu
   simp only [List.getElem?_cons_zero, Option.some.injEq] at hx hu
   subst hx; subst hu
   exact flat5_mk _ _ _ _ _
 ·have hbl : Nat.blt items.length cap = false := by
   cases h : Nat.blt items.length cap with
   | false => rfl
   | true => exact absurd (by simpa [Nat.blt_eq] using h) hlt
  refine (putM_full a0 a1 a2 a3 a4 hc h3 (by omega)).mono fun e w' hr => ?_
  obtain ⟨rfl, rfl⟩ := hr
  refine ⟨.bool false, { X with w := _ }, rfl, rfl, ?_⟩
  rw [hbl]
  exact ch_turn (r := .p (.bool false)) (v := .bool false) (items' := items) (buf' := buf) hh hb h0 h1 h2 h3 h4 h5 h6 (hal _ _) fun _ => Flat.bool false
theorem tup2 {X : Cx} {base : Nat} {L : Loc} {x : PV} {b : Bool} {u : Value} (h : Flat X.M X.w x u) : VRel X base L (.tup [.p x, .p (.bool b)]) (.tuple #[u, .bool b]) := by
 refine ⟨#[u, .bool b], rfl, rfl, fun j d v hd hv => ?_⟩
 match j, hd, hv with
 | 0, hd, hv => simp at hd hv; subst hd; subst hv; exact h
 | 1, hd, hv => simp at hd hv; subst hd; subst hv; exact Flat.bool b
 | j + 2, hd, hv => simp at hd
theorem drop_one {M : Nat → Nat → Prop} {w : World} {x : PV} {items : List PV} {buf : Array Value} (h5 : buf.size = (x :: items).length) (h6 : ∀ (i : Nat) y u, (x :: items)[i]? = some y → buf[i]? = some u → Flat M w y u) :
  (buf.extract 1 buf.size).size = items.length ∧ ∀ (i : Nat) y u, items[i]? = some y → (buf.extract 1 buf.size)[i]? = some u → Flat M w y u := by
 refine ⟨by simp at h5 ⊢; omega, fun i y u hy hu => ?_⟩
 refine h6 (i + 1) y u (by simpa using hy) ?_
 rw [Array.getElem?_extract] at hu
 split at hu
 ·rw [Nat.add_comm]; exact hu
 ·cases hu
theorem takeI_some_o (cap : Nat) (x : PV) (items : List PV) : OCall Tryz.prog 165 [.addr 0 1 0 0] [chB cap (x :: items) true] [some (chB cap items true)] (.tup [.p x, .p (.bool true)]) := by
 refine ⟨⟨_, Tryz.func165, rfl, by decide⟩, .inl rfl, Nat.le_refl _, fun X cargs hl hh ha => ?_⟩
 obtain ⟨v0, rfl⟩ := args1 hl
 obtain ⟨blk, cs, ty, g, sent, got, buf, hb, h0, h1, h2, h3, h4, h5, h6⟩ := ch_open (hh.boxes 0 _ rfl)
 obtain ⟨blk', e1, e2⟩ : ∃ blk', X.ρ 0 = some blk' ∧ v0 = .pointer (some ⟨blk', 0 * 1 + 0, none⟩) := ha 0 _ _ rfl rfl
 have : blk' = blk := by have := hb.ρ; rw [e1] at this; injection this
 subst this
 subst e2
 have hc := ch_cell hb h0
 have hp : 0 < buf.size := by rw [h5]; simp
 have hb0 : buf[0]? = some buf[0] := by simp
 have hf := h6 0 _ _ rfl hb0
 refine (takeI_some hc h3 hp hb0).mono fun e w' hr => ?_
 obtain ⟨rfl, rfl⟩ := hr
 generalize buf[0] = u at *
 obtain ⟨k1, k2⟩ := drop_one h5 h6
 refine ⟨.tuple #[u, .bool true], { X with w := _ }, rfl, rfl, ?_⟩
 exact ch_turn (r := .tup [.p x, .p (.bool true)]) hh hb h0 h1 h2 h3 h4 k1 k2 ((ChTurn.same h3).first (Array.getElem?_eq_some_iff.1 h3).1) fun hk => tup2 (hf.mono hk)
theorem takeI_none_o (cap : Nat) : OCall Tryz.prog 165 [.addr 0 1 0 0] [chB cap [] true] [some (chB cap [] true)] (.tup [.p (.int .i64 0), .p (.bool false)]) := by
 refine ⟨⟨_, Tryz.func165, rfl, by decide⟩, .inl rfl, Nat.le_refl _, fun X cargs hl hh ha => ?_⟩
 obtain ⟨v0, rfl⟩ := args1 hl
 obtain ⟨blk, cs, ty, g, sent, got, buf, hb, h0, h1, h2, h3, h4, h5, h6⟩ := ch_open (hh.boxes 0 _ rfl)
 obtain ⟨blk', e1, e2⟩ : ∃ blk', X.ρ 0 = some blk' ∧ v0 = .pointer (some ⟨blk', 0 * 1 + 0, none⟩) := ha 0 _ _ rfl rfl
 have : blk' = blk := by have := hb.ρ; rw [e1] at this; injection this
 subst this
 subst e2
 have hc := ch_cell hb h0
 have hb0 : buf = #[] := Array.eq_empty_of_size_eq_zero (by simpa using h5)
 subst hb0
 refine (takeI_none hc h3).mono fun e w' hr => ?_
 obtain ⟨rfl, rfl⟩ := hr
 refine ⟨_, { X with w := _ }, rfl, rfl, ?_⟩
 exact ch_turn (r := .tup [.p (.int .i64 0), .p (.bool false)]) hh hb h0 h1 h2 h3 h4 h5 h6 (ChTurn.same h3) fun hk => tup2 (.int _ _)
theorem takeM_some_o (cap : Nat) (a0 a1 a2 a3 a4 : Int) (items : List PV) : OCall Tryz.prog 90 [.addr 0 1 0 0] [chB cap ((.agg [.int .i64 a0, .int .i64 a1, .int .i64 a2, .int .i64 a3, .int .i64 a4]) :: items) true] [some (chB cap items true)] (.tup [.p (.agg [.int .i64 a0, .int .i64 a1, .int .i64 a2, .int .i64 a3, .int .i64 a4]), .p (.bool true)]) := by
 refine ⟨⟨_, Tryz.func90, rfl, by decide⟩, .inl rfl, Nat.le_refl _, fun X cargs hl hh ha => ?_⟩
 obtain ⟨v0, rfl⟩ := args1 hl
 obtain ⟨blk, cs, ty, g, sent, got, buf, hb, h0, h1, h2, h3, h4, h5, h6⟩ := ch_open (hh.boxes 0 _ rfl)
 obtain ⟨blk', e1, e2⟩ : ∃ blk', X.ρ 0 = some blk' ∧ v0 = .pointer (some ⟨blk', 0 * 1 + 0, none⟩) := ha 0 _ _ rfl rfl
 have : blk' = blk := by have := hb.ρ; rw [e1] at this; injection this
 subst this
 subst e2
 have hc := ch_cell hb h0
 have hp : 0 < buf.size := by rw [h5]; simp
 have hb0 : buf[0]? = some buf[0] := by simp
 have hf := h6 0 _ _ rfl hb0
 rw [flat5 hf] at hb0
 refine (takeM_some hc h3 a0 a1 a2 a3 a4 hp hb0).mono fun e w' hr => ?_
 obtain ⟨rfl, ht⟩ := hr
 obtain ⟨k1, k2⟩ := drop_one h5 h6
 refine ⟨_, { X with w := w' }, rfl, rfl, ?_⟩
 refine ch_turn (r := .tup [.p (.agg [.int .i64 a0, .int .i64 a1, .int .i64 a2, .int .i64 a3, .int .i64 a4]), .p (.bool true)]) hh hb h0 h1 h2 h3 h4 k1 k2 (by simpa using ht) fun hk => tup2 (flat5_mk _ _ _ _ _)
theorem takeM_none_o (cap : Nat) : OCall Tryz.prog 90 [.addr 0 1 0 0] [chB cap [] true] [some (chB cap [] true)] (.tup [.p (.agg [.int .i64 0, .int .i64 0, .int .i64 0, .int .i64 0, .int .i64 0]), .p (.bool false)]) := by
 refine ⟨⟨_, Tryz.func90, rfl, by decide⟩, .inl rfl, Nat.le_refl _, fun X cargs hl hh ha => ?_⟩
 obtain ⟨v0, rfl⟩ := args1 hl
 obtain ⟨blk, cs, ty, g, sent, got, buf, hb, h0, h1, h2, h3, h4, h5, h6⟩ := ch_open (hh.boxes 0 _ rfl)
 obtain ⟨blk', e1, e2⟩ : ∃ blk', X.ρ 0 = some blk' ∧ v0 = .pointer (some ⟨blk', 0 * 1 + 0, none⟩) := ha 0 _ _ rfl rfl
 have : blk' = blk := by have := hb.ρ; rw [e1] at this; injection this
 subst this
 subst e2
 have hc := ch_cell hb h0
 have hb0 : buf = #[] := Array.eq_empty_of_size_eq_zero (by simpa using h5)
 subst hb0
 refine (takeM_none hc h3).mono fun e w' hr => ?_
 obtain ⟨rfl, ht⟩ := hr
 refine ⟨_, { X with w := w' }, rfl, rfl, ?_⟩
 exact ch_turn (r := .tup [.p (.agg [.int .i64 0, .int .i64 0, .int .i64 0, .int .i64 0, .int .i64 0]), .p (.bool false)]) hh hb h0 h1 h2 h3 h4 h5 h6 ht fun hk => tup2 (flat5_mk _ _ _ _ _)
theorem lenI_o (cap : Nat) (items : List PV) : OCall Tryz.prog 124 [.addr 0 1 0 0] [chB cap items true] [some (chB cap items true)] (.p (.int .i64 items.length)) := by
 refine ⟨⟨_, Tryz.func124, rfl, by decide⟩, .inl rfl, Nat.le_refl _, fun X cargs hl hh ha => ?_⟩
 obtain ⟨v0, rfl⟩ := args1 hl
 obtain ⟨blk, cs, ty, g, sent, got, buf, hb, h0, h1, h2, h3, h4, h5, h6⟩ := ch_open (hh.boxes 0 _ rfl)
 obtain ⟨blk', e1, e2⟩ : ∃ blk', X.ρ 0 = some blk' ∧ v0 = .pointer (some ⟨blk', 0 * 1 + 0, none⟩) := ha 0 _ _ rfl rfl
 have : blk' = blk := by have := hb.ρ; rw [e1] at this; injection this
 subst this
 subst e2
 have hc := ch_cell hb h0
 refine (lenI_ok hc h3).mono fun e w' hr => ?_
 obtain ⟨rfl, rfl⟩ := hr
 refine ⟨_, { X with w := _ }, rfl, rfl, ?_⟩
 refine ch_turn (r := .p (.int .i64 items.length)) hh hb h0 h1 h2 h3 h4 h5 h6 (ChTurn.same h3) fun _ => ?_
 rw [h5]
 exact Flat.int _ _
def newX (X : Cx) (k : Nat) (st : TypeId) : Cx :=
 {ρ := fun i => if i = 0 then some (X.w.heap.size + 1) else X.ρ i
  own := fun g => if g = X.w.heap.size + 1 then some (.box 0) else if g = X.w.heap.size then some (.cell 0 0 0) else X.own g
  M := fun b o => b = X.w.heap.size ∨ b = X.w.heap.size + 1 ∨ X.M b o
  w := (X.w.alloc (.chan k #[] false 0 0 false)).alloc (.cells #[.chan (some X.w.heap.size)] st (0, 0))
  ex := X.ex }
theorem newX_back {X : Cx} (k : Nat) (st : TypeId) : Back X (newX X k st) 0 [some (chB k [] false)] (.addr 0 1 0 0) (.pointer (some ⟨X.w.heap.size + 1, 0, none⟩)) := by
 have hb : (newX X k st).w.heap[X.w.heap.size + 1]? = some (.cells #[.chan (some X.w.heap.size)] st (0, 0)) := by
  have := heap_alloc_new (X.w.alloc (.chan k #[] false 0 0 false)) (.cells #[.chan (some X.w.heap.size)] st (0, 0))
  rw [World.size_alloc] at this
  exact this
 have hg : (newX X k st).w.heap[X.w.heap.size]? = some (.chan k #[] false 0 0 false) := (Below.heap_alloc _ _ _ (by simp)).trans (heap_alloc_new _ _)
 have hlow : ∀ q, q < X.w.heap.size → (newX X k st).w.heap[q]? = X.w.heap[q]? := fun q hq => (Below.heap_alloc _ _ _ (by simp; omega)).trans (Below.heap_alloc _ _ _ hq)
 refine ⟨rfl, ⟨X.w.heap.size + 1, rfl, rfl⟩, fun i bx hi => ?_, fun i hi => by omega, fun b hb _ o => ?_, ⟨rfl, rfl, rfl, by simp [newX]; omega, fun q hq _ => hlow q hq, fun q hq => .of (hlow q hq)⟩⟩
 ·match i, hi with
  | 0, hi =>
   simp only [List.getElem?_cons_zero, Option.some.injEq] at hi
   subst hi
   refine ⟨rfl, ?_⟩
   unfold BX
   rw [if_neg (by simp [chB])]
   refine ⟨X.w.heap.size + 1, _, _, rfl, by simp [newX], ⟨.inl (by omega), fun h => by cases h⟩, hb, by simp [chB], fun row hrow => ?_, fun r0 o0 row d u hrow hd hu => ?_, fun _ o => .inr (.inl rfl), fun h => by cases h⟩
   ·simp [chB] at hrow; subst hrow; rfl
   ·match r0, hrow with
    | 0, hrow =>
     simp only [chB, List.getElem?_cons_zero, Option.some.injEq] at hrow
     subst hrow
     match o0, hd with
     | 0, hd =>
      simp only [List.getElem?_cons_zero, Option.some.injEq] at hd
      subst hd
      have hu' : u = .chan (some X.w.heap.size) := by simpa [chB, eq_comm] using hu
      subst hu'
      exact ⟨.ch _ _ X.w.heap.size k 0 0 #[] (by simp [newX]) (.inl (Nat.le_refl _)) hg (fun o => .inl rfl) rfl fun i x u hx _ => by simp at hx, rfl⟩
     | o0 + 1, hd => simp at hd
    | r0 + 1, hrow => simp [chB] at hrow
  | i + 1, hi => simp at hi
 ·show (b = X.w.heap.size ∨ b = X.w.heap.size + 1 ∨ X.M b o) ↔ X.M b o
  exact ⟨fun h => h.elim (fun e => by omega) fun h => h.elim (fun e => by omega) id, fun h => .inr (.inr h)⟩
theorem newI_o (k : Nat) (hk : k ≤ 100) : OCall Tryz.prog 112 [.p (.int .i64 k)] [] [some (chB k [] false)] (.addr 0 1 0 0) := by
 refine ⟨⟨_, Tryz.func112, rfl, by decide⟩, .inr rfl, Nat.zero_le _, fun X cargs hl hh ha => ?_⟩
 obtain ⟨v0, rfl⟩ := args1 hl
 have e0 : v0 = .int .i64 k := Flat.intv (ha 0 _ _ rfl rfl)
 subst e0
 refine (newI_ok k hk).mono fun e w' hr => ?_
 obtain ⟨rfl, rfl⟩ := hr
 exact ⟨_, newX X k _, rfl, rfl, newX_back k _⟩
theorem newM_o (k : Nat) (hk : k ≤ 100) : OCall Tryz.prog 59 [.p (.int .i64 k)] [] [some (chB k [] false)] (.addr 0 1 0 0) := by
 refine ⟨⟨_, Tryz.func59, rfl, by decide⟩, .inr rfl, Nat.zero_le _, fun X cargs hl hh ha => ?_⟩
 obtain ⟨v0, rfl⟩ := args1 hl
 have e0 : v0 = .int .i64 k := Flat.intv (ha 0 _ _ rfl rfl)
 subst e0
 refine (newM_ok k hk).mono fun e w' hr => ?_
 obtain ⟨rfl, rfl⟩ := hr
 exact ⟨_, newX X k _, rfl, rfl, newX_back k _⟩
end Go.Proofs.YtnjphclbpgajpaaGreatDoor.Vc
namespace Go.Proofs.YtnjphclbpgajpaaGreatDoor.Vc
open Go.RowKit
def newBO (args : List DV) (bs : List Box) : Option (List (Option Box) × DV) :=
 match args, bs with
 | [.p (.int .i64 k)], [] => if 0 ≤ k ∧ k ≤ 100 then some ([some (chB k.toNat [] false)], .addr 0 1 0 0) else none
 | _, _ => none
def putIO (args : List DV) (bs : List Box) : Option (List (Option Box) × DV) :=
 match args, bs with
 | [.addr 0 1 0 0, .p (.int .i64 n)], [⟨true, 1, [[.ob (.ch cap items)]], true⟩] => some ([some (chB cap (bif Nat.blt items.length cap then items ++ [.int .i64 n] else items) true)], .p (.bool (Nat.blt items.length cap)))
 | _, _ => none
def putMO (args : List DV) (bs : List Box) : Option (List (Option Box) × DV) :=
 match args, bs with
 | [.addr 0 1 0 0, .p (.agg [.int .i64 a0, .int .i64 a1, .int .i64 a2, .int .i64 a3, .int .i64 a4])], [⟨true, 1, [[.ob (.ch cap items)]], true⟩] =>
  some ([some (chB cap (bif Nat.blt items.length cap then items ++ [.agg [.int .i64 a0, .int .i64 a1, .int .i64 a2, .int .i64 a3, .int .i64 a4]] else items) true)], .p (.bool (Nat.blt items.length cap)))
 | _, _ => none
def takeIO (args : List DV) (bs : List Box) : Option (List (Option Box) × DV) :=
 match args, bs with
 | [.addr 0 1 0 0], [⟨true, 1, [[.ob (.ch cap [])]], true⟩] => some ([some (chB cap [] true)], .tup [.p (.int .i64 0), .p (.bool false)])
 | [.addr 0 1 0 0], [⟨true, 1, [[.ob (.ch cap (x :: items))]], true⟩] => some ([some (chB cap items true)], .tup [.p x, .p (.bool true)])
 | _, _ => none
def takeMO (args : List DV) (bs : List Box) : Option (List (Option Box) × DV) :=
 match args, bs with
 | [.addr 0 1 0 0], [⟨true, 1, [[.ob (.ch cap [])]], true⟩] => some ([some (chB cap [] true)], .tup [.p (.agg [.int .i64 0, .int .i64 0, .int .i64 0, .int .i64 0, .int .i64 0]), .p (.bool false)])
 | [.addr 0 1 0 0], [⟨true, 1, [[.ob (.ch cap (.agg [.int .i64 a0, .int .i64 a1, .int .i64 a2, .int .i64 a3, .int .i64 a4] :: items))]], true⟩] => some ([some (chB cap items true)], .tup [.p (.agg [.int .i64 a0, .int .i64 a1, .int .i64 a2, .int .i64 a3, .int .i64 a4]), .p (.bool true)])
 | _, _ => none
def lenIO (args : List DV) (bs : List Box) : Option (List (Option Box) × DV) :=
 match args, bs with
 | [.addr 0 1 0 0], [⟨true, 1, [[.ob (.ch cap items)]], true⟩] => some ([some (chB cap items true)], .p (.int .i64 items.length))
 | _, _ => none
def boxO (f : FuncId) (args : List DV) (bs : List Box) : Option (List (Option Box) × DV) :=
 if f = 112 then newBO args bs else if f = 59 then newBO args bs
 else if f = 119 then putIO args bs else if f = 62 then putMO args bs
 else if f = 165 then takeIO args bs else if f = 90 then takeMO args bs
 else if f = 124 then lenIO args bs else none
theorem boxO_ok (f : FuncId) (args : List DV) (bs : List Box) (bs' : List (Option Box)) (d : DV) (h : boxO f args bs = some (bs', d)) : OCall Tryz.prog f args bs bs' d := by
 unfold boxO at h
 split at h
 ·rename_i e; subst e
  unfold newBO at h
  split at h
  ·split at h
   ·rename_i k hk
    simp only [Option.some.injEq, Prod.mk.injEq] at h
    obtain ⟨rfl, rfl⟩ := h
    have := newI_o k.toNat (by omega)
    rw [show ((k.toNat : Nat) : Int) = k by omega] at this
    exact this
   ·cases h
  ·cases h
 split at h
 ·rename_i e; subst e
  unfold newBO at h
  split at h
  ·split at h
   ·rename_i k hk
    simp only [Option.some.injEq, Prod.mk.injEq] at h
    obtain ⟨rfl, rfl⟩ := h
    have := newM_o k.toNat (by omega)
    rw [show ((k.toNat : Nat) : Int) = k by omega] at this
    exact this
   ·cases h
  ·cases h
 split at h
 ·rename_i e; subst e
  unfold putIO at h
  split at h
  ·simp only [Option.some.injEq, Prod.mk.injEq] at h
   obtain ⟨rfl, rfl⟩ := h
   exact putI_o _ _ _
  ·cases h
 split at h
 ·rename_i e; subst e
  unfold putMO at h
  split at h
  ·simp only [Option.some.injEq, Prod.mk.injEq] at h
   obtain ⟨rfl, rfl⟩ := h
   exact putM_o _ _ _ _ _ _ _
  ·cases h
 split at h
 ·rename_i e; subst e
  unfold takeIO at h
  split at h
  ·simp only [Option.some.injEq, Prod.mk.injEq] at h
   obtain ⟨rfl, rfl⟩ := h
   exact takeI_none_o _
  ·simp only [Option.some.injEq, Prod.mk.injEq] at h
   obtain ⟨rfl, rfl⟩ := h
   exact takeI_some_o _ _ _
  ·cases h
 split at h
 ·rename_i e; subst e
  unfold takeMO at h
  split at h
  ·simp only [Option.some.injEq, Prod.mk.injEq] at h
   obtain ⟨rfl, rfl⟩ := h
   exact takeM_none_o _
  ·simp only [Option.some.injEq, Prod.mk.injEq] at h
   obtain ⟨rfl, rfl⟩ := h
   exact takeM_some_o _ _ _ _ _ _ _
  ·cases h
 split at h
 ·rename_i e; subst e
  unfold lenIO at h
  split at h
  ·simp only [Option.some.injEq, Prod.mk.injEq] at h
   obtain ⟨rfl, rfl⟩ := h
   exact lenI_o _ _
  ·cases h
 cases h
end Go.Proofs.YtnjphclbpgajpaaGreatDoor.Vc
namespace Go.Proofs.YtnjphclbpgajpaaGreatDoor.Vc
open Go.RowKit
theorem BX.forget3 {X : Cx} {base k : Nat} {rows : List (List DV)} {live old : Bool} (h : BX X base k ⟨live, 0, rows, old⟩) : BX X base k ⟨live, 0, rows.map fun r => r.take 2, old⟩ := by
 unfold BX at h ⊢
 rw [if_pos rfl] at h ⊢
 obtain ⟨blk, es, clock, m1, m2, m3, m4, m5, m6, m0, m7⟩ := h
 refine ⟨blk, es, clock, m1, m2, m3, m4, by simpa using m5, m6, m0, fun i row e hr he => ?_⟩
 rw [List.getElem?_map] at hr
 cases hx : rows[i]? with
 | none => rw [hx] at hr; simp at hr
 | some r0 =>
  rw [hx] at hr
  simp only [Option.map_some, Option.some.injEq] at hr
  subst hr
  obtain ⟨q, n, d, f1, f2, f3⟩ := m7 i r0 e hx he
  subst f1
  exact ⟨q, false, d, rfl, f2, f3⟩
theorem ocall_stamps {P : Program} {f : FuncId} {args : List DV} {b0 b1 c0 c1 : Box} {rows rows' : List (List DV)} {r : DV} (hr : r.plain = true) (h2 : ∀ x, x ∈ rows → two x = true)
  (h : ∀ ss : List Int, ss.length = rows.length → ss.Nodup → ∃ rows3, (rows3.map fun r => r.take 2) = rows' ∧ OCall P f args [b0, b1, ⟨true, 0, add3 rows ss, true⟩] [some c0, some c1, some ⟨true, 0, rows3, false⟩] r) :
  OCall P f args [b0, b1, ⟨true, 0, rows, true⟩] [some c0, some c1, some ⟨true, 0, rows', false⟩] r := by
 have hfn : FnOK P f := by
  obtain ⟨_, _, h⟩ := h ((List.range rows.length).map fun (n : Nat) => (n : Int)) (by simp) (by
   rw [List.nodup_iff_pairwise_ne, List.pairwise_map]
   exact (List.nodup_iff_pairwise_ne.1 List.nodup_range).imp fun h e => h (by omega))
  exact h.1
 refine ⟨hfn, .inl hr, by simp, fun X cargs hl hh ha => ?_⟩
 obtain ⟨ss, s1, s2, s3⟩ := (hh.boxes 2 _ rfl).stamps h2
 obtain ⟨rows3, e, h⟩ := h ss s1 s2
 refine (h.2.2.2 X cargs hl ⟨hh.full, fun i bx hi => ?_⟩ ha).mono fun e' w' hq => ?_
 ·match i, hi with
  | 0, hi => exact hh.boxes 0 bx hi
  | 1, hi => exact hh.boxes 1 bx hi
  | 2, hi => simp only [List.getElem?_cons_succ, List.getElem?_cons_zero, Option.some.injEq] at hi; subst hi; exact s3
  | i + 3, hi => simp at hi
 ·obtain ⟨v, X', q1, q2, q3⟩ := hq
  refine ⟨v, X', q1, q2, q3.ex, q3.val, fun i bx hi => ?_, q3.rho, q3.mem, q3.below⟩
  match i, hi with
  | 0, hi => exact q3.boxes 0 bx hi
  | 1, hi => exact q3.boxes 1 bx hi
  | 2, hi =>
   simp only [List.getElem?_cons_succ, List.getElem?_cons_zero, Option.some.injEq] at hi
   subst hi
   obtain ⟨g1, g2⟩ := q3.boxes 2 _ rfl
   exact ⟨rfl, by rw [← e]; exact g2.forget3⟩
  | i + 3, hi => simp at hi
theorem findEI_eq (q : Option IntKind) (x : PV) (rows : List (List DV)) : findEI q x rows = findE q x rows := by unfold findEI; rfl
theorem setEI_eq (s : Int) (d : DV) (rows : List (List DV)) : setEI s d rows = setE s d rows := by unfold setEI; rfl
theorem swapI_10 (room wh a0 b0 w0 x0 a1 b1 w1 x1 : Int) (v0 v1 : Int) (hv : v0 ≠ v1) : OCall Tryz.prog 88 [.addr 0 4 0 0, .p (.int .i64 1), .p (.int .i64 0)]
  [⟨true, 4, [[.p (.int .i64 room), .bs 1 4 true 0 2, .mh 2, .p (.int .i64 wh)]], true⟩, ⟨true, 4, [[.p (.int .i64 v0), .p (.int .i64 a0), .p (.int .i64 b0), .p (.int .i64 w0)], [.p (.int .i64 v1), .p (.int .i64 a1), .p (.int .i64 b1), .p (.int .i64 w1)]], true⟩, ⟨true, 0, [[.p (.int .i64 v0), .p (.int .i64 x0)], [.p (.int .i64 v1), .p (.int .i64 x1)]], true⟩]
  [some ⟨true, 4, [[.p (.int .i64 room), .bs 1 4 true 0 2, .mh 2, .p (.int .i64 wh)]], false⟩, some ⟨true, 4, [[.p (.int .i64 v1), .p (.int .i64 a1), .p (.int .i64 b1), .p (.int .i64 w1)], [.p (.int .i64 v0), .p (.int .i64 a0), .p (.int .i64 b0), .p (.int .i64 w0)]], false⟩, some ⟨true, 0, [[.p (.int .i64 v0), .p (.int .i64 1)], [.p (.int .i64 v1), .p (.int .i64 0)]], false⟩] (.tup []) := by
 refine ocall_stamps rfl (by simp [two]) fun ss hl hn => ?_
 match ss, hl, hn with
 | [s0, s1], _, hn =>
  have hs : s0 ≠ s1 := by simpa using hn
  have hv' := hv.symm
  have hs' := hs.symm
  refine ⟨[[.p (.int .i64 v0), .p (.int .i64 1), .p (.int .i64 s0)], [.p (.int .i64 v1), .p (.int .i64 0), .p (.int .i64 s1)]], rfl, ?_⟩
  refine Fn.runO k88 rfl rfl rfl ?_
  generalize Tryz.prog = P at *
  (repeat' ((conv => whnf); first | exact trivial | with_reducible refine zX ?_ | refine ⟨rfl, ?_⟩ | refine ⟨_, rfl, ?_⟩ | with_reducible refine zP ?_ | with_reducible refine zL ?_ | refine ⟨fun _ => ?_, fun _ => ?_⟩ | refine zn ?_ | refine zb rfl ?_ | refine zX ?_ | refine zo rfl ?_ | refine zs ?_ | intro _)); all_goals (try (conv => whnf))
  generalize hq : findEI _ _ _ = q
  obtain rfl : q = some (.int .i64 x0, s0) := by rw [← hq, findEI_eq]; exact (by simp [findE, keyP, sameK, hv, hs, hv', hs'] : findE (some .i64) (.int .i64 v0) [[.p (.int .i64 v0), .p (.int .i64 x0), .p (.int .i64 s0)], [.p (.int .i64 v1), .p (.int .i64 x1), .p (.int .i64 s1)]] = some (.int .i64 x0, s0))
  clear hq
  (repeat' ((conv => whnf); first | exact trivial | with_reducible refine zX ?_ | refine ⟨rfl, ?_⟩ | refine ⟨_, rfl, ?_⟩ | with_reducible refine zP ?_ | with_reducible refine zL ?_ | refine ⟨fun _ => ?_, fun _ => ?_⟩ | refine zn ?_ | refine zb rfl ?_ | refine zX ?_ | refine zo rfl ?_ | refine zs ?_ | intro _)); all_goals (try (conv => whnf))
  generalize hq : setEI _ _ _ = q
  obtain rfl : q = some [[.p (.int .i64 v0), .p (.int .i64 1), .p (.int .i64 s0)], [.p (.int .i64 v1), .p (.int .i64 x1), .p (.int .i64 s1)]] := by rw [← hq, setEI_eq]; exact (by simp [setE, hv, hs, hv', hs'] : setE s0 (.p (.int .i64 1)) [[.p (.int .i64 v0), .p (.int .i64 x0), .p (.int .i64 s0)], [.p (.int .i64 v1), .p (.int .i64 x1), .p (.int .i64 s1)]] = some [[.p (.int .i64 v0), .p (.int .i64 1), .p (.int .i64 s0)], [.p (.int .i64 v1), .p (.int .i64 x1), .p (.int .i64 s1)]])
  clear hq
  (repeat' ((conv => whnf); first | exact trivial | with_reducible refine zX ?_ | refine ⟨rfl, ?_⟩ | refine ⟨_, rfl, ?_⟩ | with_reducible refine zP ?_ | with_reducible refine zL ?_ | refine ⟨fun _ => ?_, fun _ => ?_⟩ | refine zn ?_ | refine zb rfl ?_ | refine zX ?_ | refine zo rfl ?_ | refine zs ?_ | intro _)); all_goals (try (conv => whnf))
  generalize hq : findEI _ _ _ = q
  obtain rfl : q = some (.int .i64 x1, s1) := by rw [← hq, findEI_eq]; exact (by simp [findE, keyP, sameK, hv, hs, hv', hs'] : findE (some .i64) (.int .i64 v1) [[.p (.int .i64 v0), .p (.int .i64 1), .p (.int .i64 s0)], [.p (.int .i64 v1), .p (.int .i64 x1), .p (.int .i64 s1)]] = some (.int .i64 x1, s1))
  clear hq
  (repeat' ((conv => whnf); first | exact trivial | with_reducible refine zX ?_ | refine ⟨rfl, ?_⟩ | refine ⟨_, rfl, ?_⟩ | with_reducible refine zP ?_ | with_reducible refine zL ?_ | refine ⟨fun _ => ?_, fun _ => ?_⟩ | refine zn ?_ | refine zb rfl ?_ | refine zX ?_ | refine zo rfl ?_ | refine zs ?_ | intro _)); all_goals (try (conv => whnf))
  generalize hq : setEI _ _ _ = q
  obtain rfl : q = some [[.p (.int .i64 v0), .p (.int .i64 1), .p (.int .i64 s0)], [.p (.int .i64 v1), .p (.int .i64 0), .p (.int .i64 s1)]] := by rw [← hq, setEI_eq]; exact (by simp [setE, hv, hs, hv', hs'] : setE s1 (.p (.int .i64 0)) [[.p (.int .i64 v0), .p (.int .i64 1), .p (.int .i64 s0)], [.p (.int .i64 v1), .p (.int .i64 x1), .p (.int .i64 s1)]] = some [[.p (.int .i64 v0), .p (.int .i64 1), .p (.int .i64 s0)], [.p (.int .i64 v1), .p (.int .i64 0), .p (.int .i64 s1)]])
  clear hq
  (repeat' ((conv => whnf); first | exact trivial | with_reducible refine zX ?_ | refine ⟨rfl, ?_⟩ | refine ⟨_, rfl, ?_⟩ | with_reducible refine zP ?_ | with_reducible refine zL ?_ | refine ⟨fun _ => ?_, fun _ => ?_⟩ | refine zn ?_ | refine zb rfl ?_ | refine zX ?_ | refine zo rfl ?_ | refine zs ?_ | intro _)); all_goals (try (conv => whnf))
  all_goals rfl
theorem swapI_01 (room wh a0 b0 w0 x0 a1 b1 w1 x1 : Int) (v0 v1 : Int) (hv : v0 ≠ v1) : OCall Tryz.prog 88 [.addr 0 4 0 0, .p (.int .i64 0), .p (.int .i64 1)]
  [⟨true, 4, [[.p (.int .i64 room), .bs 1 4 true 0 2, .mh 2, .p (.int .i64 wh)]], true⟩, ⟨true, 4, [[.p (.int .i64 v0), .p (.int .i64 a0), .p (.int .i64 b0), .p (.int .i64 w0)], [.p (.int .i64 v1), .p (.int .i64 a1), .p (.int .i64 b1), .p (.int .i64 w1)]], true⟩, ⟨true, 0, [[.p (.int .i64 v1), .p (.int .i64 x1)], [.p (.int .i64 v0), .p (.int .i64 x0)]], true⟩]
  [some ⟨true, 4, [[.p (.int .i64 room), .bs 1 4 true 0 2, .mh 2, .p (.int .i64 wh)]], false⟩, some ⟨true, 4, [[.p (.int .i64 v1), .p (.int .i64 a1), .p (.int .i64 b1), .p (.int .i64 w1)], [.p (.int .i64 v0), .p (.int .i64 a0), .p (.int .i64 b0), .p (.int .i64 w0)]], false⟩, some ⟨true, 0, [[.p (.int .i64 v1), .p (.int .i64 0)], [.p (.int .i64 v0), .p (.int .i64 1)]], false⟩] (.tup []) := by
 refine ocall_stamps rfl (by simp [two]) fun ss hl hn => ?_
 match ss, hl, hn with
 | [s0, s1], _, hn =>
  have hs : s0 ≠ s1 := by simpa using hn
  have hv' := hv.symm
  have hs' := hs.symm
  refine ⟨[[.p (.int .i64 v1), .p (.int .i64 0), .p (.int .i64 s0)], [.p (.int .i64 v0), .p (.int .i64 1), .p (.int .i64 s1)]], rfl, ?_⟩
  refine Fn.runO k88 rfl rfl rfl ?_
  generalize Tryz.prog = P at *
  (repeat' ((conv => whnf); first | exact trivial | with_reducible refine zX ?_ | refine ⟨rfl, ?_⟩ | refine ⟨_, rfl, ?_⟩ | with_reducible refine zP ?_ | with_reducible refine zL ?_ | refine ⟨fun _ => ?_, fun _ => ?_⟩ | refine zn ?_ | refine zb rfl ?_ | refine zX ?_ | refine zo rfl ?_ | refine zs ?_ | intro _)); all_goals (try (conv => whnf))
  generalize hq : findEI _ _ _ = q
  obtain rfl : q = some (.int .i64 x1, s0) := by rw [← hq, findEI_eq]; exact (by simp [findE, keyP, sameK, hv, hs, hv', hs'] : findE (some .i64) (.int .i64 v1) [[.p (.int .i64 v1), .p (.int .i64 x1), .p (.int .i64 s0)], [.p (.int .i64 v0), .p (.int .i64 x0), .p (.int .i64 s1)]] = some (.int .i64 x1, s0))
  clear hq
  (repeat' ((conv => whnf); first | exact trivial | with_reducible refine zX ?_ | refine ⟨rfl, ?_⟩ | refine ⟨_, rfl, ?_⟩ | with_reducible refine zP ?_ | with_reducible refine zL ?_ | refine ⟨fun _ => ?_, fun _ => ?_⟩ | refine zn ?_ | refine zb rfl ?_ | refine zX ?_ | refine zo rfl ?_ | refine zs ?_ | intro _)); all_goals (try (conv => whnf))
  generalize hq : setEI _ _ _ = q
  obtain rfl : q = some [[.p (.int .i64 v1), .p (.int .i64 0), .p (.int .i64 s0)], [.p (.int .i64 v0), .p (.int .i64 x0), .p (.int .i64 s1)]] := by rw [← hq, setEI_eq]; exact (by simp [setE, hv, hs, hv', hs'] : setE s0 (.p (.int .i64 0)) [[.p (.int .i64 v1), .p (.int .i64 x1), .p (.int .i64 s0)], [.p (.int .i64 v0), .p (.int .i64 x0), .p (.int .i64 s1)]] = some [[.p (.int .i64 v1), .p (.int .i64 0), .p (.int .i64 s0)], [.p (.int .i64 v0), .p (.int .i64 x0), .p (.int .i64 s1)]])
  clear hq
  (repeat' ((conv => whnf); first | exact trivial | with_reducible refine zX ?_ | refine ⟨rfl, ?_⟩ | refine ⟨_, rfl, ?_⟩ | with_reducible refine zP ?_ | with_reducible refine zL ?_ | refine ⟨fun _ => ?_, fun _ => ?_⟩ | refine zn ?_ | refine zb rfl ?_ | refine zX ?_ | refine zo rfl ?_ | refine zs ?_ | intro _)); all_goals (try (conv => whnf))
  generalize hq : findEI _ _ _ = q
  obtain rfl : q = some (.int .i64 x0, s1) := by rw [← hq, findEI_eq]; exact (by simp [findE, keyP, sameK, hv, hs, hv', hs'] : findE (some .i64) (.int .i64 v0) [[.p (.int .i64 v1), .p (.int .i64 0), .p (.int .i64 s0)], [.p (.int .i64 v0), .p (.int .i64 x0), .p (.int .i64 s1)]] = some (.int .i64 x0, s1))
  clear hq
  (repeat' ((conv => whnf); first | exact trivial | with_reducible refine zX ?_ | refine ⟨rfl, ?_⟩ | refine ⟨_, rfl, ?_⟩ | with_reducible refine zP ?_ | with_reducible refine zL ?_ | refine ⟨fun _ => ?_, fun _ => ?_⟩ | refine zn ?_ | refine zb rfl ?_ | refine zX ?_ | refine zo rfl ?_ | refine zs ?_ | intro _)); all_goals (try (conv => whnf))
  generalize hq : setEI _ _ _ = q
  obtain rfl : q = some [[.p (.int .i64 v1), .p (.int .i64 0), .p (.int .i64 s0)], [.p (.int .i64 v0), .p (.int .i64 1), .p (.int .i64 s1)]] := by rw [← hq, setEI_eq]; exact (by simp [setE, hv, hs, hv', hs'] : setE s1 (.p (.int .i64 1)) [[.p (.int .i64 v1), .p (.int .i64 0), .p (.int .i64 s0)], [.p (.int .i64 v0), .p (.int .i64 x0), .p (.int .i64 s1)]] = some [[.p (.int .i64 v1), .p (.int .i64 0), .p (.int .i64 s0)], [.p (.int .i64 v0), .p (.int .i64 1), .p (.int .i64 s1)]])
  clear hq
  (repeat' ((conv => whnf); first | exact trivial | with_reducible refine zX ?_ | refine ⟨rfl, ?_⟩ | refine ⟨_, rfl, ?_⟩ | with_reducible refine zP ?_ | with_reducible refine zL ?_ | refine ⟨fun _ => ?_, fun _ => ?_⟩ | refine zn ?_ | refine zb rfl ?_ | refine zX ?_ | refine zo rfl ?_ | refine zs ?_ | intro _)); all_goals (try (conv => whnf))
  all_goals rfl
theorem swapI_00 (room wh a0 b0 w0 x0 : Int) (v0 : Int) : OCall Tryz.prog 88 [.addr 0 4 0 0, .p (.int .i64 0), .p (.int .i64 0)]
  [⟨true, 4, [[.p (.int .i64 room), .bs 1 4 true 0 1, .mh 2, .p (.int .i64 wh)]], true⟩, ⟨true, 4, [[.p (.int .i64 v0), .p (.int .i64 a0), .p (.int .i64 b0), .p (.int .i64 w0)]], true⟩, ⟨true, 0, [[.p (.int .i64 v0), .p (.int .i64 x0)]], true⟩]
  [some ⟨true, 4, [[.p (.int .i64 room), .bs 1 4 true 0 1, .mh 2, .p (.int .i64 wh)]], false⟩, some ⟨true, 4, [[.p (.int .i64 v0), .p (.int .i64 a0), .p (.int .i64 b0), .p (.int .i64 w0)]], false⟩, some ⟨true, 0, [[.p (.int .i64 v0), .p (.int .i64 0)]], false⟩] (.tup []) := by
 refine ocall_stamps rfl (by simp [two]) fun ss hl hn => ?_
 match ss, hl, hn with
 | [s0], _, hn =>
  refine ⟨[[.p (.int .i64 v0), .p (.int .i64 0), .p (.int .i64 s0)]], rfl, ?_⟩
  refine Fn.runO k88 rfl rfl rfl ?_
  generalize Tryz.prog = P at *
  (repeat' ((conv => whnf); first | exact trivial | with_reducible refine zX ?_ | refine ⟨rfl, ?_⟩ | refine ⟨_, rfl, ?_⟩ | with_reducible refine zP ?_ | with_reducible refine zL ?_ | refine ⟨fun _ => ?_, fun _ => ?_⟩ | refine zn ?_ | refine zb rfl ?_ | refine zX ?_ | refine zo rfl ?_ | refine zs ?_ | intro _)); all_goals (try (conv => whnf))
  generalize hq : findEI _ _ _ = q
  obtain rfl : q = some (.int .i64 x0, s0) := by rw [← hq, findEI_eq]; exact (by simp [findE, keyP, sameK] : findE (some .i64) (.int .i64 v0) [[.p (.int .i64 v0), .p (.int .i64 x0), .p (.int .i64 s0)]] = some (.int .i64 x0, s0))
  clear hq
  (repeat' ((conv => whnf); first | exact trivial | with_reducible refine zX ?_ | refine ⟨rfl, ?_⟩ | refine ⟨_, rfl, ?_⟩ | with_reducible refine zP ?_ | with_reducible refine zL ?_ | refine ⟨fun _ => ?_, fun _ => ?_⟩ | refine zn ?_ | refine zb rfl ?_ | refine zX ?_ | refine zo rfl ?_ | refine zs ?_ | intro _)); all_goals (try (conv => whnf))
  generalize hq : setEI _ _ _ = q
  obtain rfl : q = some [[.p (.int .i64 v0), .p (.int .i64 0), .p (.int .i64 s0)]] := by rw [← hq, setEI_eq]; exact (by simp [setE] : setE s0 (.p (.int .i64 0)) [[.p (.int .i64 v0), .p (.int .i64 x0), .p (.int .i64 s0)]] = some [[.p (.int .i64 v0), .p (.int .i64 0), .p (.int .i64 s0)]])
  clear hq
  (repeat' ((conv => whnf); first | exact trivial | with_reducible refine zX ?_ | refine ⟨rfl, ?_⟩ | refine ⟨_, rfl, ?_⟩ | with_reducible refine zP ?_ | with_reducible refine zL ?_ | refine ⟨fun _ => ?_, fun _ => ?_⟩ | refine zn ?_ | refine zb rfl ?_ | refine zX ?_ | refine zo rfl ?_ | refine zs ?_ | intro _)); all_goals (try (conv => whnf))
  generalize hq : findEI _ _ _ = q
  obtain rfl : q = some (.int .i64 0, s0) := by rw [← hq, findEI_eq]; exact (by simp [findE, keyP, sameK] : findE (some .i64) (.int .i64 v0) [[.p (.int .i64 v0), .p (.int .i64 0), .p (.int .i64 s0)]] = some (.int .i64 0, s0))
  clear hq
  (repeat' ((conv => whnf); first | exact trivial | with_reducible refine zX ?_ | refine ⟨rfl, ?_⟩ | refine ⟨_, rfl, ?_⟩ | with_reducible refine zP ?_ | with_reducible refine zL ?_ | refine ⟨fun _ => ?_, fun _ => ?_⟩ | refine zn ?_ | refine zb rfl ?_ | refine zX ?_ | refine zo rfl ?_ | refine zs ?_ | intro _)); all_goals (try (conv => whnf))
  generalize hq : setEI _ _ _ = q
  obtain rfl : q = some [[.p (.int .i64 v0), .p (.int .i64 0), .p (.int .i64 s0)]] := by rw [← hq, setEI_eq]; exact (by simp [setE] : setE s0 (.p (.int .i64 0)) [[.p (.int .i64 v0), .p (.int .i64 0), .p (.int .i64 s0)]] = some [[.p (.int .i64 v0), .p (.int .i64 0), .p (.int .i64 s0)]])
  clear hq
  (repeat' ((conv => whnf); first | exact trivial | with_reducible refine zX ?_ | refine ⟨rfl, ?_⟩ | refine ⟨_, rfl, ?_⟩ | with_reducible refine zP ?_ | with_reducible refine zL ?_ | refine ⟨fun _ => ?_, fun _ => ?_⟩ | refine zn ?_ | refine zb rfl ?_ | refine zX ?_ | refine zo rfl ?_ | refine zs ?_ | intro _)); all_goals (try (conv => whnf))
  all_goals rfl
theorem swapS_10 (room wh a0 b0 w0 x0 a1 b1 w1 x1 : Int) (v0 v1 : ByteArray) (hv : v0.data.toList ≠ v1.data.toList) : OCall Tryz.prog 189 [.addr 0 4 0 0, .p (.int .i64 1), .p (.int .i64 0)]
  [⟨true, 4, [[.p (.int .i64 room), .bs 1 4 true 0 2, .mh 2, .p (.int .i64 wh)]], true⟩, ⟨true, 4, [[.p (.str v0), .p (.int .i64 a0), .p (.int .i64 b0), .p (.int .i64 w0)], [.p (.str v1), .p (.int .i64 a1), .p (.int .i64 b1), .p (.int .i64 w1)]], true⟩, ⟨true, 0, [[.p (.str v0), .p (.int .i64 x0)], [.p (.str v1), .p (.int .i64 x1)]], true⟩]
  [some ⟨true, 4, [[.p (.int .i64 room), .bs 1 4 true 0 2, .mh 2, .p (.int .i64 wh)]], false⟩, some ⟨true, 4, [[.p (.str v1), .p (.int .i64 a1), .p (.int .i64 b1), .p (.int .i64 w1)], [.p (.str v0), .p (.int .i64 a0), .p (.int .i64 b0), .p (.int .i64 w0)]], false⟩, some ⟨true, 0, [[.p (.str v0), .p (.int .i64 1)], [.p (.str v1), .p (.int .i64 0)]], false⟩] (.tup []) := by
 refine ocall_stamps rfl (by simp [two]) fun ss hl hn => ?_
 match ss, hl, hn with
 | [s0, s1], _, hn =>
  have hs : s0 ≠ s1 := by simpa using hn
  have hv' := hv.symm
  have hs' := hs.symm
  refine ⟨[[.p (.str v0), .p (.int .i64 1), .p (.int .i64 s0)], [.p (.str v1), .p (.int .i64 0), .p (.int .i64 s1)]], rfl, ?_⟩
  refine Fn.runO k189 rfl rfl rfl ?_
  generalize Tryz.prog = P at *
  (repeat' ((conv => whnf); first | exact trivial | with_reducible refine zX ?_ | refine ⟨rfl, ?_⟩ | refine ⟨_, rfl, ?_⟩ | with_reducible refine zP ?_ | with_reducible refine zL ?_ | refine ⟨fun _ => ?_, fun _ => ?_⟩ | refine zn ?_ | refine zb rfl ?_ | refine zX ?_ | refine zo rfl ?_ | refine zs ?_ | intro _)); all_goals (try (conv => whnf))
  generalize hq : findEI _ _ _ = q
  obtain rfl : q = some (.int .i64 x0, s0) := by rw [← hq, findEI_eq]; exact (by simp [findE, keyP, sameK, hv, hs, hv', hs'] : findE none (.str v0) [[.p (.str v0), .p (.int .i64 x0), .p (.int .i64 s0)], [.p (.str v1), .p (.int .i64 x1), .p (.int .i64 s1)]] = some (.int .i64 x0, s0))
  clear hq
  (repeat' ((conv => whnf); first | exact trivial | with_reducible refine zX ?_ | refine ⟨rfl, ?_⟩ | refine ⟨_, rfl, ?_⟩ | with_reducible refine zP ?_ | with_reducible refine zL ?_ | refine ⟨fun _ => ?_, fun _ => ?_⟩ | refine zn ?_ | refine zb rfl ?_ | refine zX ?_ | refine zo rfl ?_ | refine zs ?_ | intro _)); all_goals (try (conv => whnf))
  generalize hq : setEI _ _ _ = q
  obtain rfl : q = some [[.p (.str v0), .p (.int .i64 1), .p (.int .i64 s0)], [.p (.str v1), .p (.int .i64 x1), .p (.int .i64 s1)]] := by rw [← hq, setEI_eq]; exact (by simp [setE, hv, hs, hv', hs'] : setE s0 (.p (.int .i64 1)) [[.p (.str v0), .p (.int .i64 x0), .p (.int .i64 s0)], [.p (.str v1), .p (.int .i64 x1), .p (.int .i64 s1)]] = some [[.p (.str v0), .p (.int .i64 1), .p (.int .i64 s0)], [.p (.str v1), .p (.int .i64 x1), .p (.int .i64 s1)]])
  clear hq
  (repeat' ((conv => whnf); first | exact trivial | with_reducible refine zX ?_ | refine ⟨rfl, ?_⟩ | refine ⟨_, rfl, ?_⟩ | with_reducible refine zP ?_ | with_reducible refine zL ?_ | refine ⟨fun _ => ?_, fun _ => ?_⟩ | refine zn ?_ | refine zb rfl ?_ | refine zX ?_ | refine zo rfl ?_ | refine zs ?_ | intro _)); all_goals (try (conv => whnf))
  generalize hq : findEI _ _ _ = q
  obtain rfl : q = some (.int .i64 x1, s1) := by rw [← hq, findEI_eq]; exact (by simp [findE, keyP, sameK, hv, hs, hv', hs'] : findE none (.str v1) [[.p (.str v0), .p (.int .i64 1), .p (.int .i64 s0)], [.p (.str v1), .p (.int .i64 x1), .p (.int .i64 s1)]] = some (.int .i64 x1, s1))
  clear hq
  (repeat' ((conv => whnf); first | exact trivial | with_reducible refine zX ?_ | refine ⟨rfl, ?_⟩ | refine ⟨_, rfl, ?_⟩ | with_reducible refine zP ?_ | with_reducible refine zL ?_ | refine ⟨fun _ => ?_, fun _ => ?_⟩ | refine zn ?_ | refine zb rfl ?_ | refine zX ?_ | refine zo rfl ?_ | refine zs ?_ | intro _)); all_goals (try (conv => whnf))
  generalize hq : setEI _ _ _ = q
  obtain rfl : q = some [[.p (.str v0), .p (.int .i64 1), .p (.int .i64 s0)], [.p (.str v1), .p (.int .i64 0), .p (.int .i64 s1)]] := by rw [← hq, setEI_eq]; exact (by simp [setE, hv, hs, hv', hs'] : setE s1 (.p (.int .i64 0)) [[.p (.str v0), .p (.int .i64 1), .p (.int .i64 s0)], [.p (.str v1), .p (.int .i64 x1), .p (.int .i64 s1)]] = some [[.p (.str v0), .p (.int .i64 1), .p (.int .i64 s0)], [.p (.str v1), .p (.int .i64 0), .p (.int .i64 s1)]])
  clear hq
  (repeat' ((conv => whnf); first | exact trivial | with_reducible refine zX ?_ | refine ⟨rfl, ?_⟩ | refine ⟨_, rfl, ?_⟩ | with_reducible refine zP ?_ | with_reducible refine zL ?_ | refine ⟨fun _ => ?_, fun _ => ?_⟩ | refine zn ?_ | refine zb rfl ?_ | refine zX ?_ | refine zo rfl ?_ | refine zs ?_ | intro _)); all_goals (try (conv => whnf))
  all_goals rfl
end Go.Proofs.YtnjphclbpgajpaaGreatDoor.Vc
namespace Go.Proofs.YtnjphclbpgajpaaGreatDoor.Vc
open Go.RowKit
def swA (i k : Int) (room : Int) (n : Nat) (wh : Int) (rows mrows : List (List DV)) : Option (List (Option Box) × DV) :=
 match n, rows, mrows with
 | 2, [[.p (.int .i64 v0), .p (.int .i64 a0), .p (.int .i64 b0), .p (.int .i64 w0)], [.p (.int .i64 v1), .p (.int .i64 a1), .p (.int .i64 b1), .p (.int .i64 w1)]], [[.p (.int .i64 u0), .p (.int .i64 x0)], [.p (.int .i64 u1), .p (.int .i64 x1)]] =>
  if i = 1 ∧ k = 0 ∧ u0 = v0 ∧ u1 = v1 ∧ v0 ≠ v1 then some ([some ⟨true, 4, [[.p (.int .i64 room), .bs 1 4 true 0 2, .mh 2, .p (.int .i64 wh)]], false⟩, some ⟨true, 4, [[.p (.int .i64 v1), .p (.int .i64 a1), .p (.int .i64 b1), .p (.int .i64 w1)], [.p (.int .i64 v0), .p (.int .i64 a0), .p (.int .i64 b0), .p (.int .i64 w0)]], false⟩,
   some ⟨true, 0, [[.p (.int .i64 v0), .p (.int .i64 1)], [.p (.int .i64 v1), .p (.int .i64 0)]], false⟩], .tup [])
  else if i = 0 ∧ k = 1 ∧ u0 = v1 ∧ u1 = v0 ∧ v0 ≠ v1 then some ([some ⟨true, 4, [[.p (.int .i64 room), .bs 1 4 true 0 2, .mh 2, .p (.int .i64 wh)]], false⟩, some ⟨true, 4, [[.p (.int .i64 v1), .p (.int .i64 a1), .p (.int .i64 b1), .p (.int .i64 w1)], [.p (.int .i64 v0), .p (.int .i64 a0), .p (.int .i64 b0), .p (.int .i64 w0)]], false⟩,
   some ⟨true, 0, [[.p (.int .i64 v1), .p (.int .i64 0)], [.p (.int .i64 v0), .p (.int .i64 1)]], false⟩], .tup [])
  else none
 | 1, [[.p (.int .i64 v0), .p (.int .i64 a0), .p (.int .i64 b0), .p (.int .i64 w0)]], [[.p (.int .i64 u0), .p (.int .i64 x0)]] =>
  if i = 0 ∧ k = 0 ∧ u0 = v0 then some ([some ⟨true, 4, [[.p (.int .i64 room), .bs 1 4 true 0 1, .mh 2, .p (.int .i64 wh)]], false⟩, some ⟨true, 4, [[.p (.int .i64 v0), .p (.int .i64 a0), .p (.int .i64 b0), .p (.int .i64 w0)]], false⟩,
   some ⟨true, 0, [[.p (.int .i64 v0), .p (.int .i64 0)]], false⟩], .tup [])
  else none
 | _, _, _ => none
def swS (i k : Int) (room : Int) (n : Nat) (wh : Int) (rows mrows : List (List DV)) : Option (List (Option Box) × DV) :=
 match n, rows, mrows with
 | 2, [[.p (.str v0), .p (.int .i64 a0), .p (.int .i64 b0), .p (.int .i64 w0)], [.p (.str v1), .p (.int .i64 a1), .p (.int .i64 b1), .p (.int .i64 w1)]], [[.p (.str u0), .p (.int .i64 x0)], [.p (.str u1), .p (.int .i64 x1)]] =>
  if i = 1 ∧ k = 0 ∧ u0.data.toList = v0.data.toList ∧ u1.data.toList = v1.data.toList ∧ v0.data.toList ≠ v1.data.toList then some ([some ⟨true, 4, [[.p (.int .i64 room), .bs 1 4 true 0 2, .mh 2, .p (.int .i64 wh)]], false⟩, some ⟨true, 4, [[.p (.str v1), .p (.int .i64 a1), .p (.int .i64 b1), .p (.int .i64 w1)], [.p (.str v0), .p (.int .i64 a0), .p (.int .i64 b0), .p (.int .i64 w0)]], false⟩,
   some ⟨true, 0, [[.p (.str v0), .p (.int .i64 1)], [.p (.str v1), .p (.int .i64 0)]], false⟩], .tup [])
  else none
 | _, _, _ => none
def swapO (f : FuncId) (args : List DV) (bs : List Box) : Option (List (Option Box) × DV) :=
 match args, bs with
 | [.addr 0 4 0 0, .p (.int .i64 i), .p (.int .i64 k)], [⟨true, 4, [[.p (.int .i64 room), .bs 1 4 true 0 n, .mh 2, .p (.int .i64 wh)]], true⟩, ⟨true, 4, rows, true⟩, ⟨true, 0, mrows, true⟩] =>
  if f = 88 then swA i k room n wh rows mrows else if f = 189 then swS i k room n wh rows mrows else none
 | _, _ => none
theorem swapO_ok (f : FuncId) (args : List DV) (bs : List Box) (bs' : List (Option Box)) (d : DV) (h : swapO f args bs = some (bs', d)) : OCall Tryz.prog f args bs bs' d := by
 unfold swapO at h
 split at h
 ·split at h
  ·rename_i e; subst e
   unfold swA at h
   split at h
   ·split at h
    ·rename_i hc
     obtain ⟨rfl, rfl, rfl, rfl, hv⟩ := hc
     simp only [Option.some.injEq, Prod.mk.injEq] at h
     obtain ⟨rfl, rfl⟩ := h
     exact swapI_10 _ _ _ _ _ _ _ _ _ _ _ _ hv
    ·split at h
     ·rename_i hc
      obtain ⟨rfl, rfl, rfl, rfl, hv⟩ := hc
      simp only [Option.some.injEq, Prod.mk.injEq] at h
      obtain ⟨rfl, rfl⟩ := h
      exact swapI_01 _ _ _ _ _ _ _ _ _ _ _ _ hv
     ·cases h
   ·split at h
    ·rename_i hc
     obtain ⟨rfl, rfl, rfl⟩ := hc
     simp only [Option.some.injEq, Prod.mk.injEq] at h
     obtain ⟨rfl, rfl⟩ := h
     exact swapI_00 _ _ _ _ _ _ _
    ·cases h
   ·cases h
  ·split at h
   ·rename_i e; subst e
    unfold swS at h
    split at h
    ·split at h
     ·rename_i hc
      obtain ⟨rfl, rfl, h1, h2, hv⟩ := hc
      have h1 := bytes_ext h1
      have h2 := bytes_ext h2
      subst h1; subst h2
      simp only [Option.some.injEq, Prod.mk.injEq] at h
      obtain ⟨rfl, rfl⟩ := h
      exact swapS_10 _ _ _ _ _ _ _ _ _ _ _ _ hv
     ·cases h
    ·cases h
   ·cases h
 ·cases h
def extK (f : FuncId) (args : List DV) (bs : List Box) : Option (List (Option Box) × DV) :=
 match boxO f args bs with
 | some r => some r
 | none => swapO f args bs
theorem extK_ok (f : FuncId) (args : List DV) (bs : List Box) (bs' : List (Option Box)) (d : DV) (h : extK f args bs = some (bs', d)) : OCall Tryz.prog f args bs bs' d := by
 unfold extK at h
 split at h
 ·rename_i e; rw [h] at e; exact boxO_ok _ _ _ _ _ e
 ·exact swapO_ok _ _ _ _ _ h
def tblK : Tbl := (87, F87) :: (89, F89) :: (140, F140) :: (141, F141) :: (55, F55) :: (56, F56) :: (57, F57) :: (58, F58) :: (95, F95) :: (54, F54) :: (161, F161) :: (190, F190) :: (191, F191) :: (113, F113) :: (160, F160) :: (114, F114) :: (122, F122) :: (109, F109) :: (72, F72) :: (71, F71) :: (73, F73) :: (99, F99) :: (100, F100) :: (69, F69) :: (115, F115) :: (116, F116) :: (162, F162) :: (123, F123) :: (192, F192) :: (110, F110) :: (91, F91) :: (93, F93) :: (94, F94) :: (63, F63) :: (60, F60) :: (117, F117) :: (118, F118) :: (163, F163) :: (111, F111) :: (28, F28) :: (29, F29) :: (30, F30) :: (31, F31) :: (27, F27) :: (38, F38) :: (37, F37) :: (39, F39) :: (40, F40) :: (70, F70) :: (36, F36) :: (41, F41) :: (33, F33) :: (34, F34) :: (35, F35) :: (61, F61) :: (32, F32) :: (65, F65) :: (120, F120) :: (19, F19) :: (20, F20) :: (22, F22) :: (24, F24) :: (25, F25) :: (26, F26) :: (53, F53) :: (44, F44) :: (76, F76) :: (15, F15) :: (64, F64) :: (96, F96) :: (142, F142) :: (66, F66) :: (43, F43) :: tblO
theorem tblK_ok : TblOK Tryz.prog tblK := .cons k87 <| .cons k89 <| .cons k140 <| .cons k141 <| .cons k55 <| .cons k56 <| .cons k57 <| .cons k58 <| .cons k95 <| .cons k54 <| .cons k161 <| .cons k190 <| .cons k191 <| .cons k113 <| .cons k160 <| .cons k114 <| .cons k122 <| .cons k109 <| .cons k72 <| .cons k71 <| .cons k73 <| .cons k99 <| .cons k100 <| .cons k69 <| .cons k115 <| .cons k116 <| .cons k162 <| .cons k123 <| .cons k192 <| .cons k110 <| .cons k91 <| .cons k93 <| .cons k94 <| .cons k63 <| .cons k60 <| .cons k117 <| .cons k118 <| .cons k163 <| .cons k111 <| .cons k28 <| .cons k29 <| .cons k30 <| .cons k31 <| .cons k27 <| .cons k38 <| .cons k37 <| .cons k39 <| .cons k40 <| .cons k70 <| .cons k36 <| .cons k41 <| .cons k33 <| .cons k34 <| .cons k35 <| .cons k61 <| .cons k32 <| .cons k65 <| .cons k120 <| .cons k19 <| .cons k20 <| .cons k22 <| .cons k24 <| .cons k25 <| .cons k26 <| .cons k53 <| .cons k44 <| .cons k76 <| .cons k15 <| .cons k64 <| .cons k96 <| .cons k142 <| .cons k66 <| .cons k43 <| tblO_ok
def envK (zs : List Nat) (n : Nat) : Env := runE (extQ zs) extK (Tbl.del zs tblK) n
theorem envK_ok {zs : List Nat} (h : ∀ z, z ∈ zs → PureCall Tryz.prog z [] (.p (.bool true))) (n : Nat) : (envK zs n).OK Tryz.prog := runE_ok (extQ_ok h) extK_ok (tblK_ok.del zs)
end Go.Proofs.YtnjphclbpgajpaaGreatDoor.Vc
namespace Go.Proofs.YtnjphclbpgajpaaGreatDoor.Vc
open Go.RowKit
theorem begun36 : PureCall Tryz.prog 43 [] (.p (.bool true)) := by
 have h := begunR
 refine Fn.run k43 rfl ?_
 generalize Tryz.prog = P at *
 (repeat' ((conv => whnf); first | exact trivial | with_reducible refine zX ?_ | refine ⟨rfl, ?_⟩ | refine ⟨_, rfl, ?_⟩ | with_reducible refine zP ?_ | with_reducible refine zL ?_ | refine ⟨fun _ => ?_, fun _ => ?_⟩ | refine zn ?_ | refine zb rfl ?_ | refine zX ?_ | refine zo rfl ?_ | refine zs ?_ | intro _)); all_goals (try (conv => whnf))
 all_goals rfl
theorem begun69 : PureCall Tryz.prog 76 [] (.p (.bool true)) := (envK_ok (zs := [121]) (fun z hz => by simp at hz; subst hz; exact begun144) 100).call 76 [] (.p (.bool true)) (by kernel_rfl)
theorem begun37 : PureCall Tryz.prog 44 [] (.p (.bool true)) := by
 have h := begun69
 refine Fn.run k44 rfl ?_
 generalize Tryz.prog = P at *
 (repeat' ((conv => whnf); first | exact trivial | with_reducible refine zX ?_ | refine ⟨rfl, ?_⟩ | refine ⟨_, rfl, ?_⟩ | with_reducible refine zP ?_ | with_reducible refine zL ?_ | refine ⟨fun _ => ?_, fun _ => ?_⟩ | refine zn ?_ | refine zb rfl ?_ | refine zX ?_ | refine zo rfl ?_ | refine zs ?_ | intro _)); all_goals (try (conv => whnf))
 all_goals rfl
theorem begun8 : PureCall Tryz.prog 15 [] (.p (.bool true)) := (envK_ok (zs := [43, 44]) (fun z hz => by simp at hz; rcases hz with rfl | rfl; exact begun36; exact begun37) 100).call 15 [] (.p (.bool true)) (by kernel_rfl)
end Go.Proofs.YtnjphclbpgajpaaGreatDoor.Vc
namespace Go.Proofs.YtnjphclbpgajpaaGreatDoor.Vc
open Go.RowKit Ma
theorem nil_bench_Ready (a b : Int) : OCall Tryz.prog 28 [.p (.atom (.pointer none)), .p (.int .i64 a), .p (.int .i64 b)] [] [] (.p (.bool false)) := by
 refine Fn.runO h28 rfl rfl rfl ?_
 generalize Tryz.prog = P at *
 (repeat' ((conv => whnf); first | exact trivial | with_reducible refine zX ?_ | refine ⟨rfl, ?_⟩ | refine ⟨_, rfl, ?_⟩ | with_reducible refine zP ?_ | with_reducible refine zL ?_ | refine ⟨fun _ => ?_, fun _ => ?_⟩ | refine zn ?_ | refine zb rfl ?_ | refine zX ?_ | refine zo rfl ?_ | refine zs ?_ | intro _)); all_goals (try (conv => whnf))
 all_goals rfl
theorem nil_bench_Leave (a : Int) : OCall Tryz.prog 29 [.p (.atom (.pointer none)), .p (.int .i64 a)] [] [] (.p (.bool false)) := by
 refine Fn.runO h29 rfl rfl rfl ?_
 generalize Tryz.prog = P at *
 (repeat' ((conv => whnf); first | exact trivial | with_reducible refine zX ?_ | refine ⟨rfl, ?_⟩ | refine ⟨_, rfl, ?_⟩ | with_reducible refine zP ?_ | with_reducible refine zL ?_ | refine ⟨fun _ => ?_, fun _ => ?_⟩ | refine zn ?_ | refine zb rfl ?_ | refine zX ?_ | refine zo rfl ?_ | refine zs ?_ | intro _)); all_goals (try (conv => whnf))
 all_goals rfl
theorem nil_bench_Runs : OCall Tryz.prog 30 [.p (.atom (.pointer none))] [] [] (.p (.int .i64 0)) := by
 refine Fn.runO h30 rfl rfl rfl ?_
 generalize Tryz.prog = P at *
 (repeat' ((conv => whnf); first | exact trivial | with_reducible refine zX ?_ | refine ⟨rfl, ?_⟩ | refine ⟨_, rfl, ?_⟩ | with_reducible refine zP ?_ | with_reducible refine zL ?_ | refine ⟨fun _ => ?_, fun _ => ?_⟩ | refine zn ?_ | refine zb rfl ?_ | refine zX ?_ | refine zo rfl ?_ | refine zs ?_ | intro _)); all_goals (try (conv => whnf))
 all_goals rfl
theorem nil_bench_Len : OCall Tryz.prog 31 [.p (.atom (.pointer none))] [] [] (.p (.int .i64 0)) := by
 refine Fn.runO h31 rfl rfl rfl ?_
 generalize Tryz.prog = P at *
 (repeat' ((conv => whnf); first | exact trivial | with_reducible refine zX ?_ | refine ⟨rfl, ?_⟩ | refine ⟨_, rfl, ?_⟩ | with_reducible refine zP ?_ | with_reducible refine zL ?_ | refine ⟨fun _ => ?_, fun _ => ?_⟩ | refine zn ?_ | refine zb rfl ?_ | refine zX ?_ | refine zo rfl ?_ | refine zs ?_ | intro _)); all_goals (try (conv => whnf))
 all_goals rfl
theorem nil_agent_Ask (a b : Int) : OCall Tryz.prog 37 [.p (.atom (.pointer none)), .p (.int .i64 a), .p (.int .i64 b)] [] [] (.p (.bool false)) := by
 refine Fn.runO h37 rfl rfl rfl ?_
 generalize Tryz.prog = P at *
 (repeat' ((conv => whnf); first | exact trivial | with_reducible refine zX ?_ | refine ⟨rfl, ?_⟩ | refine ⟨_, rfl, ?_⟩ | with_reducible refine zP ?_ | with_reducible refine zL ?_ | refine ⟨fun _ => ?_, fun _ => ?_⟩ | refine zn ?_ | refine zb rfl ?_ | refine zX ?_ | refine zo rfl ?_ | refine zs ?_ | intro _)); all_goals (try (conv => whnf))
 all_goals rfl
theorem nil_agent_Tick : OCall Tryz.prog 38 [.p (.atom (.pointer none))] [] [] (.tup [.p (.int .i64 0), .p (.bool false)]) := by
 refine Fn.runO h38 rfl rfl rfl ?_
 generalize Tryz.prog = P at *
 (repeat' ((conv => whnf); first | exact trivial | with_reducible refine zX ?_ | refine ⟨rfl, ?_⟩ | refine ⟨_, rfl, ?_⟩ | with_reducible refine zP ?_ | with_reducible refine zL ?_ | refine ⟨fun _ => ?_, fun _ => ?_⟩ | refine zn ?_ | refine zb rfl ?_ | refine zX ?_ | refine zo rfl ?_ | refine zs ?_ | intro _)); all_goals (try (conv => whnf))
 all_goals rfl
theorem nil_agent_Serves : OCall Tryz.prog 39 [.p (.atom (.pointer none))] [] [] (.p (.int .i64 0)) := by
 refine Fn.runO h39 rfl rfl rfl ?_
 generalize Tryz.prog = P at *
 (repeat' ((conv => whnf); first | exact trivial | with_reducible refine zX ?_ | refine ⟨rfl, ?_⟩ | refine ⟨_, rfl, ?_⟩ | with_reducible refine zP ?_ | with_reducible refine zL ?_ | refine ⟨fun _ => ?_, fun _ => ?_⟩ | refine zn ?_ | refine zb rfl ?_ | refine zX ?_ | refine zo rfl ?_ | refine zs ?_ | intro _)); all_goals (try (conv => whnf))
 all_goals rfl
theorem nil_agent_Waiting : OCall Tryz.prog 40 [.p (.atom (.pointer none))] [] [] (.p (.int .i64 0)) := by
 refine Fn.runO h40 rfl rfl rfl ?_
 generalize Tryz.prog = P at *
 (repeat' ((conv => whnf); first | exact trivial | with_reducible refine zX ?_ | refine ⟨rfl, ?_⟩ | refine ⟨_, rfl, ?_⟩ | with_reducible refine zP ?_ | with_reducible refine zL ?_ | refine ⟨fun _ => ?_, fun _ => ?_⟩ | refine zn ?_ | refine zb rfl ?_ | refine zX ?_ | refine zo rfl ?_ | refine zs ?_ | intro _)); all_goals (try (conv => whnf))
 all_goals rfl
theorem nil_mail_Say (a b c d e : Int) : OCall Tryz.prog 33 [.p (.atom (.pointer none)), .p (.agg [.int .i64 a, .int .i64 b, .int .i64 c, .int .i64 d, .int .i64 e])] [] [] (.p (.bool false)) := by
 refine Fn.runO h33 rfl rfl rfl ?_
 generalize Tryz.prog = P at *
 (repeat' ((conv => whnf); first | exact trivial | with_reducible refine zX ?_ | refine ⟨rfl, ?_⟩ | refine ⟨_, rfl, ?_⟩ | with_reducible refine zP ?_ | with_reducible refine zL ?_ | refine ⟨fun _ => ?_, fun _ => ?_⟩ | refine zn ?_ | refine zb rfl ?_ | refine zX ?_ | refine zo rfl ?_ | refine zs ?_ | intro _)); all_goals (try (conv => whnf))
 all_goals rfl
theorem nil_mail_Due (a : Int) : OCall Tryz.prog 34 [.p (.atom (.pointer none)), .p (.int .i64 a)] [] [] (.p (.sl 5 true [])) := by
 refine Fn.runO h34 rfl rfl rfl ?_
 generalize Tryz.prog = P at *
 (repeat' ((conv => whnf); first | exact trivial | with_reducible refine zX ?_ | refine ⟨rfl, ?_⟩ | refine ⟨_, rfl, ?_⟩ | with_reducible refine zP ?_ | with_reducible refine zL ?_ | refine ⟨fun _ => ?_, fun _ => ?_⟩ | refine zn ?_ | refine zb rfl ?_ | refine zX ?_ | refine zo rfl ?_ | refine zs ?_ | intro _)); all_goals (try (conv => whnf))
 all_goals rfl
theorem nil_mail_Of (a : Int) : OCall Tryz.prog 41 [.p (.atom (.pointer none)), .p (.int .i64 a)] [] [] (.tup [.p (.agg [.int .i64 0, .int .i64 0, .int .i64 0, .int .i64 0, .int .i64 0]), .p (.bool false)]) := by
 refine Fn.runO h41 rfl rfl rfl ?_
 generalize Tryz.prog = P at *
 (repeat' ((conv => whnf); first | exact trivial | with_reducible refine zX ?_ | refine ⟨rfl, ?_⟩ | refine ⟨_, rfl, ?_⟩ | with_reducible refine zP ?_ | with_reducible refine zL ?_ | refine ⟨fun _ => ?_, fun _ => ?_⟩ | refine zn ?_ | refine zb rfl ?_ | refine zX ?_ | refine zo rfl ?_ | refine zs ?_ | intro _)); all_goals (try (conv => whnf))
 all_goals rfl
theorem nil_mail_Len : OCall Tryz.prog 35 [.p (.atom (.pointer none))] [] [] (.p (.int .i64 0)) := by
 refine Fn.runO h35 rfl rfl rfl ?_
 generalize Tryz.prog = P at *
 (repeat' ((conv => whnf); first | exact trivial | with_reducible refine zX ?_ | refine ⟨rfl, ?_⟩ | refine ⟨_, rfl, ?_⟩ | with_reducible refine zP ?_ | with_reducible refine zL ?_ | refine ⟨fun _ => ?_, fun _ => ?_⟩ | refine zn ?_ | refine zb rfl ?_ | refine zX ?_ | refine zo rfl ?_ | refine zs ?_ | intro _)); all_goals (try (conv => whnf))
 all_goals rfl
theorem lawJN : PureCall Tryz.prog 14 [] (.p (.bool true)) := by
 have hbeg : PureCall Tryz.prog 15 [] (.p (.bool true)) := begun8
 have q0 := nil_bench_Ready 1 1
 have q1 := nil_bench_Leave 1
 have q2 := nil_bench_Runs 
 have q3 := nil_bench_Len 
 have q4 := nil_agent_Ask 1 1
 have q5 := nil_agent_Tick 
 have q6 := nil_agent_Serves 
 have q7 := nil_agent_Waiting 
 have q8 := nil_mail_Say 1 1 0 0 0
 have q9 := nil_mail_Due 9
 have q10 := nil_mail_Of 1
 have q11 := nil_mail_Len 
 have hA : PureCall Tryz.prog 22 [eJ ⟨0, 0, 0, 0, 0, 0, 0, 0, 0⟩] (.p (.bool false)) := active15 _
 have hLd : PureCall Tryz.prog 42 [.sl 3 true []] (.p (.bool true)) := by
  have h := loads98 true []
  have e : mayL [] = true := by decide
  rw [e] at h
  exact h
 simp only [eJ] at hA
 refine Fn.run k14 rfl ?_
 generalize Tryz.prog = P at *
 (repeat' ((conv => whnf); first | exact trivial | with_reducible refine zX ?_ | refine ⟨rfl, ?_⟩ | refine ⟨_, rfl, ?_⟩ | with_reducible refine zP ?_ | with_reducible refine zL ?_ | refine ⟨fun _ => ?_, fun _ => ?_⟩ | refine zO ?_ | refine zn ?_ | refine zb rfl ?_ | refine zX ?_ | refine zo rfl ?_ | refine zs ?_ | intro _ | (with_reducible show testB.match_1 (fun _ => Prop) _ _ _; with_reducible refine zT ?_))); all_goals (try (conv => whnf))
 all_goals first
  | rfl
  | (exfalso; simp at *; done)
end Go.Proofs.YtnjphclbpgajpaaGreatDoor.Vc
