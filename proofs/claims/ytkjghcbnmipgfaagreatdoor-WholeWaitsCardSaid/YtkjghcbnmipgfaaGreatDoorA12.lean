/- Part of a proof over a Go program: Ce. No condition. -/
import Derived.Test.YtkjghcbnmipgfaaGreatDoorA11
set_option linter.unusedSectionVars false
set_option linter.unusedSimpArgs false
set_option linter.unusedVariables false
set_option maxHeartbeats 4000000
set_option maxRecDepth 100000
namespace Go.Proofs.YtkjghcbnmipgfaaGreatDoor.Vc
open Go.RowKit Ma
theorem mn_facts {α : Type} (m : Nat) (l : List α) : (0 : Int) ≤ (if (m : Int) < (l.length : Int) then (m : Int) else (l.length : Int)) ∧ (if (m : Int) < (l.length : Int) then (m : Int) else (l.length : Int)) ≤ (l.length : Int) ∧
    l.take (if (m : Int) < (l.length : Int) then (m : Int) else (l.length : Int)).toNat = l.take m := by
  split
  · rename_i h
    exact ⟨by omega, by omega, by rw [Int.toNat_natCast]⟩
  · rename_i h
    exact ⟨by omega, by omega, by rw [Int.toNat_natCast, List.take_length, List.take_of_length_le (by omega)]⟩
theorem mn_take {α : Type} (m : Nat) (k : Int) (hk : k = m) (l : List α) : l.take (if k < (l.length : Int) then k else (l.length : Int)).toNat = l.take m := by subst hk; exact (mn_facts m l).2.2
theorem isEmpty_map {α β : Type} (f : α → β) (l : List α) : (l.map f).isEmpty = l.isEmpty := by cases l <;> rfl
theorem loads39 (nl : Bool) (l : List Ld) : PureCall Tryz.prog 39 [sL nl l] (.ow 3 (l.take 10).isEmpty ((l.take 10).map eL)) := by
  have hm := maxLen_eq
  obtain ⟨f1, f2, f3⟩ := mn_facts 10 (l.map eL)
  have e : (l.map eL).take 10 = (l.take 10).map eL := by rw [List.map_take]
  have hlen : ((l.map eL).take 10).length ≤ 10 := by simp; omega
  have hA1 : (([] : List PV).length + ((l.map eL).take (if ((10 : Nat) : Int) < ((l.map eL).length : Int) then ((10 : Nat) : Int) else ((l.map eL).length : Int)).toNat).length) * 24 ≤ 140737488355328 := by rw [f3]; simp only [List.length_nil]; omega
  have hA2 : ([] : List PV).length + ((l.map eL).take (if ((10 : Nat) : Int) < ((l.map eL).length : Int) then ((10 : Nat) : Int) else ((l.map eL).length : Int)).toNat).length ≤ maxLen := by rw [f3]; simp only [List.length_nil]; omega
  refine Fn.run k39 rfl ?_
  generalize Tryz.prog = P at *
  (repeat' ((conv => whnf); first | exact trivial | with_reducible refine zX ?_ | refine ⟨rfl, ?_⟩ | refine ⟨_, rfl, ?_⟩ | with_reducible refine zP ?_ | with_reducible refine zL ?_ | refine ⟨fun _ => ?_, fun _ => ?_⟩ | refine zn ?_ | refine zb rfl ?_ | refine zX ?_ | refine zo rfl ?_ | refine zs ?_ | intro _)); all_goals (try (conv => whnf))
  rw [mn_take 10 10 rfl, ← List.map_take, isEmpty_map]
  rfl
def Cf.cut (c : Cf) : Cf := ⟨c.cores, c.syncs, c.lag, c.move, (c.res.take 8).isEmpty, c.res.take 8⟩
def Cf.def0 : Cf := ⟨2, 1, 1, 1, false, [0]⟩
def cfV (c : Cf) : Cf := if c.cut.ok then c.cut else Cf.def0
theorem config41 (c : Cf) : PureCall Tryz.prog 41 [eCf c] (.p (eCf c.cut)) := by
  have hm := maxLen_eq
  obtain ⟨f1, f2, f3⟩ := mn_facts 8 (c.res.map eI)
  have hlen : ((c.res.map eI).take 8).length ≤ 8 := by simp; omega
  have hA1 : (([] : List PV).length + ((c.res.map eI).take (if ((8 : Nat) : Int) < ((c.res.map eI).length : Int) then ((8 : Nat) : Int) else ((c.res.map eI).length : Int)).toNat).length) * 8 ≤ 140737488355328 := by rw [f3]; simp only [List.length_nil]; omega
  have hA2 : ([] : List PV).length + ((c.res.map eI).take (if ((8 : Nat) : Int) < ((c.res.map eI).length : Int) then ((8 : Nat) : Int) else ((c.res.map eI).length : Int)).toNat).length ≤ maxLen := by rw [f3]; simp only [List.length_nil]; omega
  refine Fn.run k41 rfl ?_
  generalize Tryz.prog = P at *
  (repeat' ((conv => whnf); first | exact trivial | with_reducible refine zX ?_ | refine ⟨rfl, ?_⟩ | refine ⟨_, rfl, ?_⟩ | with_reducible refine zP ?_ | with_reducible refine zL ?_ | refine ⟨fun _ => ?_, fun _ => ?_⟩ | refine zn ?_ | refine zb rfl ?_ | refine zX ?_ | refine zo rfl ?_ | refine zs ?_ | intro _)); all_goals (try (conv => whnf))
  rw [mn_take 8 8 rfl, ← List.map_take, isEmpty_map]
  rfl
theorem config19 (c : Cf) : PureCall Tryz.prog 19 [eCf c] (.p (eCf (cfV c))) := by
  have h1 := config41 c
  have h2 := config42 c.cut (by simp [Cf.cut]; omega)
  unfold cfV
  cases hok : c.cut.ok with
  | true =>
    rw [hok] at h2
    rw [if_pos rfl]
    generalize c.cut = d at *
    simp only [eCf] at *
    refine Fn.run k19 rfl ?_
    generalize Tryz.prog = P at *
    (repeat' ((conv => whnf); first | exact trivial | with_reducible refine zX ?_ | refine ⟨rfl, ?_⟩ | refine ⟨_, rfl, ?_⟩ | with_reducible refine zP ?_ | with_reducible refine zL ?_ | refine ⟨fun _ => ?_, fun _ => ?_⟩ | refine zn ?_ | refine zb rfl ?_ | refine zX ?_ | refine zo rfl ?_ | refine zs ?_ | intro _)); all_goals (try (conv => whnf))
    all_goals rfl
  | false =>
    rw [hok] at h2
    rw [if_neg (by decide)]
    generalize c.cut = d at *
    simp only [eCf] at *
    refine Fn.run k19 rfl ?_
    generalize Tryz.prog = P at *
    (repeat' ((conv => whnf); first | exact trivial | with_reducible refine zX ?_ | refine ⟨rfl, ?_⟩ | refine ⟨_, rfl, ?_⟩ | with_reducible refine zP ?_ | with_reducible refine zL ?_ | refine ⟨fun _ => ?_, fun _ => ?_⟩ | refine zn ?_ | refine zb rfl ?_ | refine zX ?_ | refine zo rfl ?_ | refine zs ?_ | intro _)); all_goals (try (conv => whnf))
    all_goals rfl
/-- What is kept of a core's loads. -/
noncomputable def keep (l : List Ld) : List Ld := if fitsB (l.take 10) then l.take 10 else []
noncomputable def coreAt (ls : LL) (k : Nat) : List Ld := match ls[k]? with
  | some p => keep p.2
  | none => []
noncomputable def coresV (n : Nat) (ls : LL) : List (List Ld) := (List.range n).map (coreAt ls)
def eLd (x : List Ld) : Bool × List Ld := (x.isEmpty, x)
structure CoInv (n : Nat) (ls : LL) (i : Nat) (rows : List (List DV)) : Prop where
  len : rows.length = n
  at_ : ∀ k, k < n → ∃ d, rows[k]? = some [d] ∧ ((d = .ow 3 true [] ∧ (k < i → coreAt ls k = [])) ∨ d = .p (eC (eLd (coreAt ls k))))
theorem coInv_end {n : Nat} {ls : LL} {i : Nat} {rows : List (List DV)} (h : CoInv n ls i rows) (hi : n ≤ i ∨ ls.length ≤ i) : copiesR rows = (coresV n ls).map fun x => [DV.p (eC (eLd x))] := by
  rw [copiesR_eq]
  apply List.ext_getElem?
  intro k
  rw [List.getElem?_map, List.getElem?_map]
  by_cases hk : k < n
  · obtain ⟨d, h1, h2⟩ := h.at_ k hk
    have e : (coresV n ls)[k]? = some (coreAt ls k) := by simp [coresV, hk]
    rw [h1, e]
    simp only [Option.map_some]
    rcases h2 with ⟨rfl, h2⟩ | rfl
    · have : coreAt ls k = [] := by
        by_cases hki : k < i
        · exact h2 hki
        · have : ls[k]? = none := List.getElem?_eq_none (by omega)
          simp [coreAt, this]
      rw [this]; rfl
    · rfl
  · have e1 : rows[k]? = none := List.getElem?_eq_none (by rw [h.len]; omega)
    have e2 : (coresV n ls)[k]? = none := List.getElem?_eq_none (by simp [coresV]; omega)
    rw [e1, e2]; rfl
theorem coInv_step {n : Nat} {ls : LL} {i : Nat} {rows : List (List DV)} (h : CoInv n ls i rows) (hi : i < n) {v : DV} (hv : v = .p (eC (eLd (coreAt ls i)))) : CoInv n ls (i + 1) (setL rows i [v]) := by
  refine ⟨by rw [setL_length, h.len], fun k hk => ?_⟩
  obtain ⟨d, h1, h2⟩ := h.at_ k hk
  rw [getElem?_setL]
  by_cases e : k = i
  · subst e; rw [if_pos rfl, h1]; exact ⟨v, rfl, .inr hv⟩
  · rw [if_neg e]; exact ⟨d, h1, h2.imp (fun h => ⟨h.1, fun hk => h.2 (by omega)⟩) id⟩
theorem coInv_skip {n : Nat} {ls : LL} {i : Nat} {rows : List (List DV)} (h : CoInv n ls i rows) (he : coreAt ls i = []) : CoInv n ls (i + 1) rows := by
  refine ⟨h.len, fun k hk => ?_⟩
  obtain ⟨d, h1, h2⟩ := h.at_ k hk
  refine ⟨d, h1, h2.imp (fun h => ⟨h.1, fun hk => ?_⟩) id⟩
  by_cases e : k = i
  · subst e; exact he
  · exact h.2 (by omega)
theorem allPR_one {α : Type} (f : α → PV) (l : List α) : allPR (l.map fun x => [DV.p (f x)]) = true := by
  induction l with
  | nil => rfl
  | cons a l ih => simp [allPR, allP, DV.isP, ih]
theorem rowsP_one {α : Type} (f : α → PV) (l : List α) : rowsP false (l.map fun x => [DV.p (f x)]) = some (l.map f) := by
  induction l with
  | nil => rfl
  | cons a l ih => simp [rowsP, cellsP, ih]
theorem frz_bs {b : List (Option Box)} {k size n : Nat} {ag : Bool} {bx : Box} {rows : List PV} (hb : getB b k = some bx) (h : bx.live = false ∧ (ag = true ∨ size = 1) ∧ size = bx.size ∧ n = bx.rows.length)
    (hr : rowsP ag bx.rows = some rows) : DV.frz b (.bs k size ag 0 n) = some (.sl size false rows) := by
  simp only [DV.frz, hb]
  rw [if_pos ⟨h.1, h.2.1, h.2.2.1, trivial, h.2.2.2⟩, hr]
theorem frz_ok {b : List (Option Box)} {d : DV} {x : PV} {N : PV → Prop} (h : DV.frz b d = some x) (hn : N x) : (match DV.frz b d with | some x => N x | none => False) := by rw [h]; exact hn
theorem cores20 (c : Cf) (n : Nat) (hn : c.cores = n) (hn2 : n ≤ 1000) (nl : Bool) (ls : LL) : PureCall Tryz.prog 20 [eCf c, sLL nl ls] (.p (sLL false ((coresV n ls).map eLd))) := by
  have hm := maxLen_eq
  obtain ⟨cc, c1, c2, c3, c4, c5⟩ := c
  simp only at hn
  subst hn
  have hld := fun (p : Bool × List Ld) => loads39 p.1 p.2
  have hft := fun (p : Bool × List Ld) => fits34 (p.2.take 10).isEmpty (p.2.take 10)
  have g1 : (0 : Int) ≤ (n : Int) := by omega
  have g2 : (n : Int) * 24 ≤ 140737488355328 := by omega
  have g3 : (n : Int) ≤ maxLen := by omega
  refine Fn.run k20 rfl ?_
  generalize Tryz.prog = P at *
  (repeat' ((conv => whnf); first | exact trivial | with_reducible refine zX ?_ | refine ⟨rfl, ?_⟩ | refine ⟨_, rfl, ?_⟩ | with_reducible refine zP ?_ | with_reducible refine zL ?_ | refine ⟨fun _ => ?_, fun _ => ?_⟩ | refine zn ?_ | refine zb rfl ?_ | refine zX ?_ | refine zo rfl ?_ | refine zs ?_ | intro _)); all_goals (try (conv => whnf))
  refine loop_inv (fun m s => ∃ (i : Nat) (rows : List (List DV)), m + i = n ∧ CoInv n ls i rows ∧
    s = ⟨mkT 35 [(1, .p (sLL nl ls)), (2, .addr 0 5 0 0), (5, .bs 1 1 false 0 n), (6, .p (.int .i64 i))], [some (bCf ⟨n, c1, c2, c3, c4, c5⟩ true), some ⟨true, 1, rows, false⟩]⟩) n ?_ ?_
  · conv => whnf
    refine ⟨0, List.replicate n [.ow 3 true []], rfl, ⟨by simp, fun k hk => ⟨.ow 3 true [], by simp [hk], .inl ⟨rfl, fun h => absurd h (Nat.not_lt_zero k)⟩⟩⟩, ?_⟩
    rfl
  · rintro m st b N ⟨i, rows, hmi, hI, e⟩ hN
    cases e
    by_cases hlt : i < n ∧ i < ls.length
    · obtain ⟨hl1, hl2⟩ := hlt
      have hrow : (ls.map eC)[i]? = some (sL ls[i].1 ls[i].2) := by simp [hl2, eC]
      have hb1 : decide ((i : Int) < (n : Int)) = true := lt_t hl1
      have hb := lt_t (n := (ls.map eC).length) (by simpa using hl2)
      have h1 := hld ls[i]
      have h2 := hft ls[i]
      obtain ⟨d, hd, _⟩ := hI.at_ i hl1
      have hd' : rows[0 + ((i : Int)).toNat]? = some [d] := by simpa using hd
      have hil : (i : Int) < (n : Int) := by omega
      have hca : coreAt ls i = keep ls[i].2 := by simp [coreAt, hl2]
      generalize ls[i] = p at *
      cases hfit : fitsB (p.2.take 10) with
      | true =>
        rw [hfit] at h2
        (repeat' ((conv => whnf); first | exact trivial | with_reducible refine zX ?_ | refine ⟨rfl, ?_⟩ | refine ⟨_, rfl, ?_⟩ | with_reducible refine zP ?_ | with_reducible refine zL ?_ | refine ⟨fun _ => ?_, fun _ => ?_⟩ | refine zn ?_ | refine zb rfl ?_ | refine zX ?_ | refine zo rfl ?_ | refine zs ?_ | intro _)); all_goals (try (conv => whnf))
        rw [next1 (n := n) hl1 (by omega)]
        refine hN (m - 1) _ (by omega) ⟨i + 1, _, by omega, coInv_step hI hl1 (v := .p (eC (eLd (p.2.take 10)))) ?_, ?_⟩
        · rw [hca]; unfold keep; rw [if_pos hfit]
        · simp only [Int.toNat_natCast, Nat.zero_add]
          rfl
      | false =>
        rw [hfit] at h2
        (repeat' ((conv => whnf); first | exact trivial | with_reducible refine zX ?_ | refine ⟨rfl, ?_⟩ | refine ⟨_, rfl, ?_⟩ | with_reducible refine zP ?_ | with_reducible refine zL ?_ | refine ⟨fun _ => ?_, fun _ => ?_⟩ | refine zn ?_ | refine zb rfl ?_ | refine zX ?_ | refine zo rfl ?_ | refine zs ?_ | intro _)); all_goals (try (conv => whnf))
        rw [next1 (n := n) hl1 (by omega)]
        refine hN (m - 1) _ (by omega) ⟨i + 1, rows, by omega, coInv_skip hI ?_, rfl⟩
        rw [hca]; unfold keep; rw [if_neg (by rw [hfit]; decide)]
    · have hend := coInv_end hI (by omega)
      have hlen : (copiesR rows).length = n := by rw [hend]; simp [coresV]
      have hap : allPR (copiesR rows) = true := by rw [hend]; exact allPR_one _ _
      have hrp : rowsP false (copiesR rows) = some (((coresV n ls).map eLd).map eC) := by rw [hend, rowsP_one (fun x => eC (eLd x)), List.map_map]; rfl
      by_cases hl1 : i < n
      · have hb1 : decide ((i : Int) < (n : Int)) = true := lt_t hl1
        have hb := lt_f (i := i) (n := (ls.map eC).length) (by simp; omega)
        (repeat' ((conv => whnf); first | exact trivial | with_reducible refine zX ?_ | refine ⟨rfl, ?_⟩ | refine ⟨_, rfl, ?_⟩ | with_reducible refine zP ?_ | with_reducible refine zL ?_ | refine ⟨fun _ => ?_, fun _ => ?_⟩ | refine zn ?_ | refine zb rfl ?_ | refine zX ?_ | refine zo rfl ?_ | refine zs ?_ | intro _)); all_goals (try (conv => whnf))
        all_goals (try refine And.intro hap ?_)
        all_goals exact frz_ok (frz_bs (k := 1) (size := 1) (n := n) (ag := false) (bx := ⟨false, 1, copiesR rows, false⟩) rfl ⟨rfl, .inr rfl, rfl, hlen.symm⟩ hrp) rfl
      · have hb1 : decide ((i : Int) < (n : Int)) = false := lt_f hl1
        (repeat' ((conv => whnf); first | exact trivial | with_reducible refine zX ?_ | refine ⟨rfl, ?_⟩ | refine ⟨_, rfl, ?_⟩ | with_reducible refine zP ?_ | with_reducible refine zL ?_ | refine ⟨fun _ => ?_, fun _ => ?_⟩ | refine zn ?_ | refine zb rfl ?_ | refine zX ?_ | refine zo rfl ?_ | refine zs ?_ | intro _)); all_goals (try (conv => whnf))
        all_goals (try refine And.intro hap ?_)
        all_goals exact frz_ok (frz_bs (k := 1) (size := 1) (n := n) (ag := false) (bx := ⟨false, 1, copiesR rows, false⟩) rfl ⟨rfl, .inr rfl, rfl, hlen.symm⟩ hrp) rfl
end Go.Proofs.YtkjghcbnmipgfaaGreatDoor.Vc
