/- Part of a proof over a Go program: La. No condition. -/
import Derived.Test.YtkjghcbnmipgfaaGreatDoorA35
import Derived.Test.YtkjghcbnmipgfaaGreatDoorA34
import Derived.Test.YtkjghcbnmipgfaaGreatDoorA33
import Derived.Test.YtkjghcbnmipgfaaGreatDoorA14
set_option linter.unusedSectionVars false
set_option linter.unusedSimpArgs false
set_option linter.unusedVariables false
set_option maxHeartbeats 4000000
set_option maxRecDepth 100000
namespace Go.Proofs.YtkjghcbnmipgfaaGreatDoor.Vc
open Go.RowKit Ma
instance : No ((true == true) = false) := ⟨by decide⟩
instance : No ((false == false) = false) := ⟨by decide⟩
instance : No ((true == false) = true) := ⟨by decide⟩
instance : No ((false == true) = true) := ⟨by decide⟩
instance : No ((true == true) = !true) := ⟨by decide⟩
instance : No ((false == false) = !true) := ⟨by decide⟩
instance : No ((true == false) = !false) := ⟨by decide⟩
instance : No ((false == true) = !false) := ⟨by decide⟩
/-- Of an input: the configuration and the loads that the law goes on with. -/
structure Kept (c : Cf) (nl : Bool) (ls : LL) (d : Cf) (L : LL) : Prop where
  ok : d.ok = true
  cf : PureCall Tryz.prog 19 [eCf c] (.p (eCf d))
  co : PureCall Tryz.prog 20 [eCf d, sLL nl ls] (.p (sLL false L))
  ll : LLok L
  len : (L.length : Int) = d.cores
  few : L.length ≤ 6
  each : ∀ p, p ∈ L → fitsB p.2 = true ∧ p.2.length ≤ 10 ∧ p.1 = p.2.isEmpty
theorem kept (c : Cf) (nl : Bool) (ls : LL) : ∃ d L, Kept c nl ls d L := by
  have hok := cfV_ok c
  obtain ⟨⟨⟨q1, q2⟩, _⟩, _⟩ := ok_head hok
  obtain ⟨n, hn⟩ : ∃ n : Nat, (cfV c).cores = n := ⟨(cfV c).cores.toNat, by omega⟩
  have hlen := fun y hy => coresV_len (n := n) (ls := ls) (y := y) hy
  have hfit := fun y hy => coresV_fits (n := n) (ls := ls) (y := y) hy
  have hL := coresV_length n ls
  refine ⟨cfV c, (coresV n ls).map eLd, hok, config19 c, cores20 (cfV c) n hn (by omega) nl ls, LLok_of hlen (by omega), by simp; omega, by simp; omega, fun p hp => ?_⟩
  obtain ⟨y, hy, rfl⟩ := List.mem_map.1 hp
  exact ⟨hfit y hy, hlen y hy, rfl⟩
theorem eqSame (k : Int) (n : Bool) (ps : List Pc) (h : ps.length ≤ 1000) : PureCall Tryz.prog 24 [ePl k n ps, ePl k n ps] (.p (.bool true)) := by
  have := eqpl24 k k n n ps ps h
  simpa using this
theorem eqSame37 (k : Int) (n : Bool) (ps : List Pc) (h : ps.length ≤ 1000) : PureCall Tryz.prog 37 [ePl k n ps, ePl k n ps] (.p (.bool true)) := by
  have := eq37 k k n n ps ps h
  simpa using this
theorem winP_spec {d : Cf} {t : Tk} {L : LL} {n : Int} (hd : d.ok = true) (ht : t.ok n = true) (hw : winP d t L ≠ []) : t.secs = [] ∧ ∃ w, WinOk d.lag d.move t.C t.D t.T (L.map (·.2)) (winP d t L) w := by
  have hl := lim_of hd ht
  unfold winP at hw ⊢
  by_cases hs : t.secs = []
  · rw [if_pos hs] at hw ⊢
    exact ⟨hs, windowV_spec hl.l1 hl.m1 hl.C1 _ _ hw⟩
  · rw [if_neg hs] at hw; exact absurd rfl hw
theorem winP_plan {d : Cf} {t : Tk} {L : LL} {n : Int} (hd : d.ok = true) (ht : t.ok n = true) (hlen : (L.length : Int) = d.cores) (hw : winP d t L ≠ []) : planB d.cores d.lag d.move t.C t.D t.secs.length 2 (winP d t L) = true := by
  obtain ⟨hs, w, h⟩ := winP_spec hd ht hw
  rw [planB_iff, hs]
  exact h.plan (lim_of hd ht) (by simpa using hlen)
theorem winP_len {d : Cf} {t : Tk} {L : LL} {n : Int} (hd : d.ok = true) (ht : t.ok n = true) (hf : L.length ≤ 6) : (winP d t L).length ≤ 6 := by
  by_cases hw : winP d t L = []
  · rw [hw]; simp
  · obtain ⟨_, w, h⟩ := winP_spec hd ht hw
    have := h.le
    simp at this; omega
theorem zerP_spec {d : Cf} {t : Tk} {L : LL} (hw : zerP d t L ≠ []) : t.secs = [] ∧ ZeroOk d.lag d.move t.C t.D t.T (L.map (·.2)) (zerP d t L) := by
  unfold zerP at hw ⊢
  by_cases hs : t.secs = []
  · rw [if_pos hs] at hw ⊢
    exact ⟨hs, zeroV_spec hw⟩
  · rw [if_neg hs] at hw; exact absurd rfl hw
theorem zerP_plan {d : Cf} {t : Tk} {L : LL} {n : Int} (hd : d.ok = true) (ht : t.ok n = true) (hlen : (L.length : Int) = d.cores) (hw : zerP d t L ≠ []) : planB d.cores d.lag d.move t.C t.D t.secs.length 3 (zerP d t L) = true := by
  obtain ⟨hs, h⟩ := zerP_spec hw
  rw [planB_iff, hs]
  exact h.plan (lim_of hd ht) (by simpa using hlen)
theorem zerP_len {d : Cf} {t : Tk} {L : LL} : (zerP d t L).length ≤ 2 := by
  by_cases hw : zerP d t L = []
  · rw [hw]; simp
  · obtain ⟨_, h⟩ := zerP_spec hw
    obtain ⟨a, b, x, _, _, _, _, _, _, _, _, e⟩ := h.it
    rw [e]; simp
theorem cut_len (t : Tk) : t.cut.secs.length ≤ 4 := by simp [Tk.cut]; omega
end Go.Proofs.YtkjghcbnmipgfaaGreatDoor.Vc
