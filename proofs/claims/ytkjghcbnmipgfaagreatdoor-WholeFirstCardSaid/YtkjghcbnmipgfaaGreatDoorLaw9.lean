/- Contracts of laws on whole tasks: they answer true. No condition. -/
import Derived.Test.YtkjghcbnmipgfaaGreatDoorCe
set_option maxRecDepth 100000
set_option maxHeartbeats 4000000
namespace Go.Proofs.YtkjghcbnmipgfaaGreatDoor.Vc
open Go.RowKit Ma

theorem def0_ok : Cf.def0.ok = true := by decide
theorem cfV_ok (c : Cf) : (cfV c).ok = true := by
  unfold cfV
  split
  · assumption
  · exact def0_ok
theorem ok_head {c : Cf} (h : c.ok = true) : headR c ∧ c.res.length ≤ 6 := by
  unfold Cf.ok at h
  simp only [Bool.and_eq_true, decide_eq_true_eq] at h
  exact ⟨h.1, h.2.1⟩
theorem keep_len (l : List Ld) : (keep l).length ≤ 10 := by
  unfold keep
  split
  · simp; omega
  · simp
theorem keep_fits (l : List Ld) : fitsB (keep l) = true := by
  unfold keep
  split
  · assumption
  · rw [fitsB_iff]; exact ⟨by decide, .inl rfl⟩
theorem coreAt_len (ls : LL) (k : Nat) : (coreAt ls k).length ≤ 10 := by
  unfold coreAt
  split
  · exact keep_len _
  · simp
theorem coreAt_fits (ls : LL) (k : Nat) : fitsB (coreAt ls k) = true := by
  unfold coreAt
  split
  · exact keep_fits _
  · rw [fitsB_iff]; exact ⟨by decide, .inl rfl⟩
theorem coresV_len {n : Nat} {ls : LL} {y : List Ld} (h : y ∈ coresV n ls) : y.length ≤ 10 := by
  obtain ⟨k, _, rfl⟩ := List.mem_map.1 h
  exact coreAt_len _ _
theorem coresV_fits {n : Nat} {ls : LL} {y : List Ld} (h : y ∈ coresV n ls) : fitsB y = true := by
  obtain ⟨k, _, rfl⟩ := List.mem_map.1 h
  exact coreAt_fits _ _
theorem coresV_length (n : Nat) (ls : LL) : (coresV n ls).length = n := by simp [coresV]
theorem eLd_map (L : List (List Ld)) : (L.map eLd).map (·.2) = L := by
  rw [List.map_map]
  exact List.map_id' L
theorem LLok_of {L : List (List Ld)} (h : ∀ y, y ∈ L → y.length ≤ 10) (hn : L.length ≤ 1000) : LLok (L.map eLd) := by
  refine ⟨fun p hp h1 => ?_, fun p hp => ?_, by simpa using hn⟩
  · obtain ⟨y, _, rfl⟩ := List.mem_map.1 hp
    exact List.isEmpty_iff.1 h1
  · obtain ⟨y, hy, rfl⟩ := List.mem_map.1 hp
    have := h y hy
    simp only [eLd]; omega
theorem core_spec (L : List (List Ld)) (x : Ld) (i : Nat) (hi : i < L.length) : (coreV L x = i → fitsB (L[i] ++ [x]) = true) ∧ (coreV L x < 0 ∨ i < coreV L x → fitsB (L[i] ++ [x]) = false) := by
  refine ⟨fun h => ?_, fun h => ?_⟩
  · obtain ⟨j, hj, e, h1, _⟩ := coreV_some (x := x) (ls := L) (by omega)
    have : j = i := by omega
    subst this
    exact h1
  · by_cases h0 : coreV L x < 0
    · exact coreV_none.1 h0 _ (List.getElem_mem _)
    · obtain ⟨j, hj, e, _, h2⟩ := coreV_some h0
      exact h2 i (by omega)

theorem law9 (hbeg : PureCall Tryz.prog 18 [] (.p (.bool true))) (c : Cf) (nl : Bool) (ls : LL) (x : Ld) : PureCall Tryz.prog 9 [eCf c, sLL nl ls, eL x] (.p (.bool true)) := by
  have hm := maxLen_eq
  have hcf := config19 c
  obtain ⟨⟨⟨q1, q2⟩, _⟩, _⟩ := ok_head (cfV_ok c)
  obtain ⟨n, hn⟩ : ∃ n : Nat, (cfV c).cores = n := ⟨(cfV c).cores.toNat, by omega⟩
  have hco := cores20 (cfV c) n hn (by omega) nl ls
  have hlen := fun y hy => coresV_len (n := n) (ls := ls) (y := y) hy
  have hL := coresV_length n ls
  have hcv := core25 false ((coresV n ls).map eLd) (LLok_of hlen (by omega)) x
  rw [eLd_map] at hcv
  have hge := coreV_ge x (coresV n ls)
  have hsp := core_spec (coresV n ls) x
  generalize coreV (coresV n ls) x = k at *
  generalize coresV n ls = L at *
  generalize cfV c = d at *
  have hld : ∀ y : List Ld, y.length ≤ 10 → PureCall Tryz.prog 39 [sL y.isEmpty y] (.ow 3 y.isEmpty (y.map eL)) := fun y hy => by
    have := loads39 y.isEmpty y
    rw [List.take_of_length_le hy] at this
    exact this
  have hft : ∀ (y : List Ld) (b : Bool), PureCall Tryz.prog 34 [.sl 3 (b && false) (y.map eL ++ [.agg [.int .i64 x.c, .int .i64 x.d, .int .i64 x.t]])] (.p (.bool (fitsB (y ++ [x])))) := fun y b => by
    have := fits34 false (y ++ [x])
    rw [sL, List.map_append] at this
    rw [Bool.and_false]
    exact this
  have g1 : decide (k ≥ -1) = true := decide_eq_true (by omega)
  have g2 : decide (k < (((L.map eLd).map eC).length : Int)) = true := decide_eq_true (by simp; omega)
  simp only [eCf, eL] at hcf hco hcv
  refine Fn.run k9 rfl ?_
  generalize Tryz.prog = P at *
  (repeat' (conv => whnf
            first | exact trivial | with_reducible refine ⟨_, by assumption, ?_⟩ | refine ⟨rfl, ?_⟩ | refine ⟨_, rfl, ?_⟩ | with_reducible refine evR ?_ | with_reducible refine evL ?_ | with_reducible refine evA true (by assumption) ?_ | with_reducible refine evA false (by assumption) ?_ | with_reducible refine evB true (by assumption) ?_ | with_reducible refine evB false (by assumption) ?_ | refine ⟨fun _ => ?_, fun _ => ?_⟩ | refine ⟨Int.natCast_nonneg _, ?_⟩ | refine ⟨Nat.le_of_ble_eq_true rfl, ?_⟩ | refine ⟨_, by assumption, ?_⟩ | refine And.intro (Or.inl rfl) ?_ | (refine And.intro ?_ ?_; focus (first | assumption | decide | (simp only [List.length_nil, List.length_cons, List.length_map, List.length_append]; omega) | (refine List.forall_mem_cons.2 ⟨rfl, ?_⟩; (repeat' first | exact fun _ h => absurd h List.not_mem_nil | refine List.forall_mem_cons.2 ⟨rfl, ?_⟩); done))) | intro _)
   all_goals (try (conv => whnf)))
  refine loop_inv (fun m s => ∃ i : Nat, m + i = L.length ∧ s = ⟨mkT 65 [(5, .addr 1 3 0 0), (8, .p (sLL false (L.map eLd))), (9, .p (.int .i64 k)), (10, .p (.int .i64 i))], [some (bCf d true), some ⟨true, 3, [[.p (.int .i64 x.c), .p (.int .i64 x.d), .p (.int .i64 x.t)]], false⟩]⟩) L.length ?_ ?_
  · conv => whnf
    exact ⟨0, rfl, rfl⟩
  · rintro m st b N ⟨i, hi, e⟩ hN
    cases e
    by_cases hlt : i < L.length
    · have hrow : ((L.map eLd).map eC)[i]? = some (sL L[i].isEmpty L[i]) := by simp [hlt, eC, eLd]
      have hb := lt_t (n := ((L.map eLd).map eC).length) (by simpa using hlt)
      have h1 := hld L[i] (hlen _ (List.getElem_mem _))
      have h2 := hft L[i] L[i].isEmpty
      have h3 := hsp i hlt
      have hyl := hlen _ (List.getElem_mem hlt)
      generalize L[i] = y at *
      generalize fitsB (y ++ [x]) = f at *
      have a1 : (y.map eL).length + 1 ≤ maxLen := by simp; omega
      have a2 : ((y.map eL).length + 1) * 24 ≤ 140737488355328 := by simp; omega
      have hstep : ∀ {s : St}, s = ⟨mkT 65 [(5, .addr 1 3 0 0), (8, .p (sLL false (L.map eLd))), (9, .p (.int .i64 k)), (10, .p (.int .i64 (IntKind.wrap .i64 ((i : Int) + 1))))], [some (bCf d true), some ⟨true, 3, [[.p (.int .i64 x.c), .p (.int .i64 x.d), .p (.int .i64 x.t)]], false⟩]⟩ → N s := fun e => by
        rw [next1 (n := L.length) hlt (by omega)] at e
        exact hN (m - 1) _ (by omega) ⟨i + 1, by omega, e⟩
      clear hN hld hft hsp hlen hcv hcf hco hbeg
      rcases Int.lt_trichotomy k i with t | t | t
      · have d1 : (k == (i : Int)) = false := by simp; omega
        have d3 : decide ((i : Int) < k) = false := decide_eq_false (by omega)
        by_cases t2 : k < 0
        · have d2 : decide (k < 0) = true := decide_eq_true t2
          rw [h3.2 (.inl t2)] at h2
          (repeat' (conv => whnf
                    first | exact trivial | with_reducible refine ⟨_, by assumption, ?_⟩ | refine ⟨rfl, ?_⟩ | refine ⟨_, rfl, ?_⟩ | with_reducible refine evR ?_ | with_reducible refine evL ?_ | with_reducible refine evA true (by assumption) ?_ | with_reducible refine evA false (by assumption) ?_ | with_reducible refine evB true (by assumption) ?_ | with_reducible refine evB false (by assumption) ?_ | refine ⟨fun _ => ?_, fun _ => ?_⟩ | refine ⟨Int.natCast_nonneg _, ?_⟩ | refine ⟨Nat.le_of_ble_eq_true rfl, ?_⟩ | refine ⟨_, by assumption, ?_⟩ | refine And.intro (Or.inl rfl) ?_ | (refine And.intro ?_ ?_; focus (first | assumption | decide | (simp only [List.length_nil, List.length_cons, List.length_map, List.length_append]; omega) | (refine List.forall_mem_cons.2 ⟨rfl, ?_⟩; (repeat' first | exact fun _ h => absurd h List.not_mem_nil | refine List.forall_mem_cons.2 ⟨rfl, ?_⟩); done))) | intro _)
           all_goals (try (conv => whnf)))
          exact hstep rfl
        · have d2 : decide (k < 0) = false := decide_eq_false t2
          (repeat' (conv => whnf
                    first | exact trivial | with_reducible refine ⟨_, by assumption, ?_⟩ | refine ⟨rfl, ?_⟩ | refine ⟨_, rfl, ?_⟩ | with_reducible refine evR ?_ | with_reducible refine evL ?_ | with_reducible refine evA true (by assumption) ?_ | with_reducible refine evA false (by assumption) ?_ | with_reducible refine evB true (by assumption) ?_ | with_reducible refine evB false (by assumption) ?_ | refine ⟨fun _ => ?_, fun _ => ?_⟩ | refine ⟨Int.natCast_nonneg _, ?_⟩ | refine ⟨Nat.le_of_ble_eq_true rfl, ?_⟩ | refine ⟨_, by assumption, ?_⟩ | refine And.intro (Or.inl rfl) ?_ | (refine And.intro ?_ ?_; focus (first | assumption | decide | (simp only [List.length_nil, List.length_cons, List.length_map, List.length_append]; omega) | (refine List.forall_mem_cons.2 ⟨rfl, ?_⟩; (repeat' first | exact fun _ h => absurd h List.not_mem_nil | refine List.forall_mem_cons.2 ⟨rfl, ?_⟩); done))) | intro _)
           all_goals (try (conv => whnf)))
          exact hstep rfl
      · have d1 : (k == (i : Int)) = true := by simp [t]
        have d2 : decide (k < 0) = false := decide_eq_false (by omega)
        have d3 : decide ((i : Int) < k) = false := decide_eq_false (by omega)
        rw [h3.1 t] at h2
        (repeat' (conv => whnf
                  first | exact trivial | with_reducible refine ⟨_, by assumption, ?_⟩ | refine ⟨rfl, ?_⟩ | refine ⟨_, rfl, ?_⟩ | with_reducible refine evR ?_ | with_reducible refine evL ?_ | with_reducible refine evA true (by assumption) ?_ | with_reducible refine evA false (by assumption) ?_ | with_reducible refine evB true (by assumption) ?_ | with_reducible refine evB false (by assumption) ?_ | refine ⟨fun _ => ?_, fun _ => ?_⟩ | refine ⟨Int.natCast_nonneg _, ?_⟩ | refine ⟨Nat.le_of_ble_eq_true rfl, ?_⟩ | refine ⟨_, by assumption, ?_⟩ | refine And.intro (Or.inl rfl) ?_ | (refine And.intro ?_ ?_; focus (first | assumption | decide | (simp only [List.length_nil, List.length_cons, List.length_map, List.length_append]; omega) | (refine List.forall_mem_cons.2 ⟨rfl, ?_⟩; (repeat' first | exact fun _ h => absurd h List.not_mem_nil | refine List.forall_mem_cons.2 ⟨rfl, ?_⟩); done))) | intro _)
         all_goals (try (conv => whnf)))
        exact hstep rfl
      · have d1 : (k == (i : Int)) = false := by simp; omega
        have d2 : decide (k < 0) = false := decide_eq_false (by omega)
        have d3 : decide ((i : Int) < k) = true := decide_eq_true t
        rw [h3.2 (.inr t)] at h2
        (repeat' (conv => whnf
                  first | exact trivial | with_reducible refine ⟨_, by assumption, ?_⟩ | refine ⟨rfl, ?_⟩ | refine ⟨_, rfl, ?_⟩ | with_reducible refine evR ?_ | with_reducible refine evL ?_ | with_reducible refine evA true (by assumption) ?_ | with_reducible refine evA false (by assumption) ?_ | with_reducible refine evB true (by assumption) ?_ | with_reducible refine evB false (by assumption) ?_ | refine ⟨fun _ => ?_, fun _ => ?_⟩ | refine ⟨Int.natCast_nonneg _, ?_⟩ | refine ⟨Nat.le_of_ble_eq_true rfl, ?_⟩ | refine ⟨_, by assumption, ?_⟩ | refine And.intro (Or.inl rfl) ?_ | (refine And.intro ?_ ?_; focus (first | assumption | decide | (simp only [List.length_nil, List.length_cons, List.length_map, List.length_append]; omega) | (refine List.forall_mem_cons.2 ⟨rfl, ?_⟩; (repeat' first | exact fun _ h => absurd h List.not_mem_nil | refine List.forall_mem_cons.2 ⟨rfl, ?_⟩); done))) | intro _)
         all_goals (try (conv => whnf)))
        exact hstep rfl
    · have hb := lt_f (n := ((L.map eLd).map eC).length) (by simpa using hlt)
      (repeat' (conv => whnf
                first | exact trivial | with_reducible refine ⟨_, by assumption, ?_⟩ | refine ⟨rfl, ?_⟩ | refine ⟨_, rfl, ?_⟩ | with_reducible refine evR ?_ | with_reducible refine evL ?_ | with_reducible refine evA true (by assumption) ?_ | with_reducible refine evA false (by assumption) ?_ | with_reducible refine evB true (by assumption) ?_ | with_reducible refine evB false (by assumption) ?_ | refine ⟨fun _ => ?_, fun _ => ?_⟩ | refine ⟨Int.natCast_nonneg _, ?_⟩ | refine ⟨Nat.le_of_ble_eq_true rfl, ?_⟩ | refine ⟨_, by assumption, ?_⟩ | refine And.intro (Or.inl rfl) ?_ | (refine And.intro ?_ ?_; focus (first | assumption | decide | (simp only [List.length_nil, List.length_cons, List.length_map, List.length_append]; omega) | (refine List.forall_mem_cons.2 ⟨rfl, ?_⟩; (repeat' first | exact fun _ h => absurd h List.not_mem_nil | refine List.forall_mem_cons.2 ⟨rfl, ?_⟩); done))) | intro _)
       all_goals (try (conv => whnf)))
      all_goals first | rfl | exact bool_end g2
end Go.Proofs.YtkjghcbnmipgfaaGreatDoor.Vc
