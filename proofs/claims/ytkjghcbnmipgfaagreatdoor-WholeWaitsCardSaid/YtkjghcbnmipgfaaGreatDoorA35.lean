/- Part of a proof over a Go program: Law9. No condition. -/
import Derived.Test.YtkjghcbnmipgfaaGreatDoorA12
set_option linter.unusedSectionVars false
set_option linter.unusedSimpArgs false
set_option linter.unusedVariables false
set_option maxHeartbeats 4000000
set_option maxRecDepth 100000
namespace Go.Proofs.YtkjghcbnmipgfaaGreatDoor.Vc
open Go.RowKit Ma
def F9 : Fn := ⟨65, 2, [.tmp 6],
 (.seq
 (.reg [ii 3 (.box 0 5) [.t 0],
 ii 5 (.box 1 3) [.t 2],
 mc 6 (.bool false)])
 (.seq
 (.reg [ii 12 (.call 18) [],
 mt 7 12])
 (.seq
 (.seq
 (.reg [mv 13 7,
 ii 14 (.un .not) [.t 13]])
 (.cond (.t 14)
 (.seq
 (.reg [mc 6 (.bool false)])
 .ret)
 .skip))
 (.seq
 (.reg [ii 15 (.load 5 true false) [.t 3],
 ii 16 (.call 19) [.t 15],
 ⟨none, none, .store 5, [.t 3, .t 16]⟩])
 (.seq
 (.reg [ii 17 (.load 5 true false) [.t 3],
 mv 18 1,
 ii 19 (.call 20) [.t 17, .t 18],
 mt 8 19])
 (.seq
 (.reg [mv 20 8,
 ii 21 (.load 3 true false) [.t 5],
 ii 22 (.call 25) [.t 20, .t 21],
 mt 9 22])
 (.seq
 (.seq
 (.reg [mc 10 (.int .i64 0)])
 (.block 0
 (.loop [0, 1, 2, 3, 6, 7, 11, 12, 13, 14, 15, 16, 17, 18, 19, 20, 21, 22, 23, 24, 25, 26, 27, 28, 29, 30, 31, 32, 33, 34, 35, 36, 37, 38, 39, 40, 41, 42, 43, 44, 45, 46, 47, 48, 49, 50, 51, 52, 53, 54, 55, 56, 57, 58, 59, 60, 61, 62, 63, 64] []
 (.seq
 (.seq
 (.reg [mv 23 10,
 mv 24 8,
 ii 25 .len [.t 24],
 b2 26 .lss 23 25])
 (.cond (.t 26)
 .skip
 (.exit 0)))
 (.seq
 (.block 1
 (.seq
 (.regd [mv 29 8,
 mv 30 10,
 ii 31 (.iad 1) [.t 29, .t 30],
 ii 32 (.loadp 1 false) [.t 31],
 ii 33 (.pl (.call 39)) [.t 32],
 ii 34 (.at 1 (.load 3 true false)) [.t 5],
 ii 35 (.bsl 3 1) [.t 34],
 ii 36 (.pl (.app 3 24)) [.t 33, .t 35],
 ii 37 (.pl (.call 34)) [.t 36],
 mt 11 37])
 (.seq
 (.reg [mv 38 9,
 mv 39 10,
 b2 40 .eql 38 39,
 mv 41 40,
 gt 42 41 (.mov false) [.t 11],
 gt 43 41 (.un .not) [.t 42],
 ii 44 .pick [.t 41, .t 43, .c (.p (.bool false))],
 mv 45 44,
 gf 46 45 (.mov false) [.t 9],
 gf 47 45 (.bin .lss) [.t 46, .c (.p (.int .i64 0))],
 gf 48 45 (.mov false) [.t 47],
 gf 49 48 (.mov false) [.t 10],
 gf 50 48 (.mov false) [.t 9],
 gf 51 48 (.bin .lss) [.t 49, .t 50],
 gf 52 45 .pick [.t 48, .c (.p (.bool true)), .t 51],
 gf 53 45 (.mov false) [.t 52],
 gt 54 53 (.mov false) [.t 11],
 gf 55 45 .pick [.t 53, .t 54, .c (.p (.bool false))],
 ii 56 .pick [.t 45, .c (.p (.bool true)), .t 55]])
 (.cond (.t 56)
 (.seq
 (.reg [mc 6 (.bool false)])
 .ret)
 .skip))))
 (.reg [mv 27 10,
 b1 28 .add 27 (.int .i64 1),
 mt 10 28]))))))
 (.seq
 (.reg [mv 57 9,
 b1 58 .geq 57 (.int .i64 (-1)),
 mv 59 58,
 gt 60 59 (.mov false) [.t 9],
 gt 61 59 (.mov false) [.t 8],
 gt 62 59 .len [.t 61],
 gt 63 59 (.bin .lss) [.t 60, .t 62],
 ii 64 .pick [.t 59, .t 63, .c (.p (.bool false))],
 mt 6 64])
 .ret))))))))⟩
theorem k9 : chkF Tryz.prog 9 F9 = true := by kernel_rfl
theorem def0_ok : Cf.def0.ok = true := by decide
theorem cfV_ok (c : Cf) : (cfV c).ok = true := by
  unfold cfV
  split
  · assumption
  · exact def0_ok
theorem ok_head {c : Cf} (h : c.ok = true) : headR c ∧ c.res.length ≤ 6 := by
  unfold Cf.ok at h
  simp only [Bool.and_eq_true, decide_eq_true_eq] at h
  exact ⟨h.1, h.2.1⟩
theorem keep_len (l : List Ld) : (keep l).length ≤ 10 := by
  unfold keep
  split
  · simp; omega
  · simp
theorem keep_fits (l : List Ld) : fitsB (keep l) = true := by
  unfold keep
  split
  · assumption
  · rw [fitsB_iff]; exact ⟨by decide, .inl rfl⟩
theorem coreAt_len (ls : LL) (k : Nat) : (coreAt ls k).length ≤ 10 := by
  unfold coreAt
  split
  · exact keep_len _
  · simp
theorem coreAt_fits (ls : LL) (k : Nat) : fitsB (coreAt ls k) = true := by
  unfold coreAt
  split
  · exact keep_fits _
  · rw [fitsB_iff]; exact ⟨by decide, .inl rfl⟩
theorem coresV_len {n : Nat} {ls : LL} {y : List Ld} (h : y ∈ coresV n ls) : y.length ≤ 10 := by
  obtain ⟨k, _, rfl⟩ := List.mem_map.1 h
  exact coreAt_len _ _
theorem coresV_fits {n : Nat} {ls : LL} {y : List Ld} (h : y ∈ coresV n ls) : fitsB y = true := by
  obtain ⟨k, _, rfl⟩ := List.mem_map.1 h
  exact coreAt_fits _ _
theorem coresV_length (n : Nat) (ls : LL) : (coresV n ls).length = n := by simp [coresV]
theorem eLd_map (L : List (List Ld)) : (L.map eLd).map (·.2) = L := by
  rw [List.map_map]
  exact List.map_id' L
theorem LLok_of {L : List (List Ld)} (h : ∀ y, y ∈ L → y.length ≤ 10) (hn : L.length ≤ 1000) : LLok (L.map eLd) := by
  refine ⟨fun p hp h1 => ?_, fun p hp => ?_, by simpa using hn⟩
  · obtain ⟨y, _, rfl⟩ := List.mem_map.1 hp
    exact List.isEmpty_iff.1 h1
  · obtain ⟨y, hy, rfl⟩ := List.mem_map.1 hp
    have := h y hy
    simp only [eLd]; omega
theorem core_spec (L : List (List Ld)) (x : Ld) (i : Nat) (hi : i < L.length) : (coreV L x = i → fitsB (L[i] ++ [x]) = true) ∧ (coreV L x < 0 ∨ i < coreV L x → fitsB (L[i] ++ [x]) = false) := by
  refine ⟨fun h => ?_, fun h => ?_⟩
  · obtain ⟨j, hj, e, h1, _⟩ := coreV_some (x := x) (ls := L) (by omega)
    have : j = i := by omega
    subst this
    exact h1
  · by_cases h0 : coreV L x < 0
    · exact coreV_none.1 h0 _ (List.getElem_mem _)
    · obtain ⟨j, hj, e, _, h2⟩ := coreV_some h0
      exact h2 i (by omega)
theorem law9 (hbeg : PureCall Tryz.prog 18 [] (.p (.bool true))) (c : Cf) (nl : Bool) (ls : LL) (x : Ld) : PureCall Tryz.prog 9 [eCf c, sLL nl ls, eL x] (.p (.bool true)) := by
  have hm := maxLen_eq
  have hcf := config19 c
  obtain ⟨⟨⟨q1, q2⟩, _⟩, _⟩ := ok_head (cfV_ok c)
  obtain ⟨n, hn⟩ : ∃ n : Nat, (cfV c).cores = n := ⟨(cfV c).cores.toNat, by omega⟩
  have hco := cores20 (cfV c) n hn (by omega) nl ls
  have hlen := fun y hy => coresV_len (n := n) (ls := ls) (y := y) hy
  have hL := coresV_length n ls
  have hcv := core25 false ((coresV n ls).map eLd) (LLok_of hlen (by omega)) x
  rw [eLd_map] at hcv
  have hge := coreV_ge x (coresV n ls)
  have hsp := core_spec (coresV n ls) x
  generalize coreV (coresV n ls) x = k at *
  generalize coresV n ls = L at *
  generalize cfV c = d at *
  have hld : ∀ y : List Ld, y.length ≤ 10 → PureCall Tryz.prog 39 [sL y.isEmpty y] (.ow 3 y.isEmpty (y.map eL)) := fun y hy => by
    have := loads39 y.isEmpty y
    rw [List.take_of_length_le hy] at this
    exact this
  have hft : ∀ (y : List Ld) (b : Bool), PureCall Tryz.prog 34 [.sl 3 (b && false) (y.map eL ++ [.agg [.int .i64 x.c, .int .i64 x.d, .int .i64 x.t]])] (.p (.bool (fitsB (y ++ [x])))) := fun y b => by
    have := fits34 false (y ++ [x])
    rw [sL, List.map_append] at this
    rw [Bool.and_false]
    exact this
  have g1 : decide (k ≥ -1) = true := decide_eq_true (by omega)
  have g2 : decide (k < (((L.map eLd).map eC).length : Int)) = true := decide_eq_true (by simp; omega)
  simp only [eCf, eL] at hcf hco hcv
  refine Fn.run k9 rfl ?_
  generalize Tryz.prog = P at *
  (repeat' ((conv => whnf); first | exact trivial | with_reducible refine zX ?_ | refine ⟨rfl, ?_⟩ | refine ⟨_, rfl, ?_⟩ | with_reducible refine zP ?_ | with_reducible refine zL ?_ | refine ⟨fun _ => ?_, fun _ => ?_⟩ | refine zn ?_ | refine zb rfl ?_ | refine zX ?_ | refine zo rfl ?_ | refine zs ?_ | intro _)); all_goals (try (conv => whnf))
  refine loop_inv (fun m s => ∃ i : Nat, m + i = L.length ∧ s = ⟨mkT 65 [(5, .addr 1 3 0 0), (8, .p (sLL false (L.map eLd))), (9, .p (.int .i64 k)), (10, .p (.int .i64 i))], [some (bCf d true), some ⟨true, 3, [[.p (.int .i64 x.c), .p (.int .i64 x.d), .p (.int .i64 x.t)]], false⟩]⟩) L.length ?_ ?_
  · conv => whnf
    exact ⟨0, rfl, rfl⟩
  · rintro m st b N ⟨i, hi, e⟩ hN
    cases e
    by_cases hlt : i < L.length
    · have hrow : ((L.map eLd).map eC)[i]? = some (sL L[i].isEmpty L[i]) := by simp [hlt, eC, eLd]
      have hb := lt_t (n := ((L.map eLd).map eC).length) (by simpa using hlt)
      have h1 := hld L[i] (hlen _ (List.getElem_mem _))
      have h2 := hft L[i] L[i].isEmpty
      have h3 := hsp i hlt
      have hyl := hlen _ (List.getElem_mem hlt)
      generalize L[i] = y at *
      generalize fitsB (y ++ [x]) = f at *
      have a1 : (y.map eL).length + 1 ≤ maxLen := by simp; omega
      have a2 : ((y.map eL).length + 1) * 24 ≤ 140737488355328 := by simp; omega
      have hstep : ∀ {s : St}, s = ⟨mkT 65 [(5, .addr 1 3 0 0), (8, .p (sLL false (L.map eLd))), (9, .p (.int .i64 k)), (10, .p (.int .i64 (IntKind.wrap .i64 ((i : Int) + 1))))], [some (bCf d true), some ⟨true, 3, [[.p (.int .i64 x.c), .p (.int .i64 x.d), .p (.int .i64 x.t)]], false⟩]⟩ → N s := fun e => by
        rw [next1 (n := L.length) hlt (by omega)] at e
        exact hN (m - 1) _ (by omega) ⟨i + 1, by omega, e⟩
      clear hN hld hft hsp hlen hcv hcf hco hbeg
      rcases Int.lt_trichotomy k i with t | t | t
      · have d1 : (k == (i : Int)) = false := by simp; omega
        have d3 : decide ((i : Int) < k) = false := decide_eq_false (by omega)
        by_cases t2 : k < 0
        · have d2 : decide (k < 0) = true := decide_eq_true t2
          rw [h3.2 (.inl t2)] at h2
          (repeat' ((conv => whnf); first | exact trivial | with_reducible refine zX ?_ | refine ⟨rfl, ?_⟩ | refine ⟨_, rfl, ?_⟩ | with_reducible refine zP ?_ | with_reducible refine zL ?_ | refine ⟨fun _ => ?_, fun _ => ?_⟩ | refine zn ?_ | refine zb rfl ?_ | refine zX ?_ | refine zo rfl ?_ | refine zs ?_ | intro _)); all_goals (try (conv => whnf))
          exact hstep rfl
        · have d2 : decide (k < 0) = false := decide_eq_false t2
          (repeat' ((conv => whnf); first | exact trivial | with_reducible refine zX ?_ | refine ⟨rfl, ?_⟩ | refine ⟨_, rfl, ?_⟩ | with_reducible refine zP ?_ | with_reducible refine zL ?_ | refine ⟨fun _ => ?_, fun _ => ?_⟩ | refine zn ?_ | refine zb rfl ?_ | refine zX ?_ | refine zo rfl ?_ | refine zs ?_ | intro _)); all_goals (try (conv => whnf))
          exact hstep rfl
      · have d1 : (k == (i : Int)) = true := by simp [t]
        have d2 : decide (k < 0) = false := decide_eq_false (by omega)
        have d3 : decide ((i : Int) < k) = false := decide_eq_false (by omega)
        rw [h3.1 t] at h2
        (repeat' ((conv => whnf); first | exact trivial | with_reducible refine zX ?_ | refine ⟨rfl, ?_⟩ | refine ⟨_, rfl, ?_⟩ | with_reducible refine zP ?_ | with_reducible refine zL ?_ | refine ⟨fun _ => ?_, fun _ => ?_⟩ | refine zn ?_ | refine zb rfl ?_ | refine zX ?_ | refine zo rfl ?_ | refine zs ?_ | intro _)); all_goals (try (conv => whnf))
        exact hstep rfl
      · have d1 : (k == (i : Int)) = false := by simp; omega
        have d2 : decide (k < 0) = false := decide_eq_false (by omega)
        have d3 : decide ((i : Int) < k) = true := decide_eq_true t
        rw [h3.2 (.inr t)] at h2
        (repeat' ((conv => whnf); first | exact trivial | with_reducible refine zX ?_ | refine ⟨rfl, ?_⟩ | refine ⟨_, rfl, ?_⟩ | with_reducible refine zP ?_ | with_reducible refine zL ?_ | refine ⟨fun _ => ?_, fun _ => ?_⟩ | refine zn ?_ | refine zb rfl ?_ | refine zX ?_ | refine zo rfl ?_ | refine zs ?_ | intro _)); all_goals (try (conv => whnf))
        exact hstep rfl
    · have hb := lt_f (n := ((L.map eLd).map eC).length) (by simpa using hlt)
      (repeat' ((conv => whnf); first | exact trivial | with_reducible refine zX ?_ | refine ⟨rfl, ?_⟩ | refine ⟨_, rfl, ?_⟩ | with_reducible refine zP ?_ | with_reducible refine zL ?_ | refine ⟨fun _ => ?_, fun _ => ?_⟩ | refine zn ?_ | refine zb rfl ?_ | refine zX ?_ | refine zo rfl ?_ | refine zs ?_ | intro _)); all_goals (try (conv => whnf))
      all_goals first | rfl | exact bool_end g2
end Go.Proofs.YtkjghcbnmipgfaaGreatDoor.Vc
