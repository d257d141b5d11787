/- Contract of the law of number 6: it answers true. No condition. -/
import Derived.Test.YtkjghcbnmipgfaaGreatDoorA36
set_option linter.unusedSectionVars false
set_option linter.unusedSimpArgs false
set_option linter.unusedVariables false
set_option maxHeartbeats 4000000
set_option maxRecDepth 100000
namespace Go.Proofs.YtkjghcbnmipgfaaGreatDoor.Vc
open Go.RowKit Ma
def F6 : Fn := ⟨124, 4, [.tmp 8],
 (.seq
 (.reg [ii 4 (.box 0 5) [.t 0],
 ii 6 (.box 1 4) [.t 2],
 mc 8 (.bool false)])
 (.seq
 (.reg [ii 17 (.call 18) [],
 mt 9 17])
 (.seq
 (.seq
 (.reg [mv 18 9,
 ii 19 (.un .not) [.t 18]])
 (.cond (.t 19)
 (.seq
 (.reg [mc 8 (.bool false)])
 .ret)
 .skip))
 (.seq
 (.reg [ii 20 (.load 5 true false) [.t 4],
 ii 21 (.call 19) [.t 20],
 ⟨none, none, .store 5, [.t 4, .t 21]⟩])
 (.seq
 (.reg [ii 22 (.load 5 true false) [.t 4],
 mv 23 1,
 ii 24 (.call 20) [.t 22, .t 23],
 mt 10 24])
 (.seq
 (.reg [ii 26 (.load 5 true false) [.t 4],
 ii 27 (.load 4 true false) [.t 6],
 ii 28 (.call 21) [.t 26, .t 27],
 mv 25 28,
 ii 29 (.ext 0) [.t 25],
 ii 30 (.ext 1) [.t 25],
 ⟨none, none, .store 4, [.t 6, .t 29]⟩,
 mt 11 30])
 (.seq
 (.seq
 (.reg [mv 31 11,
 ii 32 (.un .not) [.t 31]])
 (.cond (.t 32)
 (.seq
 (.reg [mc 8 (.bool true)])
 .ret)
 .skip))
 (.seq
 (.reg [ii 34 (.load 5 true false) [.t 4],
 mv 35 10,
 ii 36 (.load 4 true false) [.t 6],
 ii 37 (.call 28) [.t 34, .t 35, .t 36],
 mv 33 37,
 ii 38 (.ext 0) [.t 33],
 ii 39 (.ext 1) [.t 33],
 ⟨some 12, none, .alloc 2 2 [.p (.int .i64 0), .ow 4 true []], []⟩,
 ⟨none, none, .store 2, [.t 12, .t 38]⟩,
 mt 13 39])
 (.seq
 (.seq
 (.reg [mv 40 3])
 (.cond (.t 40)
 (.reg [ii 42 (.load 5 true false) [.t 4],
 mv 43 10,
 ii 44 (.load 4 true false) [.t 6],
 ii 45 (.call 32) [.t 42, .t 43, .t 44],
 mv 41 45,
 ii 46 (.ext 0) [.t 41],
 ii 47 (.ext 1) [.t 41],
 ⟨none, none, .store 2, [.t 12, .t 46]⟩,
 mt 13 47])
 .skip))
 (.seq
 (.reg [mc 14 (.int .i64 0)])
 (.seq
 (.seq
 (.reg [mc 15 (.int .i64 0)])
 (.block 0
 (.loop [0, 1, 2, 3, 8, 9, 11, 16, 17, 18, 19, 20, 21, 22, 23, 24, 25, 26, 27, 28, 29, 30, 31, 32, 33, 34, 35, 36, 37, 38, 39, 40, 41, 42, 43, 44, 45, 46, 47, 48, 49, 50, 51, 52, 53, 54, 55, 56, 57, 58, 59, 60, 61, 62, 63, 64, 65, 66, 67, 68, 69, 70, 71, 72, 73, 74, 75, 76, 77, 78, 79, 80, 81, 82, 83, 84, 85, 86, 87, 88, 89, 90, 91, 92, 93, 94, 95, 96, 97, 98, 99, 100, 101, 102, 103, 104, 105, 106, 107, 108, 109, 110, 111, 112, 113, 114, 115, 116, 117, 118, 119, 120, 121, 122, 123] [3]
 (.seq
 (.seq
 (.reg [mv 48 15,
 fa 49 1 12,
 ld 50 49,
 ii 51 .len [.t 50],
 b2 52 .lss 48 51])
 (.cond (.t 52)
 .skip
 (.exit 0)))
 (.seq
 (.block 1
 (.seq
 (.reg [fa 55 1 12,
 ld 56 55,
 mv 57 15,
 ii 58 (.iad 4) [.t 56, .t 57],
 ii 59 (.load 4 true false) [.t 58],
 ⟨some 16, none, .alloc 3 4 [.p (.int .i64 0), .p (.int .i64 0), .p (.int .i64 0), .p (.int .i64 0)], []⟩,
 ⟨none, none, .store 4, [.t 16, .t 59]⟩])
 (.seq
 (.seq
 (.regd [fa 60 0 16,
 ii 61 (.at 3 (.load 1 false false)) [.t 60],
 b1 62 .lss 61 (.int .i64 0),
 mv 63 62,
 gf 64 63 (.fad 0) [.t 16],
 gf 65 63 (.at 3 (.load 1 false false)) [.t 64],
 gf 66 63 (.fad 0) [.t 4],
 gf 67 63 (.at 0 (.load 1 false false)) [.t 66],
 gf 68 63 (.bin .geq) [.t 65, .t 67],
 ii 69 .pick [.t 63, .c (.p (.bool true)), .t 68],
 mv 70 69,
 gf 71 70 (.mov false) [.t 10],
 gf 72 70 (.fad 0) [.t 16],
 gf 73 70 (.at 3 (.load 1 false false)) [.t 72],
 gf 74 70 (.iad 1) [.t 71, .t 73],
 gf 75 70 (.loadp 1 false) [.t 74],
 gf 76 70 (.pl (.app 3 24)) [.c (.ow 3 true []), .t 75],
 gf 77 70 (.fad 3) [.t 16],
 gf 78 70 (.at 3 (.load 1 false false)) [.t 77],
 gf 79 70 (.fad 2) [.t 16],
 gf 80 70 (.at 3 (.load 1 false false)) [.t 79],
 gf 81 70 (.fad 2) [.t 6],
 gf 82 70 (.at 1 (.load 1 false false)) [.t 81],
 ⟨some 83, (some (70, false)), .build [.int .i64 0, .int .i64 0, .int .i64 0] [(0, 1), (1, 1), (2, 1)], [.t 78, .t 80, .t 82]⟩,
 gf 84 70 (.bsl 3 1) [.t 83],
 gf 85 70 (.pl (.app 3 24)) [.t 76, .t 84],
 gf 86 70 (.pl (.call 34)) [.t 85],
 gf 87 70 (.un .not) [.t 86],
 ii 88 .pick [.t 70, .c (.p (.bool true)), .t 87]])
 (.cond (.t 88)
 (.seq
 (.reg [mc 8 (.bool false)])
 .ret)
 .skip))
 (.reg [mv 89 14,
 fa 90 3 16,
 ld 91 90,
 b2 92 .add 89 91,
 mt 14 92]))))
 (.reg [mv 53 15,
 b1 54 .add 53 (.int .i64 1),
 mt 15 54]))))))
 (.seq
 (.reg [mv 93 13,
 ii 94 (.un .not) [.t 93],
 mv 95 94,
 gt 96 95 (.fad 1) [.t 12],
 gt 97 95 (.load 1 false false) [.t 96],
 gt 98 95 .len [.t 97],
 gt 99 95 (.bin .eql) [.t 98, .c (.p (.int .i64 0))],
 ii 100 .pick [.t 95, .t 99, .c (.p (.bool false))],
 mv 101 100,
 gf 102 101 (.mov false) [.t 13],
 gf 103 101 (.mov false) [.t 102],
 gt 104 103 (.mov false) [.t 14],
 gt 105 103 (.fad 0) [.t 6],
 gt 106 103 (.load 1 false false) [.t 105],
 gt 107 103 (.fad 1) [.t 12],
 gt 108 103 (.load 1 false false) [.t 107],
 gt 109 103 .len [.t 108],
 gt 110 103 (.bin .sub) [.t 109, .c (.p (.int .i64 1))],
 gt 111 103 (.fad 3) [.t 4],
 gt 112 103 (.load 1 false false) [.t 111],
 gt 113 103 (.bin .mul) [.t 110, .t 112],
 gt 114 103 (.bin .add) [.t 106, .t 113],
 gt 115 103 (.bin .eql) [.t 104, .t 114],
 gf 116 101 .pick [.t 103, .t 115, .c (.p (.bool false))],
 gf 117 101 (.mov false) [.t 116],
 gt 118 117 (.load 2 true false) [.t 12],
 gt 119 117 (.call 35) [.t 118],
 gt 120 117 (.mov false) [.t 14],
 gt 121 117 (.bin .eql) [.t 119, .t 120],
 gf 122 101 .pick [.t 117, .t 121, .c (.p (.bool false))],
 ii 123 .pick [.t 101, .c (.p (.bool true)), .t 122],
 mt 8 123])
 .ret))))))))))))⟩
theorem k6 : chkF Tryz.prog 6 F6 = true := by kernel_rfl
/-- What the law asks of a split: pieces that may be, that fit, that sum up. -/
structure FitOk (d : Cf) (u : Tk) (L : LL) (W : List Pc) : Prop where
  pcs : ∀ p, p ∈ W → p.ok d.cores = true
  asks : ∀ q, q ∈ W → 0 ≤ q.core ∧ ∃ p, L[q.core.toNat]? = some p ∧ fitW p.2 q.c q.len u.T = true
  sum : W ≠ [] → sumC W = u.C + ((W.length : Int) - 1) * d.move
  len : W.length ≤ 6
theorem asks_map {T : Int} {L : LL} {W : List Pc} (h : Asks T (L.map (·.2)) W) : ∀ q, q ∈ W → 0 ≤ q.core ∧ ∃ p, L[q.core.toNat]? = some p ∧ fitW p.2 q.c q.len T = true := fun q hq => by
  obtain ⟨h1, l, h2, h3⟩ := h q hq
  rw [List.getElem?_map] at h2
  cases hp : L[q.core.toNat]? with
  | none => rw [hp] at h2; simp at h2
  | some p =>
    rw [hp] at h2
    simp only [Option.map_some, Option.some.injEq] at h2
    subst h2
    exact ⟨h1, p, rfl, h3⟩
theorem fitOk_win {d : Cf} {u : Tk} {L : LL} {n : Int} (hd : d.ok = true) (hok : u.ok n = true) (hlen : (L.length : Int) = d.cores) (hfew : L.length ≤ 6) : FitOk d u L (winP d u L) := by
  by_cases hW : winP d u L = []
  · rw [hW]; exact ⟨by simp, by simp, fun h => absurd rfl h, by simp⟩
  · obtain ⟨_, w, h⟩ := winP_spec hd hok hW
    have hp := planB_iff.1 (winP_plan (t := u) (L := L) hd hok hlen hW)
    exact ⟨hp.pcs, asks_map h.asks, fun _ => hp.sum, winP_len hd hok hfew⟩
theorem fitOk_zer {d : Cf} {u : Tk} {L : LL} {n : Int} (hd : d.ok = true) (hok : u.ok n = true) (hlen : (L.length : Int) = d.cores) : FitOk d u L (zerP d u L) := by
  by_cases hW : zerP d u L = []
  · rw [hW]; exact ⟨by simp, by simp, fun h => absurd rfl h, by simp⟩
  · obtain ⟨_, h⟩ := zerP_spec hW
    have hp := planB_iff.1 (zerP_plan (t := u) (L := L) hd hok hlen hW)
    have := zerP_len (d := d) (t := u) (L := L)
    exact ⟨hp.pcs, asks_map h.asks, fun _ => hp.sum, by omega⟩
theorem planR_form (k : Int) (W : List Pc) : ∃ (k0 : Int) (n0 b0 : Bool), planR k W = .tup [.p (.agg [.int .i64 k0, .sl 4 n0 (W.map eP)]), .p (.bool b0)] ∧ (W = [] → b0 = false) ∧ (W ≠ [] → b0 = true) := by
  unfold planR
  by_cases h : W = []
  · subst h; exact ⟨0, true, false, rfl, fun _ => rfl, fun h => absurd rfl h⟩
  · rw [if_neg h]; exact ⟨k, false, true, rfl, fun e => absurd e h, fun _ => rfl⟩
theorem law6 (hbeg : PureCall Tryz.prog 18 [] (.p (.bool true))) (c : Cf) (nl : Bool) (ls : LL) (t : Tk) (way : Bool) : PureCall Tryz.prog 6 [eCf c, sLL nl ls, eT t, .bool way] (.p (.bool true)) := by
  have hm := maxLen_eq
  obtain ⟨d, L, hd, h19, h20, hL, hlen, hfew, heach⟩ := kept c nl ls
  have hrl := (cf_head hd).2
  have h21 := one21 d t (by omega)
  have hcut := cut_len t
  generalize t.cut = u at *
  simp only [eCf, eT] at h19 h20 h21
  cases hok : u.ok d.res.length with
  | false =>
    rw [hok] at h21
    refine Fn.run k6 rfl ?_
    generalize Tryz.prog = P at *
    (repeat' ((conv => whnf); first | exact trivial | with_reducible refine zX ?_ | refine ⟨rfl, ?_⟩ | refine ⟨_, rfl, ?_⟩ | with_reducible refine zP ?_ | with_reducible refine zL ?_ | refine ⟨fun _ => ?_, fun _ => ?_⟩ | refine zn ?_ | refine zb rfl ?_ | refine zX ?_ | refine zo rfl ?_ | refine zs ?_ | intro _)); all_goals (try (conv => whnf))
    all_goals first | rfl | exact bool_end hv
  | true =>
    rw [hok] at h21
    have hlim := lim_of hd hok
    have hwf := fitOk_win (u := u) (L := L) hd hok hlen hfew
    have hzf := fitOk_zer (u := u) (L := L) hd hok hlen
    have h28 := split28 d hd u hok false L hL hlen
    have h32 := zero32 d hd u hok false L hL hlen
    have h35 := fun (k : Int) (n : Bool) (W : List Pc) (h : FitOk d u L W) => (by
      have h1 := budget35 k n W
      have hl := h.len
      rw [sumW_ok h.pcs (by omega)] at h1
      exact h1 : PureCall Tryz.prog 35 [ePl k n W] (.p (.int .i64 (sumC W))))
    have hv : (0 == 0) = true := rfl
    simp only [eCf, eT, ePl] at h28 h32 h35
    generalize winP d u L = W1 at *
    generalize zerP d u L = W2 at *
    obtain ⟨k1, n1, b1, e28, f1, g1⟩ := planR_form 2 W1
    obtain ⟨k2, n2, b2, e32, f2, g2⟩ := planR_form 3 W2
    rw [e28] at h28
    rw [e32] at h32
    have hfits34 := fun l => fits34 false l
    cases way with
    | false =>
      have h35 := h35 k1 n1 W1 hwf
      obtain ⟨hpcs, has, hsumW, hwl⟩ := hwf
      clear h32 hzf e28 e32
      refine Fn.run k6 rfl ?_
      generalize Tryz.prog = P at *
      (repeat' ((conv => whnf); first | exact trivial | with_reducible refine zX ?_ | refine ⟨rfl, ?_⟩ | refine ⟨_, rfl, ?_⟩ | with_reducible refine zP ?_ | with_reducible refine zL ?_ | refine ⟨fun _ => ?_, fun _ => ?_⟩ | refine zn ?_ | refine zb rfl ?_ | refine zX ?_ | refine zo rfl ?_ | refine zs ?_ | intro _)); all_goals (try (conv => whnf))
      refine loop_inv (fun m s => ∃ i : Nat, m + i = W1.length ∧ s = ⟨mkT 124 [(4, .addr 0 5 0 0), (6, .addr 1 4 0 0), (10, .p (sLL false L)), (12, .addr 2 2 0 0), (13, .p (.bool b1)), (14, .p (.int .i64 (sumC (W1.take i)))), (15, .p (.int .i64 i))], [some (bCf d true), some (bTk u), some (bPl k1 n1 W1), none]⟩) W1.length ?_ ?_
      · conv => whnf
        exact ⟨0, rfl, rfl⟩
      · rintro m st bb N ⟨i, hi, e⟩ hN
        cases e
        by_cases hil : i < W1.length
        · have hb := lt_t (n := (W1.map eP).length) (i := i) (by simpa using hil)
          have hr1 : (W1.map eP)[i]? = some (.agg [.int .i64 W1[i].core, .int .i64 W1[i].off, .int .i64 W1[i].len, .int .i64 W1[i].c]) := by simp [hil, eP]
          obtain ⟨a1, p, a2, a3⟩ := has W1[i] (List.getElem_mem hil)
          have a4 : W1[i].core < d.cores := by have := (List.getElem?_eq_some_iff.1 a2).1; omega
          have hok1 := Pc.ok_iff.1 (hpcs _ (List.getElem_mem hil))
          have hst := sum_take hil
          have hsb := sum_bound (cores := d.cores) (L := W1.take i) fun q hq => hpcs q (List.mem_of_mem_take hq)
          have htl : (W1.take i).length ≤ 6 := by rw [List.length_take]; omega
          have hr2 : (L.map eC)[W1[i].core.toNat]? = some (sL p.1 p.2) := by rw [List.getElem?_map, a2]; rfl
          have hpl := (heach p (List.mem_of_getElem? a2)).2.1
          generalize W1[i] = x at *
          have hf := hfits34 (p.2 ++ [⟨x.c, x.len, u.T⟩])
          have a3' : fitsB (p.2 ++ [⟨x.c, x.len, u.T⟩]) = true := a3
          rw [a3', sL, List.map_append] at hf
          have hf' : PureCall P 34 [.sl 3 ((true && (p.2.map eL).isEmpty) && false) (p.2.map eL ++ [.agg [.int .i64 x.c, .int .i64 x.len, .int .i64 u.T]])] (.p (.bool true)) := by rw [Bool.and_false]; exact hf
          have z1 : decide (x.core < 0) = false := decide_eq_false (by omega)
          have z2 : decide (x.core ≥ d.cores) = false := decide_eq_false (by omega)
          have hw : IntKind.wrap .i64 (sumC (W1.take i) + x.c) = sumC (W1.take (i + 1)) := by rw [hst]; exact wrapE (by omega) (by omega)
          clear heach hf
          (repeat' ((conv => whnf); first | exact trivial | with_reducible refine zX ?_ | refine ⟨rfl, ?_⟩ | refine ⟨_, rfl, ?_⟩ | with_reducible refine zP ?_ | with_reducible refine zL ?_ | refine ⟨fun _ => ?_, fun _ => ?_⟩ | refine zn ?_ | refine zb rfl ?_ | refine zX ?_ | refine zo rfl ?_ | refine zs ?_ | intro _)); all_goals (try (conv => whnf))
          rw [hw, next1 (n := W1.length) hil (by omega)]
          exact hN (m - 1) _ (by omega) ⟨i + 1, by omega, rfl⟩
        · have hb := lt_f (n := (W1.map eP).length) (i := i) (by simpa using hil)
          have htk : W1.take i = W1 := List.take_of_length_le (by omega)
          rw [htk]
          clear hN heach
          by_cases hW : W1 = []
          · have e1 := f1 hW
            subst hW
            subst e1
            have z1 : (((([] : List Pc).map eP).length : Int) == 0) = true := rfl
            (repeat' ((conv => whnf); first | exact trivial | with_reducible refine zX ?_ | refine ⟨rfl, ?_⟩ | refine ⟨_, rfl, ?_⟩ | with_reducible refine zP ?_ | with_reducible refine zL ?_ | refine ⟨fun _ => ?_, fun _ => ?_⟩ | refine zn ?_ | refine zb rfl ?_ | refine zX ?_ | refine zo rfl ?_ | refine zs ?_ | intro _)); all_goals (try (conv => whnf))
            all_goals rfl
          · have e1 := g1 hW
            have e2 := hsumW hW
            subst e1
            have hlp : 0 < W1.length := List.length_pos_iff.2 hW
            have hsb := sum_bound hpcs
            have hw1 : IntKind.wrap .i64 (((W1.map eP).length : Int) - 1) = (W1.length : Int) - 1 := by rw [List.length_map, wrapE (by omega) (by omega)]
            have hmv : 0 ≤ ((W1.length : Int) - 1) * d.move ∧ ((W1.length : Int) - 1) * d.move ≤ 5 * 5 := ⟨Int.mul_nonneg (by omega) hlim.m1, Int.mul_le_mul (by omega) hlim.m2 hlim.m1 (by omega)⟩
            have hw2 : IntKind.wrap .i64 (u.C + IntKind.wrap .i64 (IntKind.wrap .i64 (((W1.map eP).length : Int) - 1) * d.move)) = sumC W1 := by
              have := hlim.C1; have := hlim.CD; have := hlim.DT; have := hlim.T2
              rw [hw1, wrapE (n := ((W1.length : Int) - 1) * d.move) (by omega) (by omega), wrapE (by omega) (by omega), e2]
            have z2 : (sumC W1 == IntKind.wrap .i64 (u.C + IntKind.wrap .i64 (IntKind.wrap .i64 (((W1.map eP).length : Int) - 1) * d.move))) = true := by rw [hw2]; simp
            (repeat' ((conv => whnf); first | exact trivial | with_reducible refine zX ?_ | refine ⟨rfl, ?_⟩ | refine ⟨_, rfl, ?_⟩ | with_reducible refine zP ?_ | with_reducible refine zL ?_ | refine ⟨fun _ => ?_, fun _ => ?_⟩ | refine zn ?_ | refine zb rfl ?_ | refine zX ?_ | refine zo rfl ?_ | refine zs ?_ | intro _)); all_goals (try (conv => whnf))
            all_goals exact bool_end (by simp)
    | true =>
      have h35 := h35 k2 n2 W2 hzf
      obtain ⟨hpcs, has, hsumW, hwl⟩ := hzf
      clear hwf e28 e32
      refine Fn.run k6 rfl ?_
      generalize Tryz.prog = P at *
      (repeat' ((conv => whnf); first | exact trivial | with_reducible refine zX ?_ | refine ⟨rfl, ?_⟩ | refine ⟨_, rfl, ?_⟩ | with_reducible refine zP ?_ | with_reducible refine zL ?_ | refine ⟨fun _ => ?_, fun _ => ?_⟩ | refine zn ?_ | refine zb rfl ?_ | refine zX ?_ | refine zo rfl ?_ | refine zs ?_ | intro _)); all_goals (try (conv => whnf))
      refine loop_inv (fun m s => ∃ i : Nat, m + i = W2.length ∧ s = ⟨mkT 124 [(4, .addr 0 5 0 0), (6, .addr 1 4 0 0), (10, .p (sLL false L)), (12, .addr 2 2 0 0), (13, .p (.bool b2)), (14, .p (.int .i64 (sumC (W2.take i)))), (15, .p (.int .i64 i))], [some (bCf d true), some (bTk u), some (bPl k2 n2 W2), none]⟩) W2.length ?_ ?_
      · conv => whnf
        exact ⟨0, rfl, rfl⟩
      · rintro m st bb N ⟨i, hi, e⟩ hN
        cases e
        by_cases hil : i < W2.length
        · have hb := lt_t (n := (W2.map eP).length) (i := i) (by simpa using hil)
          have hr1 : (W2.map eP)[i]? = some (.agg [.int .i64 W2[i].core, .int .i64 W2[i].off, .int .i64 W2[i].len, .int .i64 W2[i].c]) := by simp [hil, eP]
          obtain ⟨a1, p, a2, a3⟩ := has W2[i] (List.getElem_mem hil)
          have a4 : W2[i].core < d.cores := by have := (List.getElem?_eq_some_iff.1 a2).1; omega
          have hok1 := Pc.ok_iff.1 (hpcs _ (List.getElem_mem hil))
          have hst := sum_take hil
          have hsb := sum_bound (cores := d.cores) (L := W2.take i) fun q hq => hpcs q (List.mem_of_mem_take hq)
          have htl : (W2.take i).length ≤ 6 := by rw [List.length_take]; omega
          have hr2 : (L.map eC)[W2[i].core.toNat]? = some (sL p.1 p.2) := by rw [List.getElem?_map, a2]; rfl
          have hpl := (heach p (List.mem_of_getElem? a2)).2.1
          generalize W2[i] = x at *
          have hf := hfits34 (p.2 ++ [⟨x.c, x.len, u.T⟩])
          have a3' : fitsB (p.2 ++ [⟨x.c, x.len, u.T⟩]) = true := a3
          rw [a3', sL, List.map_append] at hf
          have hf' : PureCall P 34 [.sl 3 ((true && (p.2.map eL).isEmpty) && false) (p.2.map eL ++ [.agg [.int .i64 x.c, .int .i64 x.len, .int .i64 u.T]])] (.p (.bool true)) := by rw [Bool.and_false]; exact hf
          have z1 : decide (x.core < 0) = false := decide_eq_false (by omega)
          have z2 : decide (x.core ≥ d.cores) = false := decide_eq_false (by omega)
          have hw : IntKind.wrap .i64 (sumC (W2.take i) + x.c) = sumC (W2.take (i + 1)) := by rw [hst]; exact wrapE (by omega) (by omega)
          clear heach hf
          (repeat' ((conv => whnf); first | exact trivial | with_reducible refine zX ?_ | refine ⟨rfl, ?_⟩ | refine ⟨_, rfl, ?_⟩ | with_reducible refine zP ?_ | with_reducible refine zL ?_ | refine ⟨fun _ => ?_, fun _ => ?_⟩ | refine zn ?_ | refine zb rfl ?_ | refine zX ?_ | refine zo rfl ?_ | refine zs ?_ | intro _)); all_goals (try (conv => whnf))
          rw [hw, next1 (n := W2.length) hil (by omega)]
          exact hN (m - 1) _ (by omega) ⟨i + 1, by omega, rfl⟩
        · have hb := lt_f (n := (W2.map eP).length) (i := i) (by simpa using hil)
          have htk : W2.take i = W2 := List.take_of_length_le (by omega)
          rw [htk]
          clear hN heach
          by_cases hW : W2 = []
          · have e1 := f2 hW
            subst hW
            subst e1
            have z1 : (((([] : List Pc).map eP).length : Int) == 0) = true := rfl
            (repeat' ((conv => whnf); first | exact trivial | with_reducible refine zX ?_ | refine ⟨rfl, ?_⟩ | refine ⟨_, rfl, ?_⟩ | with_reducible refine zP ?_ | with_reducible refine zL ?_ | refine ⟨fun _ => ?_, fun _ => ?_⟩ | refine zn ?_ | refine zb rfl ?_ | refine zX ?_ | refine zo rfl ?_ | refine zs ?_ | intro _)); all_goals (try (conv => whnf))
            all_goals rfl
          · have e1 := g2 hW
            have e2 := hsumW hW
            subst e1
            have hlp : 0 < W2.length := List.length_pos_iff.2 hW
            have hsb := sum_bound hpcs
            have hw1 : IntKind.wrap .i64 (((W2.map eP).length : Int) - 1) = (W2.length : Int) - 1 := by rw [List.length_map, wrapE (by omega) (by omega)]
            have hmv : 0 ≤ ((W2.length : Int) - 1) * d.move ∧ ((W2.length : Int) - 1) * d.move ≤ 5 * 5 := ⟨Int.mul_nonneg (by omega) hlim.m1, Int.mul_le_mul (by omega) hlim.m2 hlim.m1 (by omega)⟩
            have hw2 : IntKind.wrap .i64 (u.C + IntKind.wrap .i64 (IntKind.wrap .i64 (((W2.map eP).length : Int) - 1) * d.move)) = sumC W2 := by
              have := hlim.C1; have := hlim.CD; have := hlim.DT; have := hlim.T2
              rw [hw1, wrapE (n := ((W2.length : Int) - 1) * d.move) (by omega) (by omega), wrapE (by omega) (by omega), e2]
            have z2 : (sumC W2 == IntKind.wrap .i64 (u.C + IntKind.wrap .i64 (IntKind.wrap .i64 (((W2.map eP).length : Int) - 1) * d.move))) = true := by rw [hw2]; simp
            (repeat' ((conv => whnf); first | exact trivial | with_reducible refine zX ?_ | refine ⟨rfl, ?_⟩ | refine ⟨_, rfl, ?_⟩ | with_reducible refine zP ?_ | with_reducible refine zL ?_ | refine ⟨fun _ => ?_, fun _ => ?_⟩ | refine zn ?_ | refine zb rfl ?_ | refine zX ?_ | refine zo rfl ?_ | refine zs ?_ | intro _)); all_goals (try (conv => whnf))
            all_goals exact bool_end (by simp)
end Go.Proofs.YtkjghcbnmipgfaaGreatDoor.Vc
