/- Contract of the law of number 10: it answers true. No condition. -/
import Derived.Test.YtkjghcbnmipgfaaGreatDoorA36
set_option linter.unusedSectionVars false
set_option linter.unusedSimpArgs false
set_option linter.unusedVariables false
set_option maxHeartbeats 4000000
set_option maxRecDepth 100000
namespace Go.Proofs.YtkjghcbnmipgfaaGreatDoor.Vc
open Go.RowKit Ma
def F10 : Fn := ⟨140, 4, [.tmp 6],
 (.seq
 (.reg [ii 3 (.box 0 5) [.t 0],
 ii 5 (.box 1 4) [.t 2],
 mc 6 (.bool false)])
 (.seq
 (.reg [ii 15 (.call 18) [],
 mt 7 15])
 (.seq
 (.seq
 (.reg [mv 16 7,
 ii 17 (.un .not) [.t 16]])
 (.cond (.t 17)
 (.seq
 (.reg [mc 6 (.bool false)])
 .ret)
 .skip))
 (.seq
 (.reg [ii 18 (.load 5 true false) [.t 3],
 ii 19 (.call 19) [.t 18],
 ⟨none, none, .store 5, [.t 3, .t 19]⟩])
 (.seq
 (.reg [ii 21 (.load 5 true false) [.t 3],
 ii 22 (.load 4 true false) [.t 5],
 ii 23 (.call 21) [.t 21, .t 22],
 mv 20 23,
 ii 24 (.ext 0) [.t 20],
 ii 25 (.ext 1) [.t 20],
 ⟨none, none, .store 4, [.t 5, .t 24]⟩,
 mt 8 25])
 (.seq
 (.seq
 (.reg [mv 26 8,
 ii 27 (.un .not) [.t 26]])
 (.cond (.t 27)
 (.seq
 (.reg [mc 6 (.bool true)])
 .ret)
 .skip))
 (.seq
 (.pre [9, 39, 43, 48, 51, 64, 74, 111, 128] [] [2] (.rega [ii 29 (.at 0 (.load 5 true false)) [.t 3],
 ii 30 (.at 0 (.load 5 true false)) [.t 3],
 mv 31 1,
 ii 32 (.pl (.call 20)) [.t 30, .t 31],
 ii 33 (.at 1 (.load 4 true false)) [.t 5],
 ii 34 (.pl (.call 28)) [.t 29, .t 32, .t 33],
 mv 28 34,
 ii 35 (.extp 0) [.t 28],
 ii 36 (.extp 1) [.t 28],
 ⟨some 9, none, .alloc 2 2 [.p (.int .i64 0), .ow 4 true []], []⟩,
 ⟨none, none, .at 2 (.store 2), [.t 9, .t 35]⟩,
 mt 10 36]))
 (.seq
 (.seq
 (.reg [mv 37 10,
 ii 38 (.un .not) [.t 37]])
 (.cond (.t 38)
 (.seq
 (.reg [fa 39 0 9,
 ld 40 39,
 b1 41 .eql 40 (.int .i64 0),
 mv 42 41,
 gt 43 42 (.fad 1) [.t 9],
 gt 44 42 (.load 1 false false) [.t 43],
 gt 45 42 .len [.t 44],
 gt 46 42 (.bin .eql) [.t 45, .c (.p (.int .i64 0))],
 ii 47 .pick [.t 42, .t 46, .c (.p (.bool false))],
 mt 6 47])
 .ret)
 .skip))
 (.seq
 (.reg [fa 48 1 9,
 ld 49 48,
 ii 50 .len [.t 49],
 mt 11 50])
 (.seq
 (.seq
 (.reg [fa 51 0 9,
 ld 52 51,
 b1 53 .neq 52 (.int .i64 2),
 mv 54 53,
 gf 55 54 (.mov false) [.t 11],
 gf 56 54 (.bin .lss) [.t 55, .c (.p (.int .i64 2))],
 ii 57 .pick [.t 54, .c (.p (.bool true)), .t 56],
 mv 58 57,
 gf 59 58 (.fad 3) [.t 5],
 gf 60 58 (.load 1 false false) [.t 59],
 gf 61 58 .len [.t 60],
 gf 62 58 (.bin .gtr) [.t 61, .c (.p (.int .i64 0))],
 ii 63 .pick [.t 58, .c (.p (.bool true)), .t 62]])
 (.cond (.t 63)
 (.seq
 (.reg [mc 6 (.bool false)])
 .ret)
 .skip))
 (.seq
 (.reg [fa 64 1 9,
 ld 65 64,
 ii 66 (.iad 4) [.t 65, .c (.p (.int .i64 0))],
 fa 67 2 66,
 ld 68 67,
 mt 12 68])
 (.seq
 (.seq
 (.reg [mc 13 (.int .i64 0)])
 (.block 0
 (.loop [0, 1, 2, 6, 7, 8, 10, 14, 15, 16, 17, 18, 19, 20, 21, 22, 23, 24, 25, 26, 27, 28, 29, 30, 31, 32, 33, 34, 35, 36, 37, 38, 39, 40, 41, 42, 43, 44, 45, 46, 47, 48, 49, 50, 51, 52, 53, 54, 55, 56, 57, 58, 59, 60, 61, 62, 63, 64, 65, 66, 67, 68, 69, 70, 71, 72, 73, 74, 75, 76, 77, 78, 79, 80, 81, 82, 83, 84, 85, 86, 87, 88, 89, 90, 91, 92, 93, 94, 95, 96, 97, 98, 99, 100, 101, 102, 103, 104, 105, 106, 107, 108, 109, 110, 111, 112, 113, 114, 115, 116, 117, 118, 119, 120, 121, 122, 123, 124, 125, 126, 127, 128, 129, 130, 131, 132, 133, 134, 135, 136, 137, 138, 139] [3]
 (.seq
 (.seq
 (.reg [mv 69 13,
 mv 70 11,
 b2 71 .lss 69 70])
 (.cond (.t 71)
 .skip
 (.exit 0)))
 (.seq
 (.block 1
 (.seq
 (.reg [fa 74 1 9,
 ld 75 74,
 mv 76 13,
 ii 77 (.iad 4) [.t 75, .t 76],
 ii 78 (.load 4 true false) [.t 77],
 ⟨some 14, none, .alloc 3 4 [.p (.int .i64 0), .p (.int .i64 0), .p (.int .i64 0), .p (.int .i64 0)], []⟩,
 ⟨none, none, .store 4, [.t 14, .t 78]⟩])
 (.seq
 (.regd [fa 79 2 14,
 ii 80 (.at 3 (.load 1 false false)) [.t 79],
 mv 81 12,
 b2 82 .neq 80 81,
 mv 83 82,
 gf 84 83 (.fad 1) [.t 14],
 gf 85 83 (.at 3 (.load 1 false false)) [.t 84],
 gf 86 83 (.mov false) [.t 13],
 gf 87 83 (.mov false) [.t 12],
 gf 88 83 (.fad 2) [.t 3],
 gf 89 83 (.at 0 (.load 1 false false)) [.t 88],
 gf 90 83 (.bin .add) [.t 87, .t 89],
 gf 91 83 (.bin .mul) [.t 86, .t 90],
 gf 92 83 (.bin .neq) [.t 85, .t 91],
 ii 93 .pick [.t 83, .c (.p (.bool true)), .t 92],
 mv 94 93,
 gf 95 94 (.fad 3) [.t 14],
 gf 96 94 (.at 3 (.load 1 false false)) [.t 95],
 gf 97 94 (.mov false) [.t 12],
 gf 98 94 (.bin .gtr) [.t 96, .t 97],
 ii 99 .pick [.t 94, .c (.p (.bool true)), .t 98],
 mv 100 99,
 gf 101 100 (.fad 3) [.t 14],
 gf 102 100 (.at 3 (.load 1 false false)) [.t 101],
 gf 103 100 (.bin .lss) [.t 102, .c (.p (.int .i64 1))],
 ii 104 .pick [.t 100, .c (.p (.bool true)), .t 103],
 mv 105 104,
 gf 106 105 (.mov false) [.t 13],
 gf 107 105 (.bin .gtr) [.t 106, .c (.p (.int .i64 0))],
 gf 108 105 (.mov false) [.t 107],
 gt 109 108 (.fad 0) [.t 14],
 gt 110 108 (.at 3 (.load 1 false false)) [.t 109],
 gt 111 108 (.fad 1) [.t 9],
 gt 112 108 (.at 2 (.load 1 false false)) [.t 111],
 gt 113 108 (.mov false) [.t 13],
 gt 114 108 (.bin .sub) [.t 113, .c (.p (.int .i64 1))],
 gt 115 108 (.iad 4) [.t 112, .t 114],
 gt 116 108 (.fad 0) [.t 115],
 gt 117 108 (.loadp 1 false) [.t 116],
 gt 118 108 (.bin .leq) [.t 110, .t 117],
 gt 119 108 (.mov false) [.t 118],
 gf 120 119 (.fad 3) [.t 14],
 gf 121 119 (.at 3 (.load 1 false false)) [.t 120],
 gf 122 119 (.fad 3) [.t 3],
 gf 123 119 (.at 0 (.load 1 false false)) [.t 122],
 gf 124 119 (.bin .leq) [.t 121, .t 123],
 gt 125 108 .pick [.t 119, .c (.p (.bool true)), .t 124],
 gf 126 105 .pick [.t 108, .t 125, .c (.p (.bool false))],
 ii 127 .pick [.t 105, .c (.p (.bool true)), .t 126]])
 (.cond (.t 127)
 (.seq
 (.reg [mc 6 (.bool false)])
 .ret)
 .skip))))
 (.reg [mv 72 13,
 b1 73 .add 72 (.int .i64 1),
 mt 13 73]))))))
 (.seq
 (.regd [fa 128 1 9,
 ii 129 (.at 2 (.load 1 false false)) [.t 128],
 mv 130 11,
 b1 131 .sub 130 (.int .i64 1),
 ii 132 (.iad 4) [.t 129, .t 131],
 fa 133 1 132,
 ii 134 (.loadp 1 false) [.t 133],
 mv 135 12,
 b2 136 .add 134 135,
 fa 137 1 5,
 ii 138 (.at 1 (.load 1 false false)) [.t 137],
 b2 139 .leq 136 138,
 mt 6 139])
 .ret)))))))))))))⟩
theorem k10 : chkF Tryz.prog 10 F10 = true := by kernel_rfl
theorem law10 (hbeg : PureCall Tryz.prog 18 [] (.p (.bool true))) (c : Cf) (nl : Bool) (ls : LL) (t : Tk) : PureCall Tryz.prog 10 [eCf c, sLL nl ls, eT t] (.p (.bool true)) := by
  have hm := maxLen_eq
  obtain ⟨d, L, hd, h19, h20, hL, hlen, hfew, heach⟩ := kept c nl ls
  have hrl := (cf_head hd).2
  have h21 := one21 d t (by omega)
  have hcut := cut_len t
  generalize t.cut = u at *
  simp only [eCf, eT] at h19 h20 h21
  cases hok : u.ok d.res.length with
  | false =>
    rw [hok] at h21
    refine Fn.run k10 rfl ?_
    generalize Tryz.prog = P at *
    (repeat' ((conv => whnf); first | exact trivial | with_reducible refine zX ?_ | refine ⟨rfl, ?_⟩ | refine ⟨_, rfl, ?_⟩ | with_reducible refine zP ?_ | with_reducible refine zL ?_ | refine ⟨fun _ => ?_, fun _ => ?_⟩ | refine zn ?_ | refine zb rfl ?_ | refine zX ?_ | refine zo rfl ?_ | refine zs ?_ | intro _)); all_goals (try (conv => whnf))
    all_goals first | rfl | exact bool_end hv
  | true =>
    rw [hok] at h21
    have hlim := lim_of hd hok
    have h28 := split28 d hd u hok false L hL hlen
    have hspec := fun h => winP_spec (t := u) (L := L) hd hok h
    have hwl := winP_len (t := u) (L := L) hd hok hfew
    generalize winP d u L = W at *
    simp only [eCf, eT] at h28
    unfold planR at h28
    have hv : (0 == 0) = true := rfl
    by_cases hW : W = []
    · rw [if_pos hW] at h28
      simp only [ePl] at h28
      have z1 : ((0 : Int) == 0) = true := rfl
      have z2 : (((([] : List Pc).map eP).length : Int) == 0) = true := rfl
      refine Fn.run k10 rfl ?_
      generalize Tryz.prog = P at *
      (repeat' ((conv => whnf); first | exact trivial | with_reducible refine zX ?_ | refine ⟨rfl, ?_⟩ | refine ⟨_, rfl, ?_⟩ | with_reducible refine zP ?_ | with_reducible refine zL ?_ | refine ⟨fun _ => ?_, fun _ => ?_⟩ | refine zn ?_ | refine zb rfl ?_ | refine zX ?_ | refine zo rfl ?_ | refine zs ?_ | intro _)); all_goals (try (conv => whnf))
      all_goals first | rfl | exact bool_end z2
    rw [if_neg hW] at h28
    simp only [ePl] at h28
    obtain ⟨hs, w, hw1, hw2, hw3, hw4, hw5, hw6, hw7⟩ := hspec hW
    have hrow : ∀ (j : Nat) (hj : j < W.length), (W.map eP)[j]? = some (.agg [.int .i64 W[j].core, .int .i64 W[j].off, .int .i64 W[j].len, .int .i64 W[j].c]) := fun j hj => by simp [hj, eP]
    have hr0 := hrow 0 (by omega)
    have hl0 := (hw7 0 _ (List.getElem?_eq_getElem (show 0 < W.length by omega))).2.1
    rw [hl0] at hr0
    have z1 : ((2 : Int) != 2) = false := rfl
    have z2 : decide (((W.map eP).length : Int) < 2) = false := decide_eq_false (by rw [List.length_map]; omega)
    have z3 : decide (((u.secs.map eS).length : Int) > 0) = false := decide_eq_false (by rw [hs]; simp)
    have z4 : (w != w) = false := by simp
    have hlim' := hlim
    obtain ⟨c1, c2, l1, l2, m1, m2, C1, CD, DT, T2⟩ := hlim'
    generalize W[0].core = x0c at *
    generalize W[0].off = x0o at *
    generalize W[0].c = x0cc at *
    have hwD : w ≤ 200 := by
      have : 1 * w ≤ (W.length : Int) * w := Int.mul_le_mul_of_nonneg_right (by omega) (by omega)
      have : 0 ≤ ((W.length : Int) - 1) * d.lag := Int.mul_nonneg (by omega) l1
      omega
    refine Fn.run k10 rfl ?_
    generalize Tryz.prog = P at *
    (repeat' ((conv => whnf); first | exact trivial | with_reducible refine zX ?_ | refine ⟨rfl, ?_⟩ | refine ⟨_, rfl, ?_⟩ | with_reducible refine zP ?_ | with_reducible refine zL ?_ | refine ⟨fun _ => ?_, fun _ => ?_⟩ | refine zn ?_ | refine zb rfl ?_ | refine zX ?_ | refine zo rfl ?_ | refine zs ?_ | intro _)); all_goals (try (conv => whnf))
    refine loop_inv (fun m s => ∃ i : Nat, m + i = W.length ∧ s = ⟨mkT 140 [(3, .addr 0 5 0 0), (5, .addr 1 4 0 0), (9, .addr 2 2 0 0), (11, .p (.int .i64 (W.map eP).length)), (12, .p (.int .i64 w)), (13, .p (.int .i64 i))], [some (bCf d true), some (bTk u), some (bPl 2 false W), none]⟩) W.length ?_ ?_
    · conv => whnf
      exact ⟨0, rfl, rfl⟩
    · rintro m st bb N ⟨i, hi, e⟩ hN
      cases e
      by_cases hil : i < W.length
      · have hb := lt_t (n := (W.map eP).length) (i := i) (by simpa using hil)
        have hr1 := hrow i hil
        obtain ⟨e1, e2, e3, e4, e5, e6, _⟩ := hw7 i _ (List.getElem?_eq_getElem hil)
        have hprod : 0 ≤ (i : Int) * (w + d.lag) ∧ (i : Int) * (w + d.lag) ≤ 6 * 205 := ⟨Int.mul_nonneg (by omega) (by omega), Int.mul_le_mul (by omega) (by omega) (by omega) (by omega)⟩
        have v1 : IntKind.wrap .i64 ((i : Int) * IntKind.wrap .i64 (w + d.lag)) = (i : Int) * (w + d.lag) := by rw [wrapE (n := w + d.lag) (by omega) (by omega), wrapE (by omega) (by omega)]
        have q1 : (W[i].len != w) = false := by simp [e2]
        have q2 : (W[i].off != IntKind.wrap .i64 ((i : Int) * IntKind.wrap .i64 (w + d.lag))) = false := by rw [v1]; simp [e1]
        have q3 : decide (W[i].c > w) = false := decide_eq_false (by omega)
        have q4 : decide (W[i].c < 1) = false := decide_eq_false (by omega)
        have hstep : ∀ {s : St}, s = ⟨mkT 140 [(3, .addr 0 5 0 0), (5, .addr 1 4 0 0), (9, .addr 2 2 0 0), (11, .p (.int .i64 (W.map eP).length)), (12, .p (.int .i64 w)), (13, .p (.int .i64 (IntKind.wrap .i64 ((i : Int) + 1))))], [some (bCf d true), some (bTk u), some (bPl 2 false W), none]⟩ → N s := fun e => by
          rw [next1 (n := W.length) hil (by omega)] at e
          exact hN (m - 1) _ (by omega) ⟨i + 1, by omega, e⟩
        clear hN heach
        cases i with
        | zero =>
          have q5 : decide (((0 : Nat) : Int) > 0) = false := rfl
          generalize W[0] = x at *
          clear hw7 hrow
          (repeat' ((conv => whnf); first | exact trivial | with_reducible refine zX ?_ | refine ⟨rfl, ?_⟩ | refine ⟨_, rfl, ?_⟩ | with_reducible refine zP ?_ | with_reducible refine zL ?_ | refine ⟨fun _ => ?_, fun _ => ?_⟩ | refine zn ?_ | refine zb rfl ?_ | refine zX ?_ | refine zo rfl ?_ | refine zs ?_ | intro _)); all_goals (try (conv => whnf))
          exact hstep rfl
        | succ j =>
          have q5 : decide (((j + 1 : Nat) : Int) > 0) = true := decide_eq_true (by omega)
          have g1 : IntKind.wrap .i64 (((j + 1 : Nat) : Int) - 1) = (j : Int) := by rw [wrapE (by omega) (by omega)]; omega
          have r1 := hrow j (by omega)
          have g2 : (W.map eP)[(IntKind.wrap .i64 (((j + 1 : Nat) : Int) - 1)).toNat]? = some (.agg [.int .i64 W[j].core, .int .i64 W[j].off, .int .i64 W[j].len, .int .i64 W[j].c]) := by rw [g1]; exact r1
          have g0 : (0 : Int) ≤ IntKind.wrap .i64 (((j + 1 : Nat) : Int) - 1) := by rw [g1]; omega
          have hasc := List.pairwise_iff_getElem.1 hw6 j (j + 1) (by omega) hil (Nat.lt_succ_self j)
          have q6 : decide (W[j + 1].core ≤ W[j].core) = false := decide_eq_false (by omega)
          have q7 : decide (W[j + 1].c ≤ d.move) = false := decide_eq_false (by have := e5 (by omega); omega)
          generalize W[j + 1] = x at *
          generalize W[j]'(by omega) = y at *
          clear hw7 hrow
          (repeat' ((conv => whnf); first | exact trivial | with_reducible refine zX ?_ | refine ⟨rfl, ?_⟩ | refine ⟨_, rfl, ?_⟩ | with_reducible refine zP ?_ | with_reducible refine zL ?_ | refine ⟨fun _ => ?_, fun _ => ?_⟩ | refine zn ?_ | refine zb rfl ?_ | refine zX ?_ | refine zo rfl ?_ | refine zs ?_ | intro _)); all_goals (try (conv => whnf))
          exact hstep rfl
      · have hb := lt_f (n := (W.map eP).length) (i := i) (by simpa using hil)
        have r1 := hrow (W.length - 1) (by omega)
        have hlast := (hw7 (W.length - 1) _ (List.getElem?_eq_getElem (show W.length - 1 < W.length by omega))).1
        have g1 : IntKind.wrap .i64 (((W.map eP).length : Int) - 1) = ((W.length - 1 : Nat) : Int) := by rw [List.length_map, wrapE (by omega) (by omega)]; omega
        have g2 : (W.map eP)[(IntKind.wrap .i64 (((W.map eP).length : Int) - 1)).toNat]? = some (.agg [.int .i64 W[W.length - 1].core, .int .i64 W[W.length - 1].off, .int .i64 W[W.length - 1].len, .int .i64 W[W.length - 1].c]) := by rw [g1]; exact r1
        have g0 : (0 : Int) ≤ IntKind.wrap .i64 (((W.map eP).length : Int) - 1) := by rw [g1]; omega
        have hD : decide (IntKind.wrap .i64 (W[W.length - 1].off + w) ≤ u.D) = true := by
          have h3 : ((W.length - 1 : Nat) : Int) * (w + d.lag) = (W.length : Int) * w - w + (W.length - 1 : Int) * d.lag := by
            rw [show ((W.length - 1 : Nat) : Int) = (W.length : Int) - 1 by omega, Int.mul_add, Int.sub_mul, Int.one_mul]
          have h4 : 0 ≤ ((W.length - 1 : Nat) : Int) * (w + d.lag) := Int.mul_nonneg (by omega) (by omega)
          rw [hlast, wrapE (by omega) (by omega)]
          exact decide_eq_true (by omega)
        generalize W[W.length - 1] = x at *
        clear hN heach hw7 hrow
        (repeat' ((conv => whnf); first | exact trivial | with_reducible refine zX ?_ | refine ⟨rfl, ?_⟩ | refine ⟨_, rfl, ?_⟩ | with_reducible refine zP ?_ | with_reducible refine zL ?_ | refine ⟨fun _ => ?_, fun _ => ?_⟩ | refine zn ?_ | refine zb rfl ?_ | refine zX ?_ | refine zo rfl ?_ | refine zs ?_ | intro _)); all_goals (try (conv => whnf))
        all_goals exact bool_end hD
end Go.Proofs.YtkjghcbnmipgfaaGreatDoor.Vc
