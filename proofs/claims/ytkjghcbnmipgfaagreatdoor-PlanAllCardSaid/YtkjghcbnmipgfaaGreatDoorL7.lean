/- Contract of the law of number 7: it answers true. No condition. -/
import Derived.Test.YtkjghcbnmipgfaaGreatDoorA36
set_option linter.unusedSectionVars false
set_option linter.unusedSimpArgs false
set_option linter.unusedVariables false
set_option maxHeartbeats 4000000
set_option maxRecDepth 100000
namespace Go.Proofs.YtkjghcbnmipgfaaGreatDoor.Vc
open Go.RowKit Ma
def F7 : Fn := ⟨135, 4, [.tmp 12],
 (.seq
 (.reg [ii 6 (.box 0 5) [.t 0],
 ii 7 (.box 1 4) [.t 1],
 ii 8 (.box 2 2) [.t 2],
 ii 9 (.box 3 2) [.t 3],
 mc 12 (.bool false)])
 (.seq
 (.reg [ii 18 (.call 18) [],
 mt 13 18])
 (.seq
 (.seq
 (.reg [mv 19 13,
 ii 20 (.un .not) [.t 19]])
 (.cond (.t 20)
 (.seq
 (.reg [mc 12 (.bool false)])
 .ret)
 .skip))
 (.seq
 (.reg [ii 21 (.load 5 true false) [.t 6],
 ii 22 (.call 19) [.t 21],
 ⟨none, none, .store 5, [.t 6, .t 22]⟩])
 (.seq
 (.reg [ii 24 (.load 5 true false) [.t 6],
 ii 25 (.load 4 true false) [.t 7],
 ii 26 (.call 21) [.t 24, .t 25],
 mv 23 26,
 ii 27 (.ext 0) [.t 23],
 ii 28 (.ext 1) [.t 23],
 ⟨none, none, .store 4, [.t 7, .t 27]⟩,
 mt 14 28])
 (.seq
 (.regd [fa 29 1 8,
 ii 30 (.at 2 (.load 1 false false)) [.t 29],
 fa 31 1 8,
 ii 32 (.at 2 (.load 1 false false)) [.t 31],
 ii 33 .lenD [.t 32],
 ii 34 .mn [.t 33, .c (.p (.int .i64 8))],
 ii 35 (.slc 4 false true) [.t 30, .t 34],
 fa 36 1 9,
 ii 37 (.at 3 (.load 1 false false)) [.t 36],
 fa 38 1 9,
 ii 39 (.at 3 (.load 1 false false)) [.t 38],
 ii 40 .lenD [.t 39],
 ii 41 .mn [.t 40, .c (.p (.int .i64 8))],
 ii 42 (.slc 4 false true) [.t 37, .t 41],
 fa 43 1 8,
 ⟨none, none, .at 2 (.store 1), [.t 43, .t 35]⟩,
 fa 44 1 9,
 ⟨none, none, .at 3 (.store 1), [.t 44, .t 42]⟩])
 (.seq
 (.seq
 (.reg [mv 45 14,
 ii 46 (.un .not) [.t 45],
 mv 47 46,
 gf 48 47 (.mov false) [.t 5],
 gf 49 47 (.bin .lss) [.t 48, .c (.p (.int .i64 0))],
 ii 50 .pick [.t 47, .c (.p (.bool true)), .t 49],
 mv 51 50,
 gf 52 51 (.mov false) [.t 5],
 gf 53 51 (.bin .gtr) [.t 52, .c (.p (.int .i64 1099511627776))],
 ii 54 .pick [.t 51, .c (.p (.bool true)), .t 53]])
 (.cond (.t 54)
 (.seq
 (.reg [mc 12 (.bool true)])
 .ret)
 .skip))
 (.seq
 (.seq
 (.regd [ii 55 (.at 0 (.load 5 true false)) [.t 6],
 ii 56 (.at 1 (.load 4 true false)) [.t 7],
 ii 57 (.at 2 (.load 2 true false)) [.t 8],
 ii 58 (.pl (.call 27)) [.t 55, .t 56, .t 57],
 ii 59 (.at 0 (.load 5 true false)) [.t 6],
 ii 60 (.at 1 (.load 4 true false)) [.t 7],
 ii 61 (.at 2 (.load 2 true false)) [.t 8],
 ii 62 (.pl (.call 36)) [.t 59, .t 60, .t 61],
 ii 63 (.eqb true) [.t 58, .t 62],
 mv 64 63,
 gf 65 64 (.at 2 (.load 2 true false)) [.t 8],
 gf 66 64 (.at 3 (.load 2 true false)) [.t 9],
 gf 67 64 (.pl (.call 37)) [.t 65, .t 66],
 gf 68 64 (.at 2 (.load 2 true false)) [.t 8],
 gf 69 64 (.at 3 (.load 2 true false)) [.t 9],
 gf 70 64 (.pl (.call 24)) [.t 68, .t 69],
 gf 71 64 (.eqb true) [.t 67, .t 70],
 ii 72 .pick [.t 64, .c (.p (.bool true)), .t 71],
 mv 73 72,
 gf 74 73 (.at 2 (.load 2 true false)) [.t 8],
 gf 75 73 (.at 2 (.load 2 true false)) [.t 8],
 gf 76 73 (.pl (.call 37)) [.t 74, .t 75],
 gf 77 73 (.un .not) [.t 76],
 ii 78 .pick [.t 73, .c (.p (.bool true)), .t 77]])
 (.cond (.t 78)
 (.seq
 (.reg [mc 12 (.bool false)])
 .ret)
 .skip))
 (.seq
 (.seq
 (.reg [ii 79 (.load 5 true false) [.t 6],
 ii 80 (.load 4 true false) [.t 7],
 ii 81 (.load 2 true false) [.t 8],
 ii 82 (.call 36) [.t 79, .t 80, .t 81],
 ii 83 (.un .not) [.t 82]])
 (.cond (.t 83)
 (.seq
 (.reg [mc 12 (.bool true)])
 .ret)
 .skip))
 (.seq
 (.reg [mc 15 (.int .i64 0)])
 (.seq
 (.seq
 (.reg [mc 16 (.int .i64 0)])
 (.block 0
 (.loop [0, 1, 2, 3, 6, 7, 9, 12, 13, 14, 17, 18, 19, 20, 21, 22, 23, 24, 25, 26, 27, 28, 29, 30, 31, 32, 33, 34, 35, 36, 37, 38, 39, 40, 41, 42, 43, 44, 45, 46, 47, 48, 49, 50, 51, 52, 53, 54, 55, 56, 57, 58, 59, 60, 61, 62, 63, 64, 65, 66, 67, 68, 69, 70, 71, 72, 73, 74, 75, 76, 77, 78, 79, 80, 81, 82, 83, 84, 85, 86, 87, 88, 89, 90, 91, 92, 93, 94, 95, 96, 97, 98, 99, 100, 101, 102, 103, 104, 105, 106, 107, 108, 109, 110, 111, 112, 113, 114, 115, 116, 117, 118, 119, 120, 121, 122, 123, 124, 125, 126, 127, 128, 129, 130, 131, 132, 133, 134] []
 (.seq
 (.seq
 (.reg [mv 84 16,
 fa 85 1 8,
 ld 86 85,
 ii 87 .len [.t 86],
 b2 88 .lss 84 87])
 (.cond (.t 88)
 .skip
 (.exit 0)))
 (.seq
 (.block 1
 (.reg [mv 91 15,
 fa 92 1 8,
 ld 93 92,
 mv 94 16,
 ii 95 (.iad 4) [.t 93, .t 94],
 fa 96 3 95,
 ld 97 96,
 b2 98 .add 91 97,
 mt 15 98]))
 (.reg [mv 89 16,
 b1 90 .add 89 (.int .i64 1),
 mt 16 90]))))))
 (.seq
 (.reg [mc 17 (.int .i64 0)])
 (.seq
 (.seq
 (.reg [mv 99 4,
 b1 100 .geq 99 (.int .i64 0),
 mv 101 100,
 gt 102 101 (.mov false) [.t 4],
 gt 103 101 (.fad 1) [.t 8],
 gt 104 101 (.load 1 false false) [.t 103],
 gt 105 101 .len [.t 104],
 gt 106 101 (.bin .lss) [.t 102, .t 105],
 ii 107 .pick [.t 101, .t 106, .c (.p (.bool false))]])
 (.cond (.t 107)
 (.regd [mv 108 5,
 fa 109 1 8,
 ii 110 (.at 2 (.load 1 false false)) [.t 109],
 mv 111 4,
 ii 112 (.iad 4) [.t 110, .t 111],
 fa 113 1 112,
 ii 114 (.loadp 1 false) [.t 113],
 b2 115 .add 108 114,
 fa 116 1 8,
 ii 117 (.at 2 (.load 1 false false)) [.t 116],
 mv 118 4,
 ii 119 (.iad 4) [.t 117, .t 118],
 fa 120 2 119,
 ii 121 (.loadp 1 false) [.t 120],
 b2 122 .add 115 121,
 mt 17 122])
 .skip))
 (.seq
 (.reg [ii 123 (.load 2 true false) [.t 8],
 ii 124 (.call 35) [.t 123],
 mv 125 15,
 b2 126 .eql 124 125,
 mv 127 126,
 gt 128 127 (.load 2 true false) [.t 8],
 gt 129 127 (.mov false) [.t 4],
 gt 130 127 (.mov false) [.t 5],
 gt 131 127 (.call 38) [.t 128, .t 129, .t 130],
 gt 132 127 (.mov false) [.t 17],
 gt 133 127 (.bin .eql) [.t 131, .t 132],
 ii 134 .pick [.t 127, .t 133, .c (.p (.bool false))],
 mt 12 134])
 .ret))))))))))))))⟩
theorem k7 : chkF Tryz.prog 7 F7 = true := by kernel_rfl
instance : No ((!(true == true)) = true) := ⟨by decide⟩
instance : No ((!(false == false)) = true) := ⟨by decide⟩
instance : No ((!(true == true)) = !false) := ⟨by decide⟩
instance : No ((!(false == false)) = !false) := ⟨by decide⟩
theorem law7 (hbeg : PureCall Tryz.prog 18 [] (.p (.bool true))) (c : Cf) (t : Tk) (k1 : Int) (n1 : Bool) (ps : List Pc) (k2 : Int) (n2 : Bool) (qs : List Pc) (i r : Int) : PureCall Tryz.prog 7 [eCf c, eT t, ePl k1 n1 ps, ePl k2 n2 qs, .int .i64 i, .int .i64 r] (.p (.bool true)) := by
  have hm := maxLen_eq
  obtain ⟨d, L0, hd, h19, -, -, -, -, -⟩ := kept c true []
  have hrl := (cf_head hd).2
  have h21 := one21 d t (by omega)
  have hcut := cut_len t
  generalize t.cut = u at *
  simp only [eCf, eT] at h19 h21
  have hwl : (ps.take 8).length ≤ 8 := by simp; omega
  have hvl : (qs.take 8).length ≤ 8 := by simp; omega
  have hraw : (ps.map eP).take (if (8 : Int) < ((ps.map eP).length : Int) then (8 : Int) else ((ps.map eP).length : Int)).toNat = (ps.take 8).map eP := by rw [mn_take 8 8 rfl, List.map_take]
  have hraw2 : (qs.map eP).take (if (8 : Int) < ((qs.map eP).length : Int) then (8 : Int) else ((qs.map eP).length : Int)).toNat = (qs.take 8).map eP := by rw [mn_take 8 8 rfl, List.map_take]
  have h35 := budget35 k1 n1 (ps.take 8)
  have h38 := dead38 k1 n1 (ps.take 8) i r
  have h37 := eq37 k1 k2 n1 n2 (ps.take 8) (qs.take 8) (by omega)
  have h24 := eqpl24 k1 k2 n1 n2 (ps.take 8) (qs.take 8) (by omega)
  have h37s := eqSame37 k1 n1 (ps.take 8) (by omega)
  simp only [ePl] at h35 h38 h37 h24 h37s
  rw [← hraw] at h37s
  rw [← hraw, ← hraw2] at h37 h24
  generalize (decide (k1 = k2) && decide (ps.take 8 = qs.take 8)) = e at *
  cases hok : u.ok d.res.length with
  | false =>
    rw [hok] at h21
    refine Fn.run k7 rfl ?_
    generalize Tryz.prog = P at *
    (repeat' ((conv => whnf); first | exact trivial | with_reducible refine zX ?_ | refine ⟨rfl, ?_⟩ | refine ⟨_, rfl, ?_⟩ | with_reducible refine zP ?_ | with_reducible refine zL ?_ | refine ⟨fun _ => ?_, fun _ => ?_⟩ | refine zn ?_ | refine zb rfl ?_ | refine zX ?_ | refine zo rfl ?_ | refine zs ?_ | intro _)); all_goals (try (conv => whnf))
    all_goals rfl
  | true =>
    rw [hok] at h21
    have hlim := lim_of hd hok
    have h27 := may27 d hd u hok k1 n1 (ps.take 8) (by omega)
    have h36 := plan36 d (cf_head hd).1 u ⟨hlim.C1, by have := hlim.CD; have := hlim.DT; have := hlim.T2; omega⟩ k1 n1 (ps.take 8) (by omega)
    simp only [eCf, eT, ePl] at h27 h36
    rw [← hraw] at h27 h36
    by_cases m1 : r < 0
    · have b1 : decide (r < 0) = true := decide_eq_true m1
      refine Fn.run k7 rfl ?_
      generalize Tryz.prog = P at *
      (repeat' ((conv => whnf); first | exact trivial | with_reducible refine zX ?_ | refine ⟨rfl, ?_⟩ | refine ⟨_, rfl, ?_⟩ | with_reducible refine zP ?_ | with_reducible refine zL ?_ | refine ⟨fun _ => ?_, fun _ => ?_⟩ | refine zn ?_ | refine zb rfl ?_ | refine zX ?_ | refine zo rfl ?_ | refine zs ?_ | intro _)); all_goals (try (conv => whnf))
      all_goals rfl
    have b1 : decide (r < 0) = false := decide_eq_false m1
    by_cases m2 : r > 1099511627776
    · have b2 : decide (r > 1099511627776) = true := decide_eq_true m2
      refine Fn.run k7 rfl ?_
      generalize Tryz.prog = P at *
      (repeat' ((conv => whnf); first | exact trivial | with_reducible refine zX ?_ | refine ⟨rfl, ?_⟩ | refine ⟨_, rfl, ?_⟩ | with_reducible refine zP ?_ | with_reducible refine zL ?_ | refine ⟨fun _ => ?_, fun _ => ?_⟩ | refine zn ?_ | refine zb rfl ?_ | refine zX ?_ | refine zo rfl ?_ | refine zs ?_ | intro _)); all_goals (try (conv => whnf))
      all_goals rfl
    have b2 : decide (r > 1099511627776) = false := decide_eq_false m2
    cases hpb : planB d.cores d.lag d.move u.C u.D u.secs.length k1 (ps.take 8) with
    | false =>
      rw [hpb] at h27 h36
      cases e with
      | false =>
        refine Fn.run k7 rfl ?_
        generalize Tryz.prog = P at *
        (repeat' ((conv => whnf); first | exact trivial | with_reducible refine zX ?_ | refine ⟨rfl, ?_⟩ | refine ⟨_, rfl, ?_⟩ | with_reducible refine zP ?_ | with_reducible refine zL ?_ | refine ⟨fun _ => ?_, fun _ => ?_⟩ | refine zn ?_ | refine zb rfl ?_ | refine zX ?_ | refine zo rfl ?_ | refine zs ?_ | intro _)); all_goals (try (conv => whnf))
        all_goals rfl
      | true =>
        refine Fn.run k7 rfl ?_
        generalize Tryz.prog = P at *
        (repeat' ((conv => whnf); first | exact trivial | with_reducible refine zX ?_ | refine ⟨rfl, ?_⟩ | refine ⟨_, rfl, ?_⟩ | with_reducible refine zP ?_ | with_reducible refine zL ?_ | refine ⟨fun _ => ?_, fun _ => ?_⟩ | refine zn ?_ | refine zb rfl ?_ | refine zX ?_ | refine zo rfl ?_ | refine zs ?_ | intro _)); all_goals (try (conv => whnf))
        all_goals rfl
    | true =>
      rw [hpb] at h27 h36
      have hplan := planB_iff.1 hpb
      cases e with
      | false =>
        refine Fn.run k7 rfl ?_
        generalize Tryz.prog = P at *
        (repeat' ((conv => whnf); first | exact trivial | with_reducible refine zX ?_ | refine ⟨rfl, ?_⟩ | refine ⟨_, rfl, ?_⟩ | with_reducible refine zP ?_ | with_reducible refine zL ?_ | refine ⟨fun _ => ?_, fun _ => ?_⟩ | refine zn ?_ | refine zb rfl ?_ | refine zX ?_ | refine zo rfl ?_ | refine zs ?_ | intro _)); all_goals (try (conv => whnf))
        rw [hraw]
        clear h27 hraw h37s h37 h24 h36
        generalize ps.take 8 = W at *
        obtain ⟨q1, q2, q3, q4, q5, q6, q7, q8⟩ := hplan
        obtain ⟨c1, c2, l1, l2, m1, m2, C1, CD, DT, T2⟩ := hlim
        refine loop_inv (fun m s => ∃ (j : Nat), m + j = W.length ∧
          s = ⟨mkT 135 [(4, .p (.int .i64 i)), (5, .p (.int .i64 r)), (8, .addr 2 2 0 0), (15, .p (.int .i64 (sumC (W.take j)))), (16, .p (.int .i64 j))], [some (bCf d true), some (bTk u), some (bPl k1 n1 W), some ⟨true, 2, [[.p (.int .i64 k2), .p (.sl 4 n2 ((qs.map eP).take (if (8 : Int) < ((qs.map eP).length : Int) then (8 : Int) else ((qs.map eP).length : Int)).toNat))]], false⟩]⟩) W.length ?_ ?_
        · conv => whnf
          exact ⟨0, rfl, rfl⟩
        · rintro m st bb N ⟨j, hj, e⟩ hN
          cases e
          by_cases hil : j < W.length
          · have hb := lt_t (n := (W.map eP).length) (i := j) (by simpa using hil)
            have hr1 : (W.map eP)[j]? = some (.agg [.int .i64 W[j].core, .int .i64 W[j].off, .int .i64 W[j].len, .int .i64 W[j].c]) := by simp [hil, eP]
            have hst := sum_take hil
            have hsb := sum_bound (cores := d.cores) (L := W.take j) fun q hq => q1 q (List.mem_of_mem_take hq)
            have htl : (W.take j).length ≤ 8 := by rw [List.length_take]; omega
            have ho := Pc.ok_iff.1 (q1 _ (List.getElem_mem hil))
            have hw : IntKind.wrap .i64 (sumC (W.take j) + W[j].c) = sumC (W.take (j + 1)) := by rw [hst]; exact wrapE (by omega) (by omega)
            generalize W[j] = x at *
            (repeat' ((conv => whnf); first | exact trivial | with_reducible refine zX ?_ | refine ⟨rfl, ?_⟩ | refine ⟨_, rfl, ?_⟩ | with_reducible refine zP ?_ | with_reducible refine zL ?_ | refine ⟨fun _ => ?_, fun _ => ?_⟩ | refine zn ?_ | refine zb rfl ?_ | refine zX ?_ | refine zo rfl ?_ | refine zs ?_ | intro _)); all_goals (try (conv => whnf))
            rw [hw, next1 (n := W.length) hil (by omega)]
            exact hN (m - 1) _ (by omega) ⟨j + 1, by omega, rfl⟩
          · have hb := lt_f (n := (W.map eP).length) (i := j) (by simpa using hil)
            rw [List.take_of_length_le (by omega)]
            rw [sumW_ok q1 (by omega)] at h35
            have b5 : (sumC W == sumC W) = true := by simp
            clear hN hraw2
            by_cases p1 : i ≥ 0
            · have d1 : decide (i ≥ 0) = true := decide_eq_true p1
              by_cases p2 : i.toNat < W.length
              · have d2 : decide (i < (((W.map eP).length : Nat) : Int)) = true := decide_eq_true (by rw [List.length_map]; omega)
                have hr1 : (W.map eP)[i.toNat]? = some (.agg [.int .i64 W[i.toNat].core, .int .i64 W[i.toNat].off, .int .i64 W[i.toNat].len, .int .i64 W[i.toNat].c]) := by simp [p2, eP]
                have hd0 : deadV W i r = IntKind.wrap .i64 (IntKind.wrap .i64 (r + W[i.toNat].off) + W[i.toNat].len) := by
                  unfold deadV; rw [if_neg (by omega), List.getElem?_eq_getElem p2]
                rw [hd0] at h38
                have z0 : (IntKind.wrap .i64 (IntKind.wrap .i64 (r + W[i.toNat].off) + W[i.toNat].len) == IntKind.wrap .i64 (IntKind.wrap .i64 (r + W[i.toNat].off) + W[i.toNat].len)) = true := by simp
                generalize W[i.toNat] = x at *
                (repeat' ((conv => whnf); first | exact trivial | with_reducible refine zX ?_ | refine ⟨rfl, ?_⟩ | refine ⟨_, rfl, ?_⟩ | with_reducible refine zP ?_ | with_reducible refine zL ?_ | refine ⟨fun _ => ?_, fun _ => ?_⟩ | refine zn ?_ | refine zb rfl ?_ | refine zX ?_ | refine zo rfl ?_ | refine zs ?_ | intro _)); all_goals (try (conv => whnf))
                all_goals exact bool_end z0
              · have d2 : decide (i < (((W.map eP).length : Nat) : Int)) = false := decide_eq_false (by rw [List.length_map]; omega)
                have hd0 : deadV W i r = 0 := by
                  unfold deadV; rw [if_neg (by omega), List.getElem?_eq_none (by omega)]
                rw [hd0] at h38
                have z0 : ((0 : Int) == 0) = true := rfl
                (repeat' ((conv => whnf); first | exact trivial | with_reducible refine zX ?_ | refine ⟨rfl, ?_⟩ | refine ⟨_, rfl, ?_⟩ | with_reducible refine zP ?_ | with_reducible refine zL ?_ | refine ⟨fun _ => ?_, fun _ => ?_⟩ | refine zn ?_ | refine zb rfl ?_ | refine zX ?_ | refine zo rfl ?_ | refine zs ?_ | intro _)); all_goals (try (conv => whnf))
                all_goals exact bool_end z0
            · have d1 : decide (i ≥ 0) = false := decide_eq_false p1
              have hd0 : deadV W i r = 0 := by unfold deadV; rw [if_pos (by omega)]
              rw [hd0] at h38
              have z0 : ((0 : Int) == 0) = true := rfl
              (repeat' ((conv => whnf); first | exact trivial | with_reducible refine zX ?_ | refine ⟨rfl, ?_⟩ | refine ⟨_, rfl, ?_⟩ | with_reducible refine zP ?_ | with_reducible refine zL ?_ | refine ⟨fun _ => ?_, fun _ => ?_⟩ | refine zn ?_ | refine zb rfl ?_ | refine zX ?_ | refine zo rfl ?_ | refine zs ?_ | intro _)); all_goals (try (conv => whnf))
              all_goals exact bool_end z0

      | true =>
        refine Fn.run k7 rfl ?_
        generalize Tryz.prog = P at *
        (repeat' ((conv => whnf); first | exact trivial | with_reducible refine zX ?_ | refine ⟨rfl, ?_⟩ | refine ⟨_, rfl, ?_⟩ | with_reducible refine zP ?_ | with_reducible refine zL ?_ | refine ⟨fun _ => ?_, fun _ => ?_⟩ | refine zn ?_ | refine zb rfl ?_ | refine zX ?_ | refine zo rfl ?_ | refine zs ?_ | intro _)); all_goals (try (conv => whnf))
        rw [hraw]
        clear h27 hraw h37s h37 h24 h36
        generalize ps.take 8 = W at *
        obtain ⟨q1, q2, q3, q4, q5, q6, q7, q8⟩ := hplan
        obtain ⟨c1, c2, l1, l2, m1, m2, C1, CD, DT, T2⟩ := hlim
        refine loop_inv (fun m s => ∃ (j : Nat), m + j = W.length ∧
          s = ⟨mkT 135 [(4, .p (.int .i64 i)), (5, .p (.int .i64 r)), (8, .addr 2 2 0 0), (15, .p (.int .i64 (sumC (W.take j)))), (16, .p (.int .i64 j))], [some (bCf d true), some (bTk u), some (bPl k1 n1 W), some ⟨true, 2, [[.p (.int .i64 k2), .p (.sl 4 n2 ((qs.map eP).take (if (8 : Int) < ((qs.map eP).length : Int) then (8 : Int) else ((qs.map eP).length : Int)).toNat))]], false⟩]⟩) W.length ?_ ?_
        · conv => whnf
          exact ⟨0, rfl, rfl⟩
        · rintro m st bb N ⟨j, hj, e⟩ hN
          cases e
          by_cases hil : j < W.length
          · have hb := lt_t (n := (W.map eP).length) (i := j) (by simpa using hil)
            have hr1 : (W.map eP)[j]? = some (.agg [.int .i64 W[j].core, .int .i64 W[j].off, .int .i64 W[j].len, .int .i64 W[j].c]) := by simp [hil, eP]
            have hst := sum_take hil
            have hsb := sum_bound (cores := d.cores) (L := W.take j) fun q hq => q1 q (List.mem_of_mem_take hq)
            have htl : (W.take j).length ≤ 8 := by rw [List.length_take]; omega
            have ho := Pc.ok_iff.1 (q1 _ (List.getElem_mem hil))
            have hw : IntKind.wrap .i64 (sumC (W.take j) + W[j].c) = sumC (W.take (j + 1)) := by rw [hst]; exact wrapE (by omega) (by omega)
            generalize W[j] = x at *
            (repeat' ((conv => whnf); first | exact trivial | with_reducible refine zX ?_ | refine ⟨rfl, ?_⟩ | refine ⟨_, rfl, ?_⟩ | with_reducible refine zP ?_ | with_reducible refine zL ?_ | refine ⟨fun _ => ?_, fun _ => ?_⟩ | refine zn ?_ | refine zb rfl ?_ | refine zX ?_ | refine zo rfl ?_ | refine zs ?_ | intro _)); all_goals (try (conv => whnf))
            rw [hw, next1 (n := W.length) hil (by omega)]
            exact hN (m - 1) _ (by omega) ⟨j + 1, by omega, rfl⟩
          · have hb := lt_f (n := (W.map eP).length) (i := j) (by simpa using hil)
            rw [List.take_of_length_le (by omega)]
            rw [sumW_ok q1 (by omega)] at h35
            have b5 : (sumC W == sumC W) = true := by simp
            clear hN hraw2
            by_cases p1 : i ≥ 0
            · have d1 : decide (i ≥ 0) = true := decide_eq_true p1
              by_cases p2 : i.toNat < W.length
              · have d2 : decide (i < (((W.map eP).length : Nat) : Int)) = true := decide_eq_true (by rw [List.length_map]; omega)
                have hr1 : (W.map eP)[i.toNat]? = some (.agg [.int .i64 W[i.toNat].core, .int .i64 W[i.toNat].off, .int .i64 W[i.toNat].len, .int .i64 W[i.toNat].c]) := by simp [p2, eP]
                have hd0 : deadV W i r = IntKind.wrap .i64 (IntKind.wrap .i64 (r + W[i.toNat].off) + W[i.toNat].len) := by
                  unfold deadV; rw [if_neg (by omega), List.getElem?_eq_getElem p2]
                rw [hd0] at h38
                have z0 : (IntKind.wrap .i64 (IntKind.wrap .i64 (r + W[i.toNat].off) + W[i.toNat].len) == IntKind.wrap .i64 (IntKind.wrap .i64 (r + W[i.toNat].off) + W[i.toNat].len)) = true := by simp
                generalize W[i.toNat] = x at *
                (repeat' ((conv => whnf); first | exact trivial | with_reducible refine zX ?_ | refine ⟨rfl, ?_⟩ | refine ⟨_, rfl, ?_⟩ | with_reducible refine zP ?_ | with_reducible refine zL ?_ | refine ⟨fun _ => ?_, fun _ => ?_⟩ | refine zn ?_ | refine zb rfl ?_ | refine zX ?_ | refine zo rfl ?_ | refine zs ?_ | intro _)); all_goals (try (conv => whnf))
                all_goals exact bool_end z0
              · have d2 : decide (i < (((W.map eP).length : Nat) : Int)) = false := decide_eq_false (by rw [List.length_map]; omega)
                have hd0 : deadV W i r = 0 := by
                  unfold deadV; rw [if_neg (by omega), List.getElem?_eq_none (by omega)]
                rw [hd0] at h38
                have z0 : ((0 : Int) == 0) = true := rfl
                (repeat' ((conv => whnf); first | exact trivial | with_reducible refine zX ?_ | refine ⟨rfl, ?_⟩ | refine ⟨_, rfl, ?_⟩ | with_reducible refine zP ?_ | with_reducible refine zL ?_ | refine ⟨fun _ => ?_, fun _ => ?_⟩ | refine zn ?_ | refine zb rfl ?_ | refine zX ?_ | refine zo rfl ?_ | refine zs ?_ | intro _)); all_goals (try (conv => whnf))
                all_goals exact bool_end z0
            · have d1 : decide (i ≥ 0) = false := decide_eq_false p1
              have hd0 : deadV W i r = 0 := by unfold deadV; rw [if_pos (by omega)]
              rw [hd0] at h38
              have z0 : ((0 : Int) == 0) = true := rfl
              (repeat' ((conv => whnf); first | exact trivial | with_reducible refine zX ?_ | refine ⟨rfl, ?_⟩ | refine ⟨_, rfl, ?_⟩ | with_reducible refine zP ?_ | with_reducible refine zL ?_ | refine ⟨fun _ => ?_, fun _ => ?_⟩ | refine zn ?_ | refine zb rfl ?_ | refine zX ?_ | refine zo rfl ?_ | refine zs ?_ | intro _)); all_goals (try (conv => whnf))
              all_goals exact bool_end z0
end Go.Proofs.YtkjghcbnmipgfaaGreatDoor.Vc
