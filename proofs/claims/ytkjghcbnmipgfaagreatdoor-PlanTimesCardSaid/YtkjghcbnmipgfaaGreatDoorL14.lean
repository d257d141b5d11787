/- Contract of the law of number 14: it answers true. No condition. -/
import Derived.Test.YtkjghcbnmipgfaaGreatDoorA36
set_option linter.unusedSectionVars false
set_option linter.unusedSimpArgs false
set_option linter.unusedVariables false
set_option maxHeartbeats 4000000
set_option maxRecDepth 100000
namespace Go.Proofs.YtkjghcbnmipgfaaGreatDoor.Vc
open Go.RowKit Ma
def F14 : Fn := ⟨87, 3, [.tmp 8],
 (.seq
 (.reg [ii 4 (.box 0 5) [.t 0],
 ii 5 (.box 1 4) [.t 1],
 ii 6 (.box 2 2) [.t 2],
 mc 8 (.bool false)])
 (.seq
 (.reg [ii 14 (.call 18) [],
 mt 9 14])
 (.seq
 (.seq
 (.reg [mv 15 9,
 ii 16 (.un .not) [.t 15]])
 (.cond (.t 16)
 (.seq
 (.reg [mc 8 (.bool false)])
 .ret)
 .skip))
 (.seq
 (.reg [ii 17 (.load 5 true false) [.t 4],
 ii 18 (.call 19) [.t 17],
 ⟨none, none, .store 5, [.t 4, .t 18]⟩])
 (.seq
 (.reg [ii 20 (.load 5 true false) [.t 4],
 ii 21 (.load 4 true false) [.t 5],
 ii 22 (.call 21) [.t 20, .t 21],
 mv 19 22,
 ii 23 (.ext 0) [.t 19],
 ii 24 (.ext 1) [.t 19],
 ⟨none, none, .store 4, [.t 5, .t 23]⟩,
 mt 10 24])
 (.seq
 (.reg [fa 25 1 6,
 ld 26 25,
 fa 27 1 6,
 ld 28 27,
 ii 29 .len [.t 28],
 ii 30 .mn [.t 29, .c (.p (.int .i64 8))],
 ii 31 (.slc 4 false true) [.t 26, .t 30],
 fa 32 1 6,
 ⟨none, none, .store 1, [.t 32, .t 31]⟩])
 (.seq
 (.seq
 (.reg [mv 33 10,
 ii 34 (.un .not) [.t 33],
 mv 35 34,
 gf 36 35 (.mov false) [.t 3],
 gf 37 35 (.bin .lss) [.t 36, .c (.p (.int .i64 0))],
 ii 38 .pick [.t 35, .c (.p (.bool true)), .t 37],
 mv 39 38,
 gf 40 39 (.mov false) [.t 3],
 gf 41 39 (.bin .gtr) [.t 40, .c (.p (.int .i64 1099511627776))],
 ii 42 .pick [.t 39, .c (.p (.bool true)), .t 41],
 mv 43 42,
 gf 44 43 (.load 5 true false) [.t 4],
 gf 45 43 (.load 4 true false) [.t 5],
 gf 46 43 (.load 2 true false) [.t 6],
 gf 47 43 (.call 27) [.t 44, .t 45, .t 46],
 gf 48 43 (.un .not) [.t 47],
 ii 49 .pick [.t 43, .c (.p (.bool true)), .t 48]])
 (.cond (.t 49)
 (.seq
 (.reg [mc 8 (.bool true)])
 .ret)
 .skip))
 (.seq
 (.reg [mv 50 3,
 mt 11 50])
 (.seq
 (.seq
 (.reg [mc 12 (.int .i64 0)])
 (.block 0
 (.loop [0, 1, 2, 4, 8, 9, 10, 13, 14, 15, 16, 17, 18, 19, 20, 21, 22, 23, 24, 25, 26, 27, 28, 29, 30, 31, 32, 33, 34, 35, 36, 37, 38, 39, 40, 41, 42, 43, 44, 45, 46, 47, 48, 49, 50, 51, 52, 53, 54, 55, 56, 57, 58, 59, 60, 61, 62, 63, 64, 65, 66, 67, 68, 69, 70, 71, 72, 73, 74, 75, 76, 77, 78, 79, 80, 81, 82, 83, 84, 85, 86] []
 (.seq
 (.seq
 (.reg [mv 51 12,
 fa 52 1 6,
 ld 53 52,
 ii 54 .len [.t 53],
 b2 55 .lss 51 54])
 (.cond (.t 55)
 .skip
 (.exit 0)))
 (.seq
 (.block 1
 (.seq
 (.reg [ii 58 (.load 2 true false) [.t 6],
 mv 59 12,
 mv 60 3,
 ii 61 (.call 38) [.t 58, .t 59, .t 60],
 mt 13 61])
 (.seq
 (.seq
 (.reg [mv 62 13,
 mv 63 11,
 b2 64 .leq 62 63,
 mv 65 64,
 gf 66 65 (.mov false) [.t 13],
 gf 67 65 (.mov false) [.t 3],
 gf 68 65 (.fad 1) [.t 5],
 gf 69 65 (.load 1 false false) [.t 68],
 gf 70 65 (.bin .add) [.t 67, .t 69],
 gf 71 65 (.bin .gtr) [.t 66, .t 70],
 ii 72 .pick [.t 65, .c (.p (.bool true)), .t 71]])
 (.cond (.t 72)
 (.seq
 (.reg [mc 8 (.bool false)])
 .ret)
 .skip))
 (.reg [mv 73 13,
 mt 11 73]))))
 (.reg [mv 56 12,
 b1 57 .add 56 (.int .i64 1),
 mt 12 57]))))))
 (.seq
 (.reg [ii 74 (.load 2 true false) [.t 6],
 fa 75 1 6,
 ld 76 75,
 ii 77 .len [.t 76],
 mv 78 3,
 ii 79 (.call 38) [.t 74, .t 77, .t 78],
 b1 80 .eql 79 (.int .i64 0),
 mv 81 80,
 gt 82 81 (.load 2 true false) [.t 6],
 gt 83 81 (.mov false) [.t 3],
 gt 84 81 (.call 38) [.t 82, .c (.p (.int .i64 (-1))), .t 83],
 gt 85 81 (.bin .eql) [.t 84, .c (.p (.int .i64 0))],
 ii 86 .pick [.t 81, .t 85, .c (.p (.bool false))],
 mt 8 86])
 .ret))))))))))⟩
theorem k14 : chkF Tryz.prog 14 F14 = true := by kernel_rfl
theorem law14 (hbeg : PureCall Tryz.prog 18 [] (.p (.bool true))) (c : Cf) (t : Tk) (k : Int) (pn : Bool) (ps : List Pc) (r : Int) : PureCall Tryz.prog 14 [eCf c, eT t, ePl k pn ps, .int .i64 r] (.p (.bool true)) := by
  have hm := maxLen_eq
  obtain ⟨d, L0, hd, h19, -, -, -, -, -⟩ := kept c true []
  have hrl := (cf_head hd).2
  have h21 := one21 d t (by omega)
  have hcut := cut_len t
  generalize t.cut = u at *
  simp only [eCf, eT] at h19 h21
  have hwl : (ps.take 8).length ≤ 8 := by simp; omega
  have hraw : (ps.map eP).take (if (8 : Int) < ((ps.map eP).length : Int) then (8 : Int) else ((ps.map eP).length : Int)).toNat = (ps.take 8).map eP := by rw [mn_take 8 8 rfl, List.map_take]
  have h38 := fun i => dead38 k pn (ps.take 8) i r
  simp only [ePl] at h38
  cases hok : u.ok d.res.length with
  | false =>
    rw [hok] at h21
    refine Fn.run k14 rfl ?_
    generalize Tryz.prog = P at *
    (repeat' ((conv => whnf); first | exact trivial | with_reducible refine zX ?_ | refine ⟨rfl, ?_⟩ | refine ⟨_, rfl, ?_⟩ | with_reducible refine zP ?_ | with_reducible refine zL ?_ | refine ⟨fun _ => ?_, fun _ => ?_⟩ | refine zn ?_ | refine zb rfl ?_ | refine zX ?_ | refine zo rfl ?_ | refine zs ?_ | intro _)); all_goals (try (conv => whnf))
    all_goals rfl
  | true =>
    rw [hok] at h21
    have hlim := lim_of hd hok
    have h27 := may27 d hd u hok k pn (ps.take 8) (by omega)
    simp only [eCf, eT, ePl] at h27
    rw [← hraw] at h27
    by_cases n1 : r < 0
    · have b1 : decide (r < 0) = true := decide_eq_true n1
      refine Fn.run k14 rfl ?_
      generalize Tryz.prog = P at *
      (repeat' ((conv => whnf); first | exact trivial | with_reducible refine zX ?_ | refine ⟨rfl, ?_⟩ | refine ⟨_, rfl, ?_⟩ | with_reducible refine zP ?_ | with_reducible refine zL ?_ | refine ⟨fun _ => ?_, fun _ => ?_⟩ | refine zn ?_ | refine zb rfl ?_ | refine zX ?_ | refine zo rfl ?_ | refine zs ?_ | intro _)); all_goals (try (conv => whnf))
      all_goals rfl
    have b1 : decide (r < 0) = false := decide_eq_false n1
    by_cases n2 : r > 1099511627776
    · have b2 : decide (r > 1099511627776) = true := decide_eq_true n2
      refine Fn.run k14 rfl ?_
      generalize Tryz.prog = P at *
      (repeat' ((conv => whnf); first | exact trivial | with_reducible refine zX ?_ | refine ⟨rfl, ?_⟩ | refine ⟨_, rfl, ?_⟩ | with_reducible refine zP ?_ | with_reducible refine zL ?_ | refine ⟨fun _ => ?_, fun _ => ?_⟩ | refine zn ?_ | refine zb rfl ?_ | refine zX ?_ | refine zo rfl ?_ | refine zs ?_ | intro _)); all_goals (try (conv => whnf))
      all_goals rfl
    have b2 : decide (r > 1099511627776) = false := decide_eq_false n2
    cases hpb : planB d.cores d.lag d.move u.C u.D u.secs.length k (ps.take 8) with
    | false =>
      rw [hpb] at h27
      refine Fn.run k14 rfl ?_
      generalize Tryz.prog = P at *
      (repeat' ((conv => whnf); first | exact trivial | with_reducible refine zX ?_ | refine ⟨rfl, ?_⟩ | refine ⟨_, rfl, ?_⟩ | with_reducible refine zP ?_ | with_reducible refine zL ?_ | refine ⟨fun _ => ?_, fun _ => ?_⟩ | refine zn ?_ | refine zb rfl ?_ | refine zX ?_ | refine zo rfl ?_ | refine zs ?_ | intro _)); all_goals (try (conv => whnf))
      all_goals rfl
    | true =>
      rw [hpb] at h27
      obtain ⟨q1, q2, q3, q4, q5, q6, q7, q8⟩ := planB_iff.1 hpb
      obtain ⟨c1, c2, l1, l2, m1, m2, C1, CD, DT, T2⟩ := hlim
      refine Fn.run k14 rfl ?_
      generalize Tryz.prog = P at *
      (repeat' ((conv => whnf); first | exact trivial | with_reducible refine zX ?_ | refine ⟨rfl, ?_⟩ | refine ⟨_, rfl, ?_⟩ | with_reducible refine zP ?_ | with_reducible refine zL ?_ | refine ⟨fun _ => ?_, fun _ => ?_⟩ | refine zn ?_ | refine zb rfl ?_ | refine zX ?_ | refine zo rfl ?_ | refine zs ?_ | intro _)); all_goals (try (conv => whnf))
      rw [hraw]
      clear h27 hraw
      generalize ps.take 8 = W at *
      have hdl : ∀ (i : Nat) (hi : i < W.length), deadV W i r = r + W[i].off + W[i].len := fun i hi => by
        have := Pc.ok_iff.1 (q1 _ (List.getElem_mem hi))
        unfold deadV
        rw [if_neg (by omega), Int.toNat_natCast, List.getElem?_eq_getElem hi]
        show IntKind.wrap .i64 (IntKind.wrap .i64 (r + W[i].off) + W[i].len) = _
        rw [wrapE (n := r + W[i].off) (by omega) (by omega), wrapE (by omega) (by omega)]
      have he1 : deadV W (W.map eP).length r = 0 := by
        unfold deadV
        rw [if_neg (by omega), Int.toNat_natCast, List.getElem?_eq_none (by simp)]
      have he2 : deadV W (-1) r = 0 := by unfold deadV; rw [if_pos (by omega)]
      refine loop_inv (fun m s => ∃ (i : Nat) (last : Int), m + i = W.length ∧ (i = 0 → last = r) ∧ (∀ (j : Nat) (hj : j < W.length), i = j + 1 → last = r + W[j].off + W[j].len) ∧
        s = ⟨mkT 87 [(3, .p (.int .i64 r)), (5, .addr 1 4 0 0), (6, .addr 2 2 0 0), (11, .p (.int .i64 last)), (12, .p (.int .i64 i))], [some (bCf d true), some (bTk u), some (bPl k pn W)]⟩) W.length ?_ ?_
      · conv => whnf
        exact ⟨0, r, rfl, fun _ => rfl, fun j hj e => by omega, rfl⟩
      · rintro m st bb N ⟨i, last, hi, hl0, hl1, e⟩ hN
        cases e
        by_cases hil : i < W.length
        · have hb := lt_t (n := (W.map eP).length) (i := i) (by simpa using hil)
          have hc38 := h38 (i : Int)
          rw [hdl i hil] at hc38
          have ho := Pc.ok_iff.1 (q1 _ (List.getElem_mem hil))
          have hlt : last < r + W[i].off + W[i].len := by
            cases i with
            | zero => rw [hl0 rfl]; omega
            | succ j =>
              rw [hl1 j (by omega) rfl]
              have := ends_rise l1 q5 q1 j hil
              omega
          have hle := ends_le l1 q5 q1 q7 (W.length - 1 - i) i hil (by omega)
          have d1 : decide (r + W[i].off + W[i].len ≤ last) = false := decide_eq_false (by omega)
          have d2 : decide (r + W[i].off + W[i].len > IntKind.wrap .i64 (r + u.D)) = false := decide_eq_false (by rw [wrapE (by omega) (by omega)]; omega)
          have hstep : ∀ {s : St}, s = ⟨mkT 87 [(3, .p (.int .i64 r)), (5, .addr 1 4 0 0), (6, .addr 2 2 0 0), (11, .p (.int .i64 (r + W[i].off + W[i].len))), (12, .p (.int .i64 (IntKind.wrap .i64 ((i : Int) + 1))))], [some (bCf d true), some (bTk u), some (bPl k pn W)]⟩ → N s := fun e => by
            rw [next1 (n := W.length) hil (by omega)] at e
            exact hN (m - 1) _ (by omega) ⟨i + 1, _, by omega, fun h => by omega, fun j hj h => by
              have : j = i := by omega
              subst this
              rfl, e⟩
          clear hN h38 hl1
          generalize r + W[i].off + W[i].len = v at *
          (repeat' ((conv => whnf); first | exact trivial | with_reducible refine zX ?_ | refine ⟨rfl, ?_⟩ | refine ⟨_, rfl, ?_⟩ | with_reducible refine zP ?_ | with_reducible refine zL ?_ | refine ⟨fun _ => ?_, fun _ => ?_⟩ | refine zn ?_ | refine zb rfl ?_ | refine zX ?_ | refine zo rfl ?_ | refine zs ?_ | intro _)); all_goals (try (conv => whnf))
          exact hstep rfl
        · have hb := lt_f (n := (W.map eP).length) (i := i) (by simpa using hil)
          have ha := h38 ((W.map eP).length : Int)
          have hb38 := h38 (-1)
          rw [he1] at ha
          rw [he2] at hb38
          have z0 : ((0 : Int) == 0) = true := rfl
          clear hN h38 hl1
          (repeat' ((conv => whnf); first | exact trivial | with_reducible refine zX ?_ | refine ⟨rfl, ?_⟩ | refine ⟨_, rfl, ?_⟩ | with_reducible refine zP ?_ | with_reducible refine zL ?_ | refine ⟨fun _ => ?_, fun _ => ?_⟩ | refine zn ?_ | refine zb rfl ?_ | refine zX ?_ | refine zo rfl ?_ | refine zs ?_ | intro _)); all_goals (try (conv => whnf))
          all_goals exact bool_end z0
end Go.Proofs.YtkjghcbnmipgfaaGreatDoor.Vc
