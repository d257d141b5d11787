/- Contract of the law of number 12: it answers true. No condition. -/
import Derived.Test.YtkjghcbnmipgfaaGreatDoorA36
set_option linter.unusedSectionVars false
set_option linter.unusedSimpArgs false
set_option linter.unusedVariables false
set_option maxHeartbeats 4000000
set_option maxRecDepth 100000
namespace Go.Proofs.YtkjghcbnmipgfaaGreatDoor.Vc
open Go.RowKit Ma
def F12 : Fn := ⟨119, 5, [.tmp 6],
 (.seq
 (.reg [ii 3 (.box 0 5) [.t 0],
 ii 5 (.box 1 4) [.t 2],
 mc 6 (.bool false)])
 (.seq
 (.reg [ii 13 (.call 18) [],
 mt 7 13])
 (.seq
 (.seq
 (.reg [mv 14 7,
 ii 15 (.un .not) [.t 14]])
 (.cond (.t 15)
 (.seq
 (.reg [mc 6 (.bool false)])
 .ret)
 .skip))
 (.seq
 (.reg [ii 16 (.load 5 true false) [.t 3],
 ii 17 (.call 19) [.t 16],
 ⟨none, none, .store 5, [.t 3, .t 17]⟩])
 (.seq
 (.reg [ii 19 (.load 5 true false) [.t 3],
 ii 20 (.load 4 true false) [.t 5],
 ii 21 (.call 21) [.t 19, .t 20],
 mv 18 21,
 ii 22 (.ext 0) [.t 18],
 ii 23 (.ext 1) [.t 18],
 ⟨none, none, .store 4, [.t 5, .t 22]⟩,
 mt 8 23])
 (.seq
 (.seq
 (.reg [mv 24 8,
 ii 25 (.un .not) [.t 24]])
 (.cond (.t 25)
 (.seq
 (.reg [mc 6 (.bool true)])
 .ret)
 .skip))
 (.seq
 (.pre [9, 37, 41, 46, 50, 61, 65] [] [2] (.rega [ii 27 (.at 0 (.load 5 true false)) [.t 3],
 ii 28 (.at 0 (.load 5 true false)) [.t 3],
 mv 29 1,
 ii 30 (.pl (.call 20)) [.t 28, .t 29],
 ii 31 (.at 1 (.load 4 true false)) [.t 5],
 ii 32 (.pl (.call 32)) [.t 27, .t 30, .t 31],
 mv 26 32,
 ii 33 (.extp 0) [.t 26],
 ii 34 (.extp 1) [.t 26],
 ⟨some 9, none, .alloc 2 2 [.p (.int .i64 0), .ow 4 true []], []⟩,
 ⟨none, none, .at 2 (.store 2), [.t 9, .t 33]⟩,
 mt 10 34]))
 (.seq
 (.seq
 (.reg [mv 35 10,
 ii 36 (.un .not) [.t 35]])
 (.cond (.t 36)
 (.seq
 (.reg [fa 37 0 9,
 ld 38 37,
 b1 39 .eql 38 (.int .i64 0),
 mv 40 39,
 gt 41 40 (.fad 1) [.t 9],
 gt 42 40 (.load 1 false false) [.t 41],
 gt 43 40 .len [.t 42],
 gt 44 40 (.bin .eql) [.t 43, .c (.p (.int .i64 0))],
 ii 45 .pick [.t 40, .t 44, .c (.p (.bool false))],
 mt 6 45])
 .ret)
 .skip))
 (.seq
 (.seq
 (.reg [fa 46 0 9,
 ld 47 46,
 b1 48 .neq 47 (.int .i64 3),
 mv 49 48,
 gf 50 49 (.fad 1) [.t 9],
 gf 51 49 (.load 1 false false) [.t 50],
 gf 52 49 .len [.t 51],
 gf 53 49 (.bin .neq) [.t 52, .c (.p (.int .i64 2))],
 ii 54 .pick [.t 49, .c (.p (.bool true)), .t 53],
 mv 55 54,
 gf 56 55 (.fad 3) [.t 5],
 gf 57 55 (.load 1 false false) [.t 56],
 gf 58 55 .len [.t 57],
 gf 59 55 (.bin .gtr) [.t 58, .c (.p (.int .i64 0))],
 ii 60 .pick [.t 55, .c (.p (.bool true)), .t 59]])
 (.cond (.t 60)
 (.seq
 (.reg [mc 6 (.bool false)])
 .ret)
 .skip))
 (.seq
 (.pre [11, 12, 69, 71, 75, 80, 82, 87, 89, 97, 99, 107, 109] [] [3, 4] (.rega [fa 61 1 9,
 ii 62 (.at 2 (.load 1 false false)) [.t 61],
 ii 63 (.iad 4) [.t 62, .c (.p (.int .i64 0))],
 ii 64 (.loadp 4 true) [.t 63],
 fa 65 1 9,
 ii 66 (.at 2 (.load 1 false false)) [.t 65],
 ii 67 (.iad 4) [.t 66, .c (.p (.int .i64 1))],
 ii 68 (.loadp 4 true) [.t 67],
 ⟨some 11, none, .alloc 3 4 [.p (.int .i64 0), .p (.int .i64 0), .p (.int .i64 0), .p (.int .i64 0)], []⟩,
 ⟨some 12, none, .alloc 4 4 [.p (.int .i64 0), .p (.int .i64 0), .p (.int .i64 0), .p (.int .i64 0)], []⟩,
 ⟨none, none, .at 3 (.store 4), [.t 11, .t 64]⟩,
 ⟨none, none, .at 4 (.store 4), [.t 12, .t 68]⟩]))
 (.seq
 (.reg [fa 69 0 11,
 ld 70 69,
 fa 71 0 12,
 ld 72 71,
 b2 73 .neq 70 72,
 mv 74 73,
 gt 75 74 (.fad 1) [.t 11],
 gt 76 74 (.load 1 false false) [.t 75],
 gt 77 74 (.bin .eql) [.t 76, .c (.p (.int .i64 0))],
 ii 78 .pick [.t 74, .t 77, .c (.p (.bool false))],
 mv 79 78,
 gt 80 79 (.fad 2) [.t 11],
 gt 81 79 (.load 1 false false) [.t 80],
 gt 82 79 (.fad 3) [.t 11],
 gt 83 79 (.load 1 false false) [.t 82],
 gt 84 79 (.bin .eql) [.t 81, .t 83],
 ii 85 .pick [.t 79, .t 84, .c (.p (.bool false))],
 mv 86 85,
 gt 87 86 (.fad 1) [.t 12],
 gt 88 86 (.load 1 false false) [.t 87],
 gt 89 86 (.fad 3) [.t 11],
 gt 90 86 (.load 1 false false) [.t 89],
 gt 91 86 (.fad 2) [.t 3],
 gt 92 86 (.load 1 false false) [.t 91],
 gt 93 86 (.bin .add) [.t 90, .t 92],
 gt 94 86 (.bin .eql) [.t 88, .t 93],
 ii 95 .pick [.t 86, .t 94, .c (.p (.bool false))],
 mv 96 95,
 gt 97 96 (.fad 1) [.t 12],
 gt 98 96 (.load 1 false false) [.t 97],
 gt 99 96 (.fad 2) [.t 12],
 gt 100 96 (.load 1 false false) [.t 99],
 gt 101 96 (.bin .add) [.t 98, .t 100],
 gt 102 96 (.fad 1) [.t 5],
 gt 103 96 (.load 1 false false) [.t 102],
 gt 104 96 (.bin .eql) [.t 101, .t 103],
 ii 105 .pick [.t 96, .t 104, .c (.p (.bool false))],
 mv 106 105,
 gt 107 106 (.fad 3) [.t 11],
 gt 108 106 (.load 1 false false) [.t 107],
 gt 109 106 (.fad 3) [.t 12],
 gt 110 106 (.load 1 false false) [.t 109],
 gt 111 106 (.bin .add) [.t 108, .t 110],
 gt 112 106 (.fad 0) [.t 5],
 gt 113 106 (.load 1 false false) [.t 112],
 gt 114 106 (.fad 3) [.t 3],
 gt 115 106 (.load 1 false false) [.t 114],
 gt 116 106 (.bin .add) [.t 113, .t 115],
 gt 117 106 (.bin .eql) [.t 111, .t 116],
 ii 118 .pick [.t 106, .t 117, .c (.p (.bool false))],
 mt 6 118])
 .ret)))))))))))⟩
theorem k12 : chkF Tryz.prog 12 F12 = true := by kernel_rfl
theorem law12 (hbeg : PureCall Tryz.prog 18 [] (.p (.bool true))) (c : Cf) (nl : Bool) (ls : LL) (t : Tk) : PureCall Tryz.prog 12 [eCf c, sLL nl ls, eT t] (.p (.bool true)) := by
  have hm := maxLen_eq
  obtain ⟨d, L, hd, h19, h20, hL, hlen, hfew, heach⟩ := kept c nl ls
  have hrl := (cf_head hd).2
  have h21 := one21 d t (by omega)
  have hcut := cut_len t
  generalize t.cut = u at *
  simp only [eCf, eT] at h19 h20 h21
  cases hok : u.ok d.res.length with
  | false =>
    rw [hok] at h21
    refine Fn.run k12 rfl ?_
    generalize Tryz.prog = P at *
    (repeat' ((conv => whnf); first | exact trivial | with_reducible refine zX ?_ | refine ⟨rfl, ?_⟩ | refine ⟨_, rfl, ?_⟩ | with_reducible refine zP ?_ | with_reducible refine zL ?_ | refine ⟨fun _ => ?_, fun _ => ?_⟩ | refine zn ?_ | refine zb rfl ?_ | refine zX ?_ | refine zo rfl ?_ | refine zs ?_ | intro _)); all_goals (try (conv => whnf))
    all_goals first | rfl | exact bool_end hv
  | true =>
    rw [hok] at h21
    have hlim := lim_of hd hok
    have h32 := zero32 d hd u hok false L hL hlen
    have hspec := fun h => zerP_spec (d := d) (t := u) (L := L) h
    generalize zerP d u L = W at *
    simp only [eCf, eT] at h32
    unfold planR at h32
    by_cases hW : W = []
    · rw [if_pos hW] at h32
      simp only [ePl] at h32
      have z1 : ((0 : Int) == 0) = true := rfl
      have z2 : (((([] : List Pc).map eP).length : Int) == 0) = true := rfl
      refine Fn.run k12 rfl ?_
      generalize Tryz.prog = P at *
      (repeat' ((conv => whnf); first | exact trivial | with_reducible refine zX ?_ | refine ⟨rfl, ?_⟩ | refine ⟨_, rfl, ?_⟩ | with_reducible refine zP ?_ | with_reducible refine zL ?_ | refine ⟨fun _ => ?_, fun _ => ?_⟩ | refine zn ?_ | refine zb rfl ?_ | refine zX ?_ | refine zo rfl ?_ | refine zs ?_ | intro _)); all_goals (try (conv => whnf))
      all_goals first | rfl | exact bool_end z2
    rw [if_neg hW] at h32
    obtain ⟨hs, ⟨a, b, x, p1, p2, p3, p4, p5, p6, p7, p8, rfl⟩⟩ := hspec hW
    obtain ⟨c1, c2, l1, l2, m1, m2, C1, CD, DT, T2⟩ := hlim
    simp only [ePl, List.map_cons, List.map_nil, eP] at h32
    have z1 : ((3 : Int) != 3) = false := rfl
    have z2 : ((([PV.agg [.int .i64 a, .int .i64 0, .int .i64 x, .int .i64 x], .agg [.int .i64 b, .int .i64 (x + d.lag), .int .i64 (u.D - x - d.lag), .int .i64 (u.C - x + d.move)]].length : Nat) : Int) != 2) = false := rfl
    have z3 : decide (((u.secs.map eS).length : Int) > 0) = false := decide_eq_false (by rw [hs]; simp)
    have q1 : ((a : Int) != (b : Int)) = true := by simp; omega
    have q2 : ((0 : Int) == 0) = true := rfl
    have q3 : (x == x) = true := by simp
    have q4 : (x + d.lag == IntKind.wrap .i64 (x + d.lag)) = true := by rw [wrapE (by omega) (by omega)]; simp
    have q5 : (IntKind.wrap .i64 (x + d.lag + (u.D - x - d.lag)) == u.D) = true := by rw [wrapE (by omega) (by omega)]; simp; omega
    have q6 : (IntKind.wrap .i64 (x + (u.C - x + d.move)) == IntKind.wrap .i64 (u.C + d.move)) = true := by rw [wrapE (n := x + (u.C - x + d.move)) (by omega) (by omega), wrapE (by omega) (by omega)]; simp; omega
    clear hspec heach
    refine Fn.run k12 rfl ?_
    generalize Tryz.prog = P at *
    (repeat' ((conv => whnf); first | exact trivial | with_reducible refine zX ?_ | refine ⟨rfl, ?_⟩ | refine ⟨_, rfl, ?_⟩ | with_reducible refine zP ?_ | with_reducible refine zL ?_ | refine ⟨fun _ => ?_, fun _ => ?_⟩ | refine zn ?_ | refine zb rfl ?_ | refine zX ?_ | refine zo rfl ?_ | refine zs ?_ | intro _)); all_goals (try (conv => whnf))
    all_goals first | rfl | exact bool_end q6
end Go.Proofs.YtkjghcbnmipgfaaGreatDoor.Vc
