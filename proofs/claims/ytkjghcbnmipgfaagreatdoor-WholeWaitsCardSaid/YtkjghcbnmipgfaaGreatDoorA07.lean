/- Part of a proof over a Go program: Fn1, Fn2, Fn3, Fn4, Fn5. No condition. -/
import Derived.Test.YtkjghcbnmipgfaaGreatDoorA04
import Derived.Test.YtkjghcbnmipgfaaGreatDoorProg
set_option linter.unusedSectionVars false
set_option linter.unusedSimpArgs false
set_option linter.unusedVariables false
namespace Go.Proofs.YtkjghcbnmipgfaaGreatDoor.Vc
open Go.RowKit
def F18 : Fn := ⟨107, 6, [.tmp 0],
 (.seq
 (.reg [mc 0 (.bool false)])
 (.seq
 (.reg [⟨some 12, none, .build [.int .i64 0, .int .i64 0, .int .i64 0, .int .i64 0, .sl 1 true []] [(0, 1), (2, 1), (3, 1)], [.c (.p (.int .i64 2)), .c (.p (.int .i64 1)), .c (.p (.int .i64 1))]⟩,
 ⟨some 1, none, .alloc 0 5 [.p (.int .i64 0), .p (.int .i64 0), .p (.int .i64 0), .p (.int .i64 0), .ow 1 true []], []⟩,
 ⟨none, none, .store 5, [.t 1, .t 12]⟩])
 (.seq
 (.reg [⟨some 13, none, .build [.int .i64 0, .int .i64 0, .int .i64 0] [(0, 1), (1, 1), (2, 1)], [.c (.p (.int .i64 6)), .c (.p (.int .i64 10)), .c (.p (.int .i64 10))]⟩,
 ii 14 (.bsl 3 1) [.t 13],
 ⟨some 15, none, .build [.int .i64 0, .int .i64 0, .int .i64 0] [(0, 1), (1, 1), (2, 1)], [.c (.p (.int .i64 6)), .c (.p (.int .i64 10)), .c (.p (.int .i64 10))]⟩,
 ii 16 (.bsl 3 1) [.t 15],
 ii 17 (.bsl 1 2) [.t 14, .t 16],
 mt 2 17])
 (.seq
 (.reg [⟨some 18, none, .build [.int .i64 0, .int .i64 0, .int .i64 0, .sl 3 true []] [(0, 1), (1, 1), (2, 1)], [.c (.p (.int .i64 5)), .c (.p (.int .i64 10)), .c (.p (.int .i64 10))]⟩,
 ⟨some 3, none, .alloc 1 4 [.p (.int .i64 0), .p (.int .i64 0), .p (.int .i64 0), .ow 3 true []], []⟩,
 ⟨none, none, .store 4, [.t 3, .t 18]⟩])
 (.seq
 (.reg [mv 20 2,
 ii 21 (.load 4 true false) [.t 3],
 ii 22 (.call 22) [.t 20, .t 21, .c (.p (.int .i64 0))],
 mv 19 22,
 ii 23 (.ext 0) [.t 19],
 ii 24 (.ext 1) [.t 19],
 ⟨some 4, none, .alloc 2 2 [.p (.int .i64 0), .ow 4 true []], []⟩,
 ⟨none, none, .store 2, [.t 4, .t 23]⟩,
 mt 5 24])
 (.seq
 (.reg [ii 26 (.bsl 1 2) [.c (.ow 3 true []), .c (.ow 3 true [])],
 ii 27 (.load 4 true false) [.t 3],
 ii 28 (.call 22) [.t 26, .t 27, .c (.p (.int .i64 1))],
 mv 25 28,
 ii 29 (.ext 0) [.t 25],
 ii 30 (.ext 1) [.t 25],
 ⟨some 6, none, .alloc 3 2 [.p (.int .i64 0), .ow 4 true []], []⟩,
 ⟨none, none, .store 2, [.t 6, .t 29]⟩,
 mt 7 30])
 (.seq
 (.reg [ii 32 (.load 5 true false) [.t 1],
 mv 33 2,
 ii 34 (.load 4 true false) [.t 3],
 ii 35 (.call 28) [.t 32, .t 33, .t 34],
 mv 31 35,
 ii 36 (.ext 0) [.t 31],
 ii 37 (.ext 1) [.t 31],
 ⟨some 8, none, .alloc 4 2 [.p (.int .i64 0), .ow 4 true []], []⟩,
 ⟨none, none, .store 2, [.t 8, .t 36]⟩,
 mt 9 37])
 (.seq
 (.reg [ii 39 (.load 5 true false) [.t 1],
 mv 40 2,
 ⟨some 41, none, .build [.int .i64 0, .int .i64 0, .int .i64 0, .sl 3 true []] [(0, 1), (1, 1), (2, 1)], [.c (.p (.int .i64 5)), .c (.p (.int .i64 20)), .c (.p (.int .i64 20))]⟩,
 ii 42 (.call 32) [.t 39, .t 40, .t 41],
 mv 38 42,
 ii 43 (.ext 0) [.t 38],
 ii 44 (.ext 1) [.t 38],
 ⟨some 10, none, .alloc 5 2 [.p (.int .i64 0), .ow 4 true []], []⟩,
 ⟨none, none, .store 2, [.t 10, .t 43]⟩,
 mt 11 44])
 (.seq
 (.reg [ii 45 (.call 40) [],
 mv 46 45,
 gt 47 46 (.mov false) [.t 5],
 gt 48 46 (.un .not) [.t 47],
 ii 49 .pick [.t 46, .t 48, .c (.p (.bool false))],
 mv 50 49,
 gt 51 50 (.mov false) [.t 7],
 ii 52 .pick [.t 50, .t 51, .c (.p (.bool false))],
 mv 53 52,
 gt 54 53 (.fad 0) [.t 6],
 gt 55 53 (.load 1 false false) [.t 54],
 gt 56 53 (.bin .eql) [.t 55, .c (.p (.int .i64 1))],
 ii 57 .pick [.t 53, .t 56, .c (.p (.bool false))],
 mv 58 57,
 gt 59 58 (.fad 1) [.t 6],
 gt 60 58 (.load 1 false false) [.t 59],
 gt 61 58 .len [.t 60],
 gt 62 58 (.bin .eql) [.t 61, .c (.p (.int .i64 1))],
 ii 63 .pick [.t 58, .t 62, .c (.p (.bool false))],
 mv 64 63,
 gt 65 64 (.mov false) [.t 9],
 gt 66 64 (.load 5 true false) [.t 1],
 gt 67 64 (.load 4 true false) [.t 3],
 gt 68 64 (.load 2 true false) [.t 8],
 gt 69 64 (.call 27) [.t 66, .t 67, .t 68],
 gt 70 64 (.eqb false) [.t 65, .t 69],
 ii 71 .pick [.t 64, .t 70, .c (.p (.bool false))],
 mv 72 71,
 gt 73 72 (.mov false) [.t 11],
 gt 74 72 (.load 5 true false) [.t 1],
 ⟨some 75, (some (72, true)), .build [.int .i64 0, .int .i64 0, .int .i64 0, .sl 3 true []] [(0, 1), (1, 1), (2, 1)], [.c (.p (.int .i64 5)), .c (.p (.int .i64 20)), .c (.p (.int .i64 20))]⟩,
 gt 76 72 (.load 2 true false) [.t 10],
 gt 77 72 (.call 27) [.t 74, .t 75, .t 76],
 gt 78 72 (.eqb false) [.t 73, .t 77],
 ii 79 .pick [.t 72, .t 78, .c (.p (.bool false))],
 mv 80 79,
 gt 81 80 (.load 5 true false) [.t 1],
 gt 82 80 (.load 4 true false) [.t 3],
 gt 83 80 (.call 30) [.t 81, .t 82, .c (.p (.int .i64 2))],
 gt 84 80 (.bin .eql) [.t 83, .c (.p (.int .i64 4))],
 ii 85 .pick [.t 80, .t 84, .c (.p (.bool false))],
 mv 86 85,
 gt 87 86 (.load 2 true false) [.t 6],
 gt 88 86 (.call 35) [.t 87],
 gt 89 86 (.bin .eql) [.t 88, .c (.p (.int .i64 5))],
 ii 90 .pick [.t 86, .t 89, .c (.p (.bool false))],
 mv 91 90,
 gt 92 91 (.load 2 true false) [.t 6],
 gt 93 91 (.call 38) [.t 92, .c (.p (.int .i64 0)), .c (.p (.int .i64 7))],
 gt 94 91 (.bin .eql) [.t 93, .c (.p (.int .i64 17))],
 ii 95 .pick [.t 91, .t 94, .c (.p (.bool false))],
 mv 96 95,
 gt 97 96 (.load 2 true false) [.t 6],
 gt 98 96 (.load 2 true false) [.t 6],
 gt 99 96 (.call 37) [.t 97, .t 98],
 ii 100 .pick [.t 96, .t 99, .c (.p (.bool false))],
 mv 101 100,
 gt 102 101 (.mov false) [.t 2],
 ⟨some 103, (some (101, true)), .build [.int .i64 0, .int .i64 0, .int .i64 0] [(0, 1), (1, 1), (2, 1)], [.c (.p (.int .i64 1)), .c (.p (.int .i64 10)), .c (.p (.int .i64 10))]⟩,
 gt 104 101 (.call 25) [.t 102, .t 103],
 gt 105 101 (.bin .eql) [.t 104, .c (.p (.int .i64 0))],
 ii 106 .pick [.t 101, .t 105, .c (.p (.bool false))],
 mt 0 106])
 .ret)))))))))⟩
theorem k18 : chkF Tryz.prog 18 F18 = true := by kernel_rfl
def F19 : Fn := ⟨10, 2, [.cell 2 5],
 (.seq
 (.reg [ii 1 (.box 0 5) [.t 0],
 ⟨some 2, none, .alloc 1 5 [.p (.int .i64 0), .p (.int .i64 0), .p (.int .i64 0), .p (.int .i64 0), .ow 1 true []], []⟩])
 (.seq
 (.seq
 (.reg [ii 3 (.load 5 true false) [.t 1],
 ii 4 (.call 41) [.t 3],
 ⟨none, none, .store 5, [.t 1, .t 4]⟩])
 (.seq
 (.reg [ii 5 (.load 5 true false) [.t 1],
 ii 6 (.call 42) [.t 5]])
 (.cond (.t 6)
 (.seq
 (.reg [ii 7 (.load 5 true false) [.t 1],
 ⟨none, none, .store 5, [.t 2, .t 7]⟩])
 .ret)
 .skip)))
 (.seq
 (.reg [ii 8 (.bsl 1 1) [.c (.p (.int .i64 0))],
 ⟨some 9, none, .build [.int .i64 0, .int .i64 0, .int .i64 0, .int .i64 0, .sl 1 true []] [(0, 1), (1, 1), (2, 1), (3, 1), (4, 1)], [.c (.p (.int .i64 2)), .c (.p (.int .i64 1)), .c (.p (.int .i64 1)), .c (.p (.int .i64 1)), .t 8]⟩,
 ⟨none, none, .store 5, [.t 2, .t 9]⟩])
 .ret)))⟩
theorem k19 : chkF Tryz.prog 19 F19 = true := by kernel_rfl
def F20 : Fn := ⟨35, 2, [.tmp 4],
 (.seq
 (.reg [ii 2 (.box 0 5) [.t 0],
 ii 4 (.mov true) [.c (.ow 1 true [])]])
 (.seq
 (.reg [fa 8 0 2,
 ld 9 8,
 ⟨some 10, none, .mksl 1 1 24 false [.ow 3 true []], [.t 9, .t 9]⟩,
 mt 5 10])
 (.seq
 (.seq
 (.reg [mc 6 (.int .i64 0)])
 (.block 0
 (.loop [0, 4, 7, 8, 9, 10, 11, 12, 13, 14, 15, 16, 17, 18, 19, 20, 21, 22, 23, 24, 25, 26, 27, 28, 29, 30, 31, 32, 33, 34] []
 (.seq
 (.seq
 (.reg [mv 11 6,
 fa 12 0 2,
 ld 13 12,
 b2 14 .lss 11 13,
 mv 15 14,
 gt 16 15 (.mov false) [.t 6],
 gt 17 15 (.mov false) [.t 1],
 gt 18 15 .len [.t 17],
 gt 19 15 (.bin .lss) [.t 16, .t 18],
 ii 20 .pick [.t 15, .t 19, .c (.p (.bool false))]])
 (.cond (.t 20)
 .skip
 (.exit 0)))
 (.seq
 (.block 1
 (.seq
 (.reg [mv 23 1,
 mv 24 6,
 ii 25 (.iad 1) [.t 23, .t 24],
 ld 26 25,
 ii 27 (.call 39) [.t 26],
 mt 7 27])
 (.seq
 (.reg [mv 28 7,
 ii 29 (.call 34) [.t 28]])
 (.cond (.t 29)
 (.reg [mv 30 5,
 mv 31 6,
 mv 32 7,
 ii 33 (.iad 1) [.t 30, .t 31],
 ⟨none, none, .store 1, [.t 33, .t 32]⟩])
 .skip))))
 (.reg [mv 21 6,
 b1 22 .add 21 (.int .i64 1),
 mt 6 22]))))))
 (.seq
 (.reg [mv 34 5,
 mt 4 34])
 (.pre [] [1] [] .ret)))))⟩
theorem k20 : chkF Tryz.prog 20 F20 = true := by kernel_rfl
def F21 : Fn := ⟨12, 3, [.cell 4 4, .tmp 5],
 (.seq
 (.reg [ii 2 (.box 0 5) [.t 0],
 ii 3 (.box 1 4) [.t 1],
 ⟨some 4, none, .alloc 2 4 [.p (.int .i64 0), .p (.int .i64 0), .p (.int .i64 0), .ow 3 true []], []⟩,
 mc 5 (.bool false)])
 (.seq
 (.reg [ii 6 (.load 4 true false) [.t 3],
 ii 7 (.call 43) [.t 6],
 ⟨none, none, .store 4, [.t 3, .t 7]⟩])
 (.seq
 (.regd [ii 8 (.at 1 (.load 4 true false)) [.t 3],
 ii 9 (.at 0 (.load 5 true false)) [.t 2],
 ii 10 (.at 1 (.load 4 true false)) [.t 3],
 ii 11 (.pl (.call 44)) [.t 9, .t 10],
 ⟨none, none, .at 2 (.store 4), [.t 4, .t 8]⟩,
 mt 5 11])
 .ret)))⟩
theorem k21 : chkF Tryz.prog 21 F21 = true := by kernel_rfl
def F22 : Fn := ⟨31, 2, [.cell 6 2, .tmp 7],
 (.seq
 (.reg [ii 4 (.box 0 4) [.t 1],
 ⟨some 6, none, .alloc 1 2 [.p (.int .i64 0), .ow 4 true []], []⟩,
 mc 7 (.bool false)])
 (.seq
 (.reg [mv 9 0,
 fa 10 0 4,
 ld 11 10,
 mv 12 2,
 b2 13 .add 11 12,
 fa 14 1 4,
 ld 15 14,
 fa 16 2 4,
 ld 17 16,
 ⟨some 18, none, .build [.int .i64 0, .int .i64 0, .int .i64 0] [(0, 1), (1, 1), (2, 1)], [.t 13, .t 15, .t 17]⟩,
 ii 19 (.call 25) [.t 9, .t 18],
 mt 8 19])
 (.seq
 (.seq
 (.reg [mv 20 8,
 b1 21 .lss 20 (.int .i64 0)])
 (.cond (.t 21)
 (.seq
 (.reg [⟨some 22, none, .build [.int .i64 0, .sl 4 true []] [], []⟩,
 ⟨none, none, .store 2, [.t 6, .t 22]⟩,
 mc 7 (.bool false)])
 .ret)
 .skip))
 (.seq
 (.reg [mv 23 8,
 fa 24 1 4,
 ld 25 24,
 fa 26 0 4,
 ld 27 26,
 ⟨some 28, none, .build [.int .i64 0, .int .i64 0, .int .i64 0, .int .i64 0] [(0, 1), (2, 1), (3, 1)], [.t 23, .t 25, .t 27]⟩,
 ii 29 (.bsl 4 1) [.t 28],
 ⟨some 30, none, .build [.int .i64 0, .sl 4 true []] [(0, 1), (1, 1)], [.c (.p (.int .i64 1)), .t 29]⟩,
 ⟨none, none, .store 2, [.t 6, .t 30]⟩,
 mc 7 (.bool true)])
 .ret))))⟩
theorem k22 : chkF Tryz.prog 22 F22 = true := by kernel_rfl
def F23 : Fn := ⟨31, 2, [.cell 6 2, .tmp 7],
 (.seq
 (.reg [ii 4 (.box 0 4) [.t 1],
 ⟨some 6, none, .alloc 1 2 [.p (.int .i64 0), .ow 4 true []], []⟩,
 mc 7 (.bool false)])
 (.seq
 (.reg [mv 9 0,
 fa 10 0 4,
 ld 11 10,
 mv 12 2,
 b2 13 .add 11 12,
 fa 14 1 4,
 ld 15 14,
 fa 16 2 4,
 ld 17 16,
 ⟨some 18, none, .build [.int .i64 0, .int .i64 0, .int .i64 0] [(0, 1), (1, 1), (2, 1)], [.t 13, .t 15, .t 17]⟩,
 ii 19 (.call 26) [.t 9, .t 18],
 mt 8 19])
 (.seq
 (.seq
 (.reg [mv 20 8,
 b1 21 .lss 20 (.int .i64 0)])
 (.cond (.t 21)
 (.seq
 (.reg [⟨some 22, none, .build [.int .i64 0, .sl 4 true []] [], []⟩,
 ⟨none, none, .store 2, [.t 6, .t 22]⟩,
 mc 7 (.bool false)])
 .ret)
 .skip))
 (.seq
 (.reg [mv 23 8,
 fa 24 1 4,
 ld 25 24,
 fa 26 0 4,
 ld 27 26,
 ⟨some 28, none, .build [.int .i64 0, .int .i64 0, .int .i64 0, .int .i64 0] [(0, 1), (2, 1), (3, 1)], [.t 23, .t 25, .t 27]⟩,
 ii 29 (.bsl 4 1) [.t 28],
 ⟨some 30, none, .build [.int .i64 0, .sl 4 true []] [(0, 1), (1, 1)], [.c (.p (.int .i64 1)), .t 29]⟩,
 ⟨none, none, .store 2, [.t 6, .t 30]⟩,
 mc 7 (.bool true)])
 .ret))))⟩
theorem k23 : chkF Tryz.prog 23 F23 = true := by kernel_rfl
def F24 : Fn := ⟨38, 2, [.tmp 4],
 (.seq
 (.reg [ii 2 (.box 0 2) [.t 0],
 ii 3 (.box 1 2) [.t 1],
 mc 4 (.bool false)])
 (.seq
 (.seq
 (.reg [fa 6 0 2,
 ld 7 6,
 fa 8 0 3,
 ld 9 8,
 b2 10 .neq 7 9,
 mv 11 10,
 gf 12 11 (.fad 1) [.t 2],
 gf 13 11 (.load 1 false false) [.t 12],
 gf 14 11 .len [.t 13],
 gf 15 11 (.fad 1) [.t 3],
 gf 16 11 (.load 1 false false) [.t 15],
 gf 17 11 .len [.t 16],
 gf 18 11 (.bin .neq) [.t 14, .t 17],
 ii 19 .pick [.t 11, .c (.p (.bool true)), .t 18]])
 (.cond (.t 19)
 (.seq
 (.reg [mc 4 (.bool false)])
 .ret)
 .skip))
 (.seq
 (.seq
 (.reg [mc 5 (.int .i64 0)])
 (.block 0
 (.loop [0, 1, 4, 6, 7, 8, 9, 10, 11, 12, 13, 14, 15, 16, 17, 18, 19, 20, 21, 22, 23, 24, 25, 26, 27, 28, 29, 30, 31, 32, 33, 34, 35, 36, 37] []
 (.seq
 (.seq
 (.reg [mv 20 5,
 fa 21 1 2,
 ld 22 21,
 ii 23 .len [.t 22],
 b2 24 .lss 20 23])
 (.cond (.t 24)
 .skip
 (.exit 0)))
 (.seq
 (.block 1
 (.seq
 (.regd [fa 27 1 2,
 ii 28 (.at 0 (.load 1 false false)) [.t 27],
 mv 29 5,
 ii 30 (.iad 4) [.t 28, .t 29],
 ii 31 (.loadp 4 true) [.t 30],
 fa 32 1 3,
 ii 33 (.at 1 (.load 1 false false)) [.t 32],
 mv 34 5,
 ii 35 (.iad 4) [.t 33, .t 34],
 ii 36 (.loadp 4 true) [.t 35],
 ii 37 (.eqs 4 true) [.t 31, .t 36]])
 (.cond (.t 37)
 (.seq
 (.reg [mc 4 (.bool false)])
 .ret)
 .skip)))
 (.reg [mv 25 5,
 b1 26 .add 25 (.int .i64 1),
 mt 5 26]))))))
 (.seq
 (.reg [mc 4 (.bool true)])
 .ret))))⟩
theorem k24 : chkF Tryz.prog 24 F24 = true := by kernel_rfl
def F25 : Fn := ⟨8, 1, [.tmp 4],
 (.seq
 (.reg [ii 3 (.box 0 3) [.t 1],
 mc 4 (.int .i64 0)])
 (.seq
 (.pre [] [0] [] (.reg [mv 5 0,
 ii 6 (.mkfn 46) [.t 3],
 ii 7 (.call 45) [.t 5, .t 6],
 mt 4 7]))
 .ret))⟩
theorem k25 : chkF Tryz.prog 25 F25 = true := by kernel_rfl
end Go.Proofs.YtkjghcbnmipgfaaGreatDoor.Vc
namespace Go.Proofs.YtkjghcbnmipgfaaGreatDoor.Vc
open Go.RowKit
def F26 : Fn := ⟨20, 1, [.tmp 4],
 (.seq
 (.reg [ii 3 (.box 0 3) [.t 1],
 mc 4 (.int .i64 0)])
 (.seq
 (.seq
 (.reg [mc 5 (.int .i64 0)])
 (.block 0
 (.loop [1, 4, 6, 7, 8, 9, 10, 11, 12, 13, 14, 15, 16, 17, 18, 19] []
 (.seq
 (.seq
 (.reg [mv 6 5,
 mv 7 0,
 ii 8 .len [.t 7],
 b2 9 .lss 6 8])
 (.cond (.t 9)
 .skip
 (.exit 0)))
 (.seq
 (.block 1
 (.seq
 (.regd [mv 12 0,
 mv 13 5,
 ii 14 (.iad 1) [.t 12, .t 13],
 ii 15 (.loadp 1 false) [.t 14],
 ii 16 (.at 0 (.load 3 true false)) [.t 3],
 ii 17 (.pl (.call 49)) [.t 15, .t 16],
 ii 18 (.pl (.call 34)) [.t 17]])
 (.cond (.t 18)
 (.seq
 (.reg [mv 19 5,
 mt 4 19])
 .ret)
 .skip)))
 (.reg [mv 10 5,
 b1 11 .add 10 (.int .i64 1),
 mt 5 11]))))))
 (.seq
 (.reg [mc 4 (.int .i64 (-1))])
 .ret)))⟩
theorem k26 : chkF Tryz.prog 26 F26 = true := by kernel_rfl
def F27 : Fn := ⟨89, 3, [.tmp 6],
 (.seq
 (.reg [ii 3 (.box 0 5) [.t 0],
 ii 4 (.box 1 4) [.t 1],
 ii 5 (.box 2 2) [.t 2],
 mc 6 (.bool false)])
 (.seq
 (.seq
 (.reg [ii 8 (.load 5 true false) [.t 3],
 ii 9 (.call 50) [.t 8],
 ii 10 (.un .not) [.t 9],
 mv 11 10,
 gf 12 11 (.load 5 true false) [.t 3],
 gf 13 11 (.load 4 true false) [.t 4],
 gf 14 11 (.call 51) [.t 12, .t 13],
 gf 15 11 (.un .not) [.t 14],
 ii 16 .pick [.t 11, .c (.p (.bool true)), .t 15],
 mv 17 16,
 gf 18 17 (.load 5 true false) [.t 3],
 gf 19 17 (.load 2 true false) [.t 5],
 gf 20 17 (.call 52) [.t 18, .t 19],
 gf 21 17 (.un .not) [.t 20],
 ii 22 .pick [.t 17, .c (.p (.bool true)), .t 21]])
 (.cond (.t 22)
 (.seq
 (.reg [mc 6 (.bool false)])
 .ret)
 .skip))
 (.seq
 (.reg [fa 23 1 5,
 ld 24 23,
 ii 25 .len [.t 24],
 mt 7 25])
 (.seq
 (.seq
 (.reg [fa 26 0 5,
 ld 27 26])
 (.block 0
 (.seq
 (.reg [b1 29 .eql 27 (.int .i64 1),
 mt 28 29])
 (.cond (.t 28)
 (.seq
 (.regd [mv 30 7,
 b1 31 .eql 30 (.int .i64 1),
 mv 32 31,
 gt 33 32 (.fad 1) [.t 5],
 gt 34 32 (.at 2 (.load 1 false false)) [.t 33],
 gt 35 32 (.iad 4) [.t 34, .c (.p (.int .i64 0))],
 gt 36 32 (.fad 1) [.t 35],
 gt 37 32 (.loadp 1 false) [.t 36],
 gt 38 32 (.bin .eql) [.t 37, .c (.p (.int .i64 0))],
 ii 39 .pick [.t 32, .t 38, .c (.p (.bool false))],
 mv 40 39,
 gt 41 40 (.fad 1) [.t 5],
 gt 42 40 (.at 2 (.load 1 false false)) [.t 41],
 gt 43 40 (.iad 4) [.t 42, .c (.p (.int .i64 0))],
 gt 44 40 (.fad 2) [.t 43],
 gt 45 40 (.loadp 1 false) [.t 44],
 gt 46 40 (.fad 1) [.t 4],
 gt 47 40 (.at 1 (.load 1 false false)) [.t 46],
 gt 48 40 (.bin .eql) [.t 45, .t 47],
 ii 49 .pick [.t 40, .t 48, .c (.p (.bool false))],
 mv 50 49,
 gt 51 50 (.fad 1) [.t 5],
 gt 52 50 (.at 2 (.load 1 false false)) [.t 51],
 gt 53 50 (.iad 4) [.t 52, .c (.p (.int .i64 0))],
 gt 54 50 (.fad 3) [.t 53],
 gt 55 50 (.loadp 1 false) [.t 54],
 gt 56 50 (.fad 0) [.t 4],
 gt 57 50 (.at 1 (.load 1 false false)) [.t 56],
 gt 58 50 (.bin .eql) [.t 55, .t 57],
 ii 59 .pick [.t 50, .t 58, .c (.p (.bool false))],
 mt 6 59])
 .ret)
 (.seq
 (.reg [b1 61 .eql 27 (.int .i64 2),
 mt 60 61])
 (.cond (.t 60)
 (.seq
 (.reg [ii 62 (.load 5 true false) [.t 3],
 ii 63 (.load 4 true false) [.t 4],
 ii 64 (.load 2 true false) [.t 5],
 ii 65 (.call 53) [.t 62, .t 63, .t 64],
 mt 6 65])
 .ret)
 (.seq
 (.reg [b1 67 .eql 27 (.int .i64 3),
 mt 66 67])
 (.cond (.t 66)
 (.seq
 (.regd [ii 68 (.at 0 (.load 5 true false)) [.t 3],
 ii 69 (.at 1 (.load 4 true false)) [.t 4],
 ii 70 (.at 2 (.load 2 true false)) [.t 5],
 ii 71 (.pl (.call 53)) [.t 68, .t 69, .t 70],
 mv 72 71,
 gt 73 72 (.mov false) [.t 7],
 gt 74 72 (.bin .eql) [.t 73, .c (.p (.int .i64 2))],
 ii 75 .pick [.t 72, .t 74, .c (.p (.bool false))],
 mv 76 75,
 gt 77 76 (.fad 1) [.t 5],
 gt 78 76 (.at 2 (.load 1 false false)) [.t 77],
 gt 79 76 (.iad 4) [.t 78, .c (.p (.int .i64 0))],
 gt 80 76 (.fad 2) [.t 79],
 gt 81 76 (.loadp 1 false) [.t 80],
 gt 82 76 (.fad 1) [.t 5],
 gt 83 76 (.at 2 (.load 1 false false)) [.t 82],
 gt 84 76 (.iad 4) [.t 83, .c (.p (.int .i64 0))],
 gt 85 76 (.fad 3) [.t 84],
 gt 86 76 (.loadp 1 false) [.t 85],
 gt 87 76 (.bin .eql) [.t 81, .t 86],
 ii 88 .pick [.t 76, .t 87, .c (.p (.bool false))],
 mt 6 88])
 .ret)
 .skip))))))))
 (.seq
 (.reg [mc 6 (.bool false)])
 .ret)))))⟩
theorem k27 : chkF Tryz.prog 27 F27 = true := by kernel_rfl
def F28 : Fn := ⟨64, 3, [.cell 6 2, .tmp 7],
 (.seq
 (.reg [ii 3 (.box 0 5) [.t 0],
 ii 5 (.box 1 4) [.t 2],
 ⟨some 6, none, .alloc 2 2 [.p (.int .i64 0), .ow 4 true []], []⟩,
 mc 7 (.bool false)])
 (.seq
 (.seq
 (.reg [ii 12 (.load 5 true false) [.t 3],
 ii 13 (.call 50) [.t 12],
 ii 14 (.un .not) [.t 13],
 mv 15 14,
 gf 16 15 (.load 5 true false) [.t 3],
 gf 17 15 (.load 4 true false) [.t 5],
 gf 18 15 (.call 51) [.t 16, .t 17],
 gf 19 15 (.un .not) [.t 18],
 ii 20 .pick [.t 15, .c (.p (.bool true)), .t 19],
 mv 21 20,
 gf 22 21 (.fad 3) [.t 5],
 gf 23 21 (.load 1 false false) [.t 22],
 gf 24 21 .len [.t 23],
 gf 25 21 (.bin .gtr) [.t 24, .c (.p (.int .i64 0))],
 ii 26 .pick [.t 21, .c (.p (.bool true)), .t 25],
 mv 27 26,
 gf 28 27 (.mov false) [.t 1],
 gf 29 27 .len [.t 28],
 gf 30 27 (.fad 0) [.t 3],
 gf 31 27 (.load 1 false false) [.t 30],
 gf 32 27 (.bin .neq) [.t 29, .t 31],
 ii 33 .pick [.t 27, .c (.p (.bool true)), .t 32]])
 (.cond (.t 33)
 (.seq
 (.reg [⟨some 34, none, .build [.int .i64 0, .sl 4 true []] [], []⟩,
 ⟨none, none, .store 2, [.t 6, .t 34]⟩,
 mc 7 (.bool false)])
 .ret)
 .skip))
 (.seq
 (.seq
 (.reg [mc 8 (.int .i64 2)])
 (.block 0
 (.loop [0, 2, 7, 9, 10, 11, 12, 13, 14, 15, 16, 17, 18, 19, 20, 21, 22, 23, 24, 25, 26, 27, 28, 29, 30, 31, 32, 33, 34, 35, 36, 37, 38, 39, 40, 41, 42, 43, 44, 45, 46, 47, 48, 49, 50, 51, 52, 53, 54, 55, 56, 57, 58, 59, 60, 61, 62, 63] []
 (.seq
 (.seq
 (.reg [mv 35 8,
 fa 36 0 3,
 ld 37 36,
 b2 38 .leq 35 37])
 (.cond (.t 38)
 .skip
 (.exit 0)))
 (.seq
 (.block 1
 (.seq
 (.reg [ii 41 (.load 5 true false) [.t 3],
 ii 42 (.load 4 true false) [.t 5],
 mv 43 8,
 ii 44 (.call 30) [.t 41, .t 42, .t 43],
 mt 9 44])
 (.seq
 (.seq
 (.reg [mv 45 9,
 b1 46 .eql 45 (.int .i64 0)])
 (.cond (.t 46)
 (.exit 0)
 .skip))
 (.seq
 (.regd [ii 48 (.at 0 (.load 5 true false)) [.t 3],
 ii 49 (.at 1 (.load 4 true false)) [.t 5],
 mv 50 9,
 ii 51 (.at 0 (.load 5 true false)) [.t 3],
 mv 52 1,
 ii 53 (.at 1 (.load 4 true false)) [.t 5],
 mv 54 8,
 mv 55 9,
 ii 56 (.pl (.call 55)) [.t 51, .t 52, .t 53, .t 54, .t 55],
 ii 57 (.pl (.call 54)) [.t 48, .t 49, .t 50, .t 56],
 mv 47 57,
 ii 58 (.extp 0) [.t 47],
 ii 59 (.extp 1) [.t 47],
 mt 10 58,
 mt 11 59])
 (.seq
 (.reg [mv 60 11])
 (.cond (.t 60)
 (.seq
 (.reg [mv 61 10,
 ⟨some 62, none, .build [.int .i64 0, .sl 4 true []] [(0, 1), (1, 1)], [.c (.p (.int .i64 2)), .t 61]⟩,
 ⟨none, none, .store 2, [.t 6, .t 62]⟩,
 mc 7 (.bool true)])
 .ret)
 .skip))))))
 (.reg [mv 39 8,
 b1 40 .add 39 (.int .i64 1),
 mt 8 40]))))))
 (.seq
 (.reg [⟨some 63, none, .build [.int .i64 0, .sl 4 true []] [], []⟩,
 ⟨none, none, .store 2, [.t 6, .t 63]⟩,
 mc 7 (.bool false)])
 .ret))))⟩
theorem k28 : chkF Tryz.prog 28 F28 = true := by kernel_rfl
def F29 : Fn := ⟨125, 4, [.cell 6 2, .tmp 7],
 (.seq
 (.reg [ii 3 (.box 0 5) [.t 0],
 ii 5 (.box 1 4) [.t 2],
 ⟨some 6, none, .alloc 2 2 [.p (.int .i64 0), .ow 4 true []], []⟩,
 mc 7 (.bool false)])
 (.seq
 (.seq
 (.reg [mc 8 (.int .i64 2)])
 (.block 0
 (.loop [0, 2, 7, 9, 10, 11, 12, 13, 14, 15, 16, 17, 18, 19, 20, 21, 22, 23, 24, 25, 26, 27, 28, 29, 30, 31, 32, 33, 34, 35, 36, 37, 38, 39, 40, 41, 42, 43, 44, 45, 46, 47, 48, 49, 50, 51, 52, 53, 54, 55, 56, 57, 58, 59, 60, 61, 62, 63, 64, 65, 66, 67, 68, 69, 70, 71, 72, 73, 74, 75, 76, 77, 78, 79, 80, 81, 82, 83, 84, 85, 86, 87, 88, 89, 90, 91, 92, 93, 94, 95, 96, 97, 98, 99, 100, 101, 102, 103, 104, 105, 106, 107, 108, 109, 110, 111, 112, 113, 114, 115, 116, 117, 118, 119, 120, 121, 122, 123, 124] [3]
 (.seq
 (.seq
 (.reg [mv 18 8,
 fa 19 0 3,
 ld 20 19,
 b2 21 .leq 18 20,
 mv 22 21,
 gt 23 22 (.fad 3) [.t 5],
 gt 24 22 (.load 1 false false) [.t 23],
 gt 25 22 .len [.t 24],
 gt 26 22 (.bin .eql) [.t 25, .c (.p (.int .i64 0))],
 ii 27 .pick [.t 22, .t 26, .c (.p (.bool false))]])
 (.cond (.t 27)
 .skip
 (.exit 0)))
 (.seq
 (.block 1
 (.seq
 (.reg [ii 30 (.load 5 true false) [.t 3],
 ii 31 (.load 4 true false) [.t 5],
 mv 32 8,
 ii 33 (.call 31) [.t 30, .t 31, .t 32],
 mt 9 33])
 (.seq
 (.seq
 (.reg [mv 34 9,
 b1 35 .eql 34 (.int .i64 0)])
 (.cond (.t 35)
 (.exit 0)
 .skip))
 (.seq
 (.reg [ii 10 (.mov true) [.c (.ow 1 true [])]])
 (.seq
 (.seq
 (.reg [mc 11 (.int .i64 0)])
 (.block 2
 (.loop [0, 2, 7, 12, 13, 14, 15, 16, 17, 18, 19, 20, 21, 22, 23, 24, 25, 26, 27, 28, 29, 30, 31, 32, 33, 34, 35, 36, 37, 38, 39, 40, 41, 42, 43, 44, 45, 46, 47, 48, 49, 50, 51, 52, 53, 54, 55, 56, 57, 58, 59, 60, 61, 62, 63, 64, 65, 66, 67, 68, 69, 70, 71, 72, 73, 74, 75, 76, 77, 78, 79, 80, 81, 82, 83, 84, 85, 86, 87, 88, 89, 90, 91, 92, 93, 94, 95, 96, 97, 98, 99, 100, 101, 102, 103, 104, 105, 106, 107, 108, 109, 110, 111, 112, 113, 114, 115, 116, 117, 118, 119, 120, 121, 122, 123, 124] []
 (.seq
 (.seq
 (.reg [mv 36 11,
 fa 37 0 3,
 ld 38 37,
 b2 39 .lss 36 38])
 (.cond (.t 39)
 .skip
 (.exit 2)))
 (.seq
 (.block 3
 (.regd [mt 42 10,
 mv 43 1,
 mv 44 11,
 ii 45 (.iad 1) [.t 43, .t 44],
 ii 46 (.loadp 1 false) [.t 45],
 mv 47 9,
 fa 48 2 5,
 ii 49 (.at 1 (.load 1 false false)) [.t 48],
 mv 50 9,
 ii 51 (.pl (.call 56)) [.t 46, .t 47, .t 49, .t 50],
 ii 52 (.bsl 1 1) [.t 51],
 ii 53 (.pl (.app 1 8)) [.t 42, .t 52],
 mt 10 53]))
 (.reg [mv 40 11,
 b1 41 .add 40 (.int .i64 1),
 mt 11 41]))))))
 (.seq
 (.reg [mv 54 10,
 mv 55 8,
 fa 56 3 3,
 ld 57 56,
 ii 58 (.call 57) [.t 54, .t 55, .t 57],
 mt 12 58])
 (.seq
 (.reg [fa 59 0 5,
 ld 60 59,
 mt 13 60])
 (.seq
 (.reg [⟨some 61, none, .build [.int .i64 0, .sl 4 true []] [(0, 1)], [.c (.p (.int .i64 2))]⟩,
 ⟨some 14, none, .alloc 3 2 [.p (.int .i64 0), .ow 4 true []], []⟩,
 ⟨none, none, .store 2, [.t 14, .t 61]⟩])
 (.seq
 (.seq
 (.reg [mc 15 (.int .i64 0)])
 (.block 4
 (.loop [0, 2, 7, 11, 16, 17, 18, 19, 20, 21, 22, 23, 24, 25, 26, 27, 28, 29, 30, 31, 32, 33, 34, 35, 36, 37, 38, 39, 40, 41, 42, 43, 44, 45, 46, 47, 48, 49, 50, 51, 52, 53, 54, 55, 56, 57, 58, 59, 60, 61, 62, 63, 64, 65, 66, 67, 68, 69, 70, 71, 72, 73, 74, 75, 76, 77, 78, 79, 80, 81, 82, 83, 84, 85, 86, 87, 88, 89, 90, 91, 92, 93, 94, 95, 96, 97, 98, 99, 100, 101, 102, 103, 104, 105, 106, 107, 108, 109, 110, 111, 112, 113, 114, 115, 116, 117, 118, 119, 120, 121, 122, 123, 124] []
 (.seq
 (.seq
 (.reg [mv 62 15,
 mv 63 12,
 ii 64 .len [.t 63],
 b2 65 .lss 62 64,
 mv 66 65,
 gt 67 66 (.mov false) [.t 13],
 gt 68 66 (.bin .gtr) [.t 67, .c (.p (.int .i64 0))],
 ii 69 .pick [.t 66, .t 68, .c (.p (.bool false))]])
 (.cond (.t 69)
 .skip
 (.exit 4)))
 (.seq
 (.block 5
 (.seq
 (.reg [fa 72 3 3,
 ld 73 72,
 mt 16 73])
 (.seq
 (.seq
 (.reg [mv 74 15,
 b1 75 .eql 74 (.int .i64 0)])
 (.cond (.t 75)
 (.reg [mc 16 (.int .i64 0)])
 .skip))
 (.seq
 (.reg [mv 76 10,
 mv 77 12,
 mv 78 15,
 ii 79 (.iad 1) [.t 77, .t 78],
 ld 80 79,
 ii 81 (.iad 1) [.t 76, .t 80],
 ld 82 81,
 mv 83 16,
 b2 84 .sub 82 83,
 mv 85 13,
 ii 86 .mn [.t 84, .t 85],
 mt 17 86])
 (.seq
 (.reg [mv 87 13,
 mv 88 17,
 b2 89 .sub 87 88,
 mt 13 89])
 (.regd [fa 90 1 14,
 ii 91 (.at 3 (.load 1 false true)) [.t 90],
 mv 92 12,
 mv 93 15,
 ii 94 (.iad 1) [.t 92, .t 93],
 ii 95 (.loadp 1 false) [.t 94],
 mv 96 15,
 mv 97 9,
 fa 98 2 3,
 ii 99 (.at 0 (.load 1 false false)) [.t 98],
 b2 100 .add 97 99,
 b2 101 .mul 96 100,
 mv 102 9,
 mv 103 17,
 mv 104 16,
 b2 105 .add 103 104,
 ⟨some 106, none, .build [.int .i64 0, .int .i64 0, .int .i64 0, .int .i64 0] [(0, 1), (1, 1), (2, 1), (3, 1)], [.t 95, .t 101, .t 102, .t 105]⟩,
 ii 107 (.bsl 4 1) [.t 106],
 ii 108 (.pl (.app 4 32)) [.t 91, .t 107],
 fa 109 1 14,
 ⟨none, none, .at 3 (.store 1), [.t 109, .t 108]⟩]))))))
 (.reg [mv 70 15,
 b1 71 .add 70 (.int .i64 1),
 mt 15 71]))))))
 (.seq
 (.reg [mv 110 12,
 ii 111 .len [.t 110],
 b1 112 .gtr 111 (.int .i64 0),
 mv 113 112,
 gt 114 113 (.mov false) [.t 13],
 gt 115 113 (.bin .eql) [.t 114, .c (.p (.int .i64 0))],
 ii 116 .pick [.t 113, .t 115, .c (.p (.bool false))],
 mv 117 116,
 gt 118 117 (.fad 1) [.t 14],
 gt 119 117 (.load 1 false false) [.t 118],
 gt 120 117 .len [.t 119],
 gt 121 117 (.bin .gtr) [.t 120, .c (.p (.int .i64 1))],
 ii 122 .pick [.t 117, .t 121, .c (.p (.bool false))]])
 (.cond (.t 122)
 (.seq
 (.reg [ii 123 (.load 2 true false) [.t 14],
 ⟨none, none, .store 2, [.t 6, .t 123]⟩,
 mc 7 (.bool true)])
 .ret)
 .skip)))))))))))
 (.reg [mv 28 8,
 b1 29 .add 28 (.int .i64 1),
 mt 8 29]))))))
 (.seq
 (.reg [⟨some 124, none, .build [.int .i64 0, .sl 4 true []] [], []⟩,
 ⟨none, none, .store 2, [.t 6, .t 124]⟩,
 mc 7 (.bool false)])
 .ret)))⟩
theorem k29 : chkF Tryz.prog 29 F29 = true := by kernel_rfl
def F30 : Fn := ⟨20, 2, [.tmp 6],
 (.seq
 (.reg [ii 3 (.box 0 5) [.t 0],
 ii 4 (.box 1 4) [.t 1],
 mc 6 (.int .i64 0)])
 (.seq
 (.seq
 (.reg [mv 7 2,
 b1 8 .lss 7 (.int .i64 1)])
 (.cond (.t 8)
 (.seq
 (.reg [mc 6 (.int .i64 0)])
 .ret)
 .skip))
 (.seq
 (.reg [fa 9 1 4,
 ld 10 9,
 mv 11 2,
 b1 12 .sub 11 (.int .i64 1),
 fa 13 2 3,
 ld 14 13,
 b2 15 .mul 12 14,
 b2 16 .sub 10 15,
 mv 17 2,
 ii 18 (.call 58) [.t 16, .t 17],
 ii 19 .mx [.t 18, .c (.p (.int .i64 0))],
 mt 6 19])
 .ret)))⟩
theorem k30 : chkF Tryz.prog 30 F30 = true := by kernel_rfl
def F31 : Fn := ⟨26, 2, [.tmp 6],
 (.seq
 (.reg [ii 3 (.box 0 5) [.t 0],
 ii 4 (.box 1 4) [.t 1],
 mc 6 (.int .i64 0)])
 (.seq
 (.reg [fa 8 1 4,
 ld 9 8,
 mv 10 2,
 b1 11 .sub 10 (.int .i64 1),
 fa 12 2 3,
 ld 13 12,
 b2 14 .mul 11 13,
 b2 15 .sub 9 14,
 mt 7 15])
 (.seq
 (.seq
 (.reg [mv 16 2,
 b1 17 .lss 16 (.int .i64 1),
 mv 18 17,
 gf 19 18 (.mov false) [.t 7],
 gf 20 18 (.mov false) [.t 2],
 gf 21 18 (.bin .lss) [.t 19, .t 20],
 ii 22 .pick [.t 18, .c (.p (.bool true)), .t 21]])
 (.cond (.t 22)
 (.seq
 (.reg [mc 6 (.int .i64 0)])
 .ret)
 .skip))
 (.seq
 (.reg [mv 23 7,
 mv 24 2,
 b2 25 .quo 23 24,
 mt 6 25])
 .ret))))⟩
theorem k31 : chkF Tryz.prog 31 F31 = true := by kernel_rfl
def F32 : Fn := ⟨62, 4, [.cell 6 2, .tmp 7],
 (.seq
 (.reg [ii 3 (.box 0 5) [.t 0],
 ii 5 (.box 1 4) [.t 2],
 ⟨some 6, none, .alloc 2 2 [.p (.int .i64 0), .ow 4 true []], []⟩,
 mc 7 (.bool false)])
 (.seq
 (.seq
 (.reg [ii 12 (.load 5 true false) [.t 3],
 ii 13 (.call 50) [.t 12],
 ii 14 (.un .not) [.t 13],
 mv 15 14,
 gf 16 15 (.load 5 true false) [.t 3],
 gf 17 15 (.load 4 true false) [.t 5],
 gf 18 15 (.call 51) [.t 16, .t 17],
 gf 19 15 (.un .not) [.t 18],
 ii 20 .pick [.t 15, .c (.p (.bool true)), .t 19],
 mv 21 20,
 gf 22 21 (.fad 3) [.t 5],
 gf 23 21 (.load 1 false false) [.t 22],
 gf 24 21 .len [.t 23],
 gf 25 21 (.bin .gtr) [.t 24, .c (.p (.int .i64 0))],
 ii 26 .pick [.t 21, .c (.p (.bool true)), .t 25],
 mv 27 26,
 gf 28 27 (.mov false) [.t 1],
 gf 29 27 .len [.t 28],
 gf 30 27 (.fad 0) [.t 3],
 gf 31 27 (.load 1 false false) [.t 30],
 gf 32 27 (.bin .neq) [.t 29, .t 31],
 ii 33 .pick [.t 27, .c (.p (.bool true)), .t 32]])
 (.cond (.t 33)
 (.seq
 (.reg [⟨some 34, none, .build [.int .i64 0, .sl 4 true []] [], []⟩,
 ⟨none, none, .store 2, [.t 6, .t 34]⟩,
 mc 7 (.bool false)])
 .ret)
 .skip))
 (.seq
 (.seq
 (.reg [mv 35 1,
 ii 36 .len [.t 35],
 ii 37 (.mov false) [.c (.p (.int .i64 0))]])
 (.block 0
 (.loop [0, 2, 7, 8, 9, 10, 11, 12, 13, 14, 15, 16, 17, 18, 19, 20, 21, 22, 23, 24, 25, 26, 27, 28, 29, 30, 31, 32, 33, 34, 35, 38, 39, 40, 41, 42, 43, 44, 45, 46, 47, 48, 49, 50, 51, 52, 53, 54, 55, 56, 57, 58, 59, 60, 61] [3]
 (.seq
 (.reg [b2 38 .lss 37 36])
 (.seq
 (.cond (.t 38)
 .skip
 (.exit 0))
 (.seq
 (.block 1
 (.seq
 (.reg [mv 39 37,
 mt 8 39])
 (.seq
 (.reg [mv 40 1,
 ii 41 .len [.t 40],
 ii 42 (.mov false) [.c (.p (.int .i64 0))]])
 (.block 2
 (.loop [0, 2, 7, 9, 10, 11, 12, 13, 14, 15, 16, 17, 18, 19, 20, 21, 22, 23, 24, 25, 26, 27, 28, 29, 30, 31, 32, 33, 34, 35, 38, 39, 40, 43, 44, 45, 46, 47, 48, 49, 50, 51, 52, 53, 54, 55, 56, 57, 58, 59, 60, 61] [3]
 (.seq
 (.reg [b2 43 .lss 42 41])
 (.seq
 (.cond (.t 43)
 .skip
 (.exit 2))
 (.seq
 (.block 3
 (.seq
 (.reg [mv 44 42,
 mt 9 44])
 (.seq
 (.seq
 (.reg [mv 45 8,
 mv 46 9,
 b2 47 .eql 45 46])
 (.cond (.t 47)
 (.exit 3)
 .skip))
 (.seq
 (.reg [ii 49 (.load 5 true false) [.t 3],
 mv 50 1,
 ii 51 (.load 4 true false) [.t 5],
 mv 52 8,
 mv 53 9,
 ii 54 (.call 59) [.t 49, .t 50, .t 51, .t 52, .t 53],
 mv 48 54,
 ii 55 (.ext 0) [.t 48],
 ii 56 (.ext 1) [.t 48],
 ⟨some 10, none, .alloc 3 2 [.p (.int .i64 0), .ow 4 true []], []⟩,
 ⟨none, none, .store 2, [.t 10, .t 55]⟩,
 mt 11 56])
 (.seq
 (.reg [mv 57 11])
 (.cond (.t 57)
 (.seq
 (.reg [ii 58 (.load 2 true false) [.t 10],
 ⟨none, none, .store 2, [.t 6, .t 58]⟩,
 mc 7 (.bool true)])
 .ret)
 .skip))))))
 (.reg [b1 59 .add 42 (.int .i64 1),
 mv 42 59])))))))))
 (.reg [b1 60 .add 37 (.int .i64 1),
 mv 37 60])))))))
 (.seq
 (.reg [⟨some 61, none, .build [.int .i64 0, .sl 4 true []] [], []⟩,
 ⟨none, none, .store 2, [.t 6, .t 61]⟩,
 mc 7 (.bool false)])
 .ret))))⟩
theorem k32 : chkF Tryz.prog 32 F32 = true := by kernel_rfl
def F33 : Fn := ⟨95, 3, [.cell 6 2, .tmp 7],
 (.seq
 (.reg [ii 3 (.box 0 5) [.t 0],
 ii 5 (.box 1 4) [.t 2],
 ⟨some 6, none, .alloc 2 2 [.p (.int .i64 0), .ow 4 true []], []⟩,
 mc 7 (.bool false)])
 (.seq
 (.seq
 (.reg [mc 8 (.int .i64 0)])
 (.block 0
 (.loop [0, 2, 7, 9, 10, 11, 12, 13, 14, 15, 16, 17, 18, 19, 20, 21, 22, 23, 24, 25, 26, 27, 28, 29, 30, 31, 32, 33, 34, 35, 36, 37, 38, 39, 40, 41, 42, 43, 44, 45, 46, 47, 48, 49, 50, 51, 52, 53, 54, 55, 56, 57, 58, 59, 60, 61, 62, 63, 64, 65, 66, 67, 68, 69, 70, 71, 72, 73, 74, 75, 76, 77, 78, 79, 80, 81, 82, 83, 84, 85, 86, 87, 88, 89, 90, 91, 92, 93, 94] []
 (.seq
 (.seq
 (.reg [mv 13 8,
 fa 14 0 3,
 ld 15 14,
 b2 16 .lss 13 15,
 mv 17 16,
 gt 18 17 (.fad 3) [.t 5],
 gt 19 17 (.load 1 false false) [.t 18],
 gt 20 17 .len [.t 19],
 gt 21 17 (.bin .eql) [.t 20, .c (.p (.int .i64 0))],
 ii 22 .pick [.t 17, .t 21, .c (.p (.bool false))]])
 (.cond (.t 22)
 .skip
 (.exit 0)))
 (.seq
 (.block 1
 (.seq
 (.reg [mc 9 (.int .i64 0)])
 (.block 2
 (.loop [0, 2, 7, 10, 11, 12, 13, 14, 15, 16, 17, 18, 19, 20, 21, 22, 23, 24, 25, 26, 27, 28, 29, 30, 31, 32, 33, 34, 35, 36, 37, 38, 39, 40, 41, 42, 43, 44, 45, 46, 47, 48, 49, 50, 51, 52, 53, 54, 55, 56, 57, 58, 59, 60, 61, 62, 63, 64, 65, 66, 67, 68, 69, 70, 71, 72, 73, 74, 75, 76, 77, 78, 79, 80, 81, 82, 83, 84, 85, 86, 87, 88, 89, 90, 91, 92, 93, 94] []
 (.seq
 (.seq
 (.reg [mv 25 9,
 fa 26 0 3,
 ld 27 26,
 b2 28 .lss 25 27])
 (.cond (.t 28)
 .skip
 (.exit 2)))
 (.seq
 (.block 3
 (.seq
 (.regd [mv 31 1,
 mv 32 8,
 ii 33 (.iad 1) [.t 31, .t 32],
 ii 34 (.loadp 1 false) [.t 33],
 fa 35 2 5,
 ii 36 (.at 1 (.load 1 false false)) [.t 35],
 fa 37 0 5,
 ii 38 (.at 1 (.load 1 false false)) [.t 37],
 b1 39 .sub 38 (.int .i64 1),
 ii 40 (.pl (.call 60)) [.t 34, .t 36, .t 39],
 mt 10 40])
 (.seq
 (.regd [fa 41 0 5,
 ii 42 (.at 1 (.load 1 false false)) [.t 41],
 mv 43 10,
 b2 44 .sub 42 43,
 fa 45 3 3,
 ii 46 (.at 0 (.load 1 false false)) [.t 45],
 b2 47 .add 44 46,
 fa 48 1 5,
 ii 49 (.at 1 (.load 1 false false)) [.t 48],
 mv 50 10,
 b2 51 .sub 49 50,
 fa 52 2 3,
 ii 53 (.at 0 (.load 1 false false)) [.t 52],
 b2 54 .sub 51 53,
 mt 11 47,
 mt 12 54])
 (.seq
 (.regd [mv 55 8,
 mv 56 9,
 b2 57 .neq 55 56,
 mv 58 57,
 gt 59 58 (.mov false) [.t 10],
 gt 60 58 (.bin .geq) [.t 59, .c (.p (.int .i64 1))],
 ii 61 .pick [.t 58, .t 60, .c (.p (.bool false))],
 mv 62 61,
 gt 63 62 (.mov false) [.t 11],
 gt 64 62 (.mov false) [.t 12],
 gt 65 62 (.bin .leq) [.t 63, .t 64],
 ii 66 .pick [.t 62, .t 65, .c (.p (.bool false))],
 mv 67 66,
 gt 68 67 (.mov false) [.t 1],
 gt 69 67 (.mov false) [.t 9],
 gt 70 67 (.iad 1) [.t 68, .t 69],
 gt 71 67 (.loadp 1 false) [.t 70],
 gt 72 67 (.mov false) [.t 11],
 gt 73 67 (.mov false) [.t 12],
 gt 74 67 (.fad 2) [.t 5],
 gt 75 67 (.at 1 (.load 1 false false)) [.t 74],
 ⟨some 76, (some (67, true)), .build [.int .i64 0, .int .i64 0, .int .i64 0] [(0, 1), (1, 1), (2, 1)], [.t 72, .t 73, .t 75]⟩,
 gt 77 67 (.pl (.call 49)) [.t 71, .t 76],
 gt 78 67 (.pl (.call 34)) [.t 77],
 ii 79 .pick [.t 67, .t 78, .c (.p (.bool false))]])
 (.cond (.t 79)
 (.seq
 (.reg [mv 80 8,
 mv 81 10,
 mv 82 10,
 ⟨some 83, none, .build [.int .i64 0, .int .i64 0, .int .i64 0, .int .i64 0] [(0, 1), (2, 1), (3, 1)], [.t 80, .t 81, .t 82]⟩,
 mv 84 9,
 mv 85 10,
 fa 86 2 3,
 ld 87 86,
 b2 88 .add 85 87,
 mv 89 12,
 mv 90 11,
 ⟨some 91, none, .build [.int .i64 0, .int .i64 0, .int .i64 0, .int .i64 0] [(0, 1), (1, 1), (2, 1), (3, 1)], [.t 84, .t 88, .t 89, .t 90]⟩,
 ii 92 (.bsl 4 2) [.t 83, .t 91],
 ⟨some 93, none, .build [.int .i64 0, .sl 4 true []] [(0, 1), (1, 1)], [.c (.p (.int .i64 3)), .t 92]⟩,
 ⟨none, none, .store 2, [.t 6, .t 93]⟩,
 mc 7 (.bool true)])
 .ret)
 .skip)))))
 (.reg [mv 29 9,
 b1 30 .add 29 (.int .i64 1),
 mt 9 30])))))))
 (.reg [mv 23 8,
 b1 24 .add 23 (.int .i64 1),
 mt 8 24]))))))
 (.seq
 (.reg [⟨some 94, none, .build [.int .i64 0, .sl 4 true []] [], []⟩,
 ⟨none, none, .store 2, [.t 6, .t 94]⟩,
 mc 7 (.bool false)])
 .ret)))⟩
theorem k33 : chkF Tryz.prog 33 F33 = true := by kernel_rfl
def F34 : Fn := ⟨15, 0, [.tmp 2],
 (.seq
 (.reg [mc 2 (.bool false)])
 (.seq
 (.reg [mv 6 0,
 ii 7 (.call 61) [.t 6],
 mv 5 7,
 ii 8 (.ext 0) [.t 5],
 ii 9 (.ext 1) [.t 5],
 mt 3 8,
 mt 4 9])
 (.seq
 (.reg [mv 10 4,
 mv 11 10,
 gt 12 11 (.mov false) [.t 3],
 gt 13 11 (.bin .eql) [.t 12, .c (.p (.int .i64 0))],
 ii 14 .pick [.t 11, .t 13, .c (.p (.bool false))],
 mt 2 14])
 .ret)))⟩
theorem k34 : chkF Tryz.prog 34 F34 = true := by kernel_rfl
def F35 : Fn := ⟨19, 2, [.tmp 2],
 (.seq
 (.reg [ii 1 (.box 0 2) [.t 0],
 mc 2 (.int .i64 0)])
 (.seq
 (.reg [mc 3 (.int .i64 0)])
 (.seq
 (.seq
 (.reg [fa 6 1 1,
 ld 7 6,
 ii 8 .len [.t 7],
 ii 9 (.mov false) [.c (.p (.int .i64 0))]])
 (.block 0
 (.loop [0, 1, 2, 5, 6, 10, 11, 12, 13, 14, 15, 16, 17, 18] [1]
 (.seq
 (.reg [b2 10 .lss 9 8])
 (.seq
 (.cond (.t 10)
 .skip
 (.exit 0))
 (.seq
 (.block 1
 (.seq
 (.reg [ii 11 (.iad 4) [.t 7, .t 9],
 ii 12 (.load 4 true false) [.t 11],
 ⟨some 5, none, .alloc 1 4 [.p (.int .i64 0), .p (.int .i64 0), .p (.int .i64 0), .p (.int .i64 0)], []⟩,
 ⟨none, none, .store 4, [.t 5, .t 12]⟩])
 (.reg [mv 13 3,
 fa 14 3 5,
 ld 15 14,
 b2 16 .add 13 15,
 mt 3 16])))
 (.reg [b1 17 .add 9 (.int .i64 1),
 mv 9 17])))))))
 (.seq
 (.reg [mv 18 3,
 mt 2 18])
 .ret))))⟩
theorem k35 : chkF Tryz.prog 35 F35 = true := by kernel_rfl
def F36 : Fn := ⟨171, 4, [.tmp 6],
 (.seq
 (.reg [ii 3 (.box 0 5) [.t 0],
 ii 4 (.box 1 4) [.t 1],
 ii 5 (.box 2 2) [.t 2],
 mc 6 (.bool false)])
 (.seq
 (.reg [fa 12 1 5,
 ld 13 12,
 ii 14 .len [.t 13],
 mt 7 14])
 (.seq
 (.reg [mc 8 (.int .i64 0)])
 (.seq
 (.seq
 (.reg [mc 9 (.int .i64 0)])
 (.block 0
 (.loop [0, 1, 2, 6, 10, 11, 12, 13, 14, 15, 16, 17, 18, 19, 20, 21, 22, 23, 24, 25, 26, 27, 28, 29, 30, 31, 32, 33, 34, 35, 36, 37, 38, 39, 40, 41, 42, 43, 44, 45, 46, 47, 48, 49, 50, 51, 52, 53, 54, 55, 56, 57, 58, 59, 60, 61, 62, 63, 64, 65, 66, 67, 68, 69, 70, 71, 72, 73, 74, 75, 76, 77, 78, 79, 80, 81, 82, 83, 84, 85, 86, 87, 88, 89, 90, 91, 92, 93, 94, 95, 96, 97, 98, 99, 100, 101, 102, 103, 104, 105, 106, 107, 108, 109, 110, 111, 112, 113, 114, 115, 116, 117, 118, 119, 120, 121, 122, 123, 124, 125, 126, 127, 128, 129, 130, 131, 132, 133, 134, 135, 136, 137, 138, 139, 140, 141, 142, 143, 144, 145, 146, 147, 148, 149, 150, 151, 152, 153, 154, 155, 156, 157, 158, 159, 160, 161, 162, 163, 164, 165, 166, 167, 168, 169, 170] [3]
 (.seq
 (.seq
 (.reg [mv 15 9,
 mv 16 7,
 b2 17 .lss 15 16])
 (.cond (.t 17)
 .skip
 (.exit 0)))
 (.seq
 (.block 1
 (.seq
 (.reg [fa 20 1 5,
 ld 21 20,
 mv 22 9,
 ii 23 (.iad 4) [.t 21, .t 22],
 ii 24 (.load 4 true false) [.t 23],
 ⟨some 10, none, .alloc 3 4 [.p (.int .i64 0), .p (.int .i64 0), .p (.int .i64 0), .p (.int .i64 0)], []⟩,
 ⟨none, none, .store 4, [.t 10, .t 24]⟩])
 (.seq
 (.seq
 (.reg [ii 25 (.load 5 true false) [.t 3],
 ii 26 (.load 4 true false) [.t 10],
 ii 27 (.call 62) [.t 25, .t 26],
 ii 28 (.un .not) [.t 27]])
 (.cond (.t 28)
 (.seq
 (.reg [mc 6 (.bool false)])
 .ret)
 .skip))
 (.seq
 (.reg [mv 29 8,
 fa 30 3 10,
 ld 31 30,
 b2 32 .add 29 31,
 mt 8 32])
 (.seq
 (.seq
 (.reg [mc 11 (.int .i64 0)])
 (.block 2
 (.loop [0, 1, 2, 6, 12, 13, 14, 15, 16, 17, 18, 19, 20, 21, 22, 23, 24, 25, 26, 27, 28, 29, 30, 31, 32, 33, 34, 35, 36, 37, 38, 39, 40, 41, 42, 43, 44, 45, 46, 47, 48, 49, 50, 51, 52, 53, 54, 55, 56, 57, 58, 59, 60, 61, 62, 63, 64, 65, 66, 67, 68, 69, 70, 71, 72, 73, 74, 75, 76, 77, 78, 79, 80, 81, 82, 83, 84, 85, 86, 87, 88, 89, 90, 91, 92, 93, 94, 95, 96, 97, 98, 99, 100, 101, 102, 103, 104, 105, 106, 107, 108, 109, 110, 111, 112, 113, 114, 115, 116, 117, 118, 119, 120, 121, 122, 123, 124, 125, 126, 127, 128, 129, 130, 131, 132, 133, 134, 135, 136, 137, 138, 139, 140, 141, 142, 143, 144, 145, 146, 147, 148, 149, 150, 151, 152, 153, 154, 155, 156, 157, 158, 159, 160, 161, 162, 163, 164, 165, 166, 167, 168, 169, 170] []
 (.seq
 (.seq
 (.reg [mv 33 11,
 mv 34 9,
 b2 35 .lss 33 34])
 (.cond (.t 35)
 .skip
 (.exit 2)))
 (.seq
 (.block 3
 (.seq
 (.regd [fa 38 1 5,
 ii 39 (.at 2 (.load 1 false false)) [.t 38],
 mv 40 11,
 ii 41 (.iad 4) [.t 39, .t 40],
 fa 42 0 41,
 ii 43 (.loadp 1 false) [.t 42],
 fa 44 0 10,
 ii 45 (.at 3 (.load 1 false false)) [.t 44],
 b2 46 .eql 43 45])
 (.cond (.t 46)
 (.seq
 (.reg [mc 6 (.bool false)])
 .ret)
 .skip)))
 (.reg [mv 36 11,
 b1 37 .add 36 (.int .i64 1),
 mt 11 37]))))))
 (.seq
 (.regd [mv 47 9,
 b1 48 .eql 47 (.int .i64 0),
 mv 49 48,
 gt 50 49 (.fad 1) [.t 10],
 gt 51 49 (.at 3 (.load 1 false false)) [.t 50],
 gt 52 49 (.bin .neq) [.t 51, .c (.p (.int .i64 0))],
 ii 53 .pick [.t 49, .t 52, .c (.p (.bool false))],
 mv 54 53,
 gf 55 54 (.mov false) [.t 9],
 gf 56 54 (.bin .gtr) [.t 55, .c (.p (.int .i64 0))],
 gf 57 54 (.mov false) [.t 56],
 gt 58 57 (.fad 1) [.t 10],
 gt 59 57 (.at 3 (.load 1 false false)) [.t 58],
 gt 60 57 (.fad 1) [.t 5],
 gt 61 57 (.at 2 (.load 1 false false)) [.t 60],
 gt 62 57 (.mov false) [.t 9],
 gt 63 57 (.bin .sub) [.t 62, .c (.p (.int .i64 1))],
 gt 64 57 (.iad 4) [.t 61, .t 63],
 gt 65 57 (.fad 1) [.t 64],
 gt 66 57 (.loadp 1 false) [.t 65],
 gt 67 57 (.fad 1) [.t 5],
 gt 68 57 (.at 2 (.load 1 false false)) [.t 67],
 gt 69 57 (.mov false) [.t 9],
 gt 70 57 (.bin .sub) [.t 69, .c (.p (.int .i64 1))],
 gt 71 57 (.iad 4) [.t 68, .t 70],
 gt 72 57 (.fad 2) [.t 71],
 gt 73 57 (.loadp 1 false) [.t 72],
 gt 74 57 (.bin .add) [.t 66, .t 73],
 gt 75 57 (.fad 2) [.t 3],
 gt 76 57 (.at 0 (.load 1 false false)) [.t 75],
 gt 77 57 (.bin .add) [.t 74, .t 76],
 gt 78 57 (.bin .lss) [.t 59, .t 77],
 gt 79 57 (.mov false) [.t 78],
 gf 80 79 (.fad 3) [.t 10],
 gf 81 79 (.at 3 (.load 1 false false)) [.t 80],
 gf 82 79 (.fad 3) [.t 3],
 gf 83 79 (.at 0 (.load 1 false false)) [.t 82],
 gf 84 79 (.bin .leq) [.t 81, .t 83],
 gt 85 57 .pick [.t 79, .c (.p (.bool true)), .t 84],
 gf 86 54 .pick [.t 57, .t 85, .c (.p (.bool false))],
 ii 87 .pick [.t 54, .c (.p (.bool true)), .t 86]])
 (.cond (.t 87)
 (.seq
 (.reg [mc 6 (.bool false)])
 .ret)
 .skip)))))))
 (.reg [mv 18 9,
 b1 19 .add 18 (.int .i64 1),
 mt 9 19]))))))
 (.seq
 (.seq
 (.regd [mv 88 7,
 b1 89 .eql 88 (.int .i64 0),
 mv 90 89,
 gf 91 90 (.mov false) [.t 8],
 gf 92 90 (.fad 0) [.t 4],
 gf 93 90 (.at 1 (.load 1 false false)) [.t 92],
 gf 94 90 (.mov false) [.t 7],
 gf 95 90 (.bin .sub) [.t 94, .c (.p (.int .i64 1))],
 gf 96 90 (.fad 3) [.t 3],
 gf 97 90 (.at 0 (.load 1 false false)) [.t 96],
 gf 98 90 (.bin .mul) [.t 95, .t 97],
 gf 99 90 (.bin .add) [.t 93, .t 98],
 gf 100 90 (.bin .neq) [.t 91, .t 99],
 ii 101 .pick [.t 90, .c (.p (.bool true)), .t 100],
 mv 102 101,
 gf 103 102 (.fad 1) [.t 5],
 gf 104 102 (.at 2 (.load 1 false false)) [.t 103],
 gf 105 102 (.mov false) [.t 7],
 gf 106 102 (.bin .sub) [.t 105, .c (.p (.int .i64 1))],
 gf 107 102 (.iad 4) [.t 104, .t 106],
 gf 108 102 (.fad 1) [.t 107],
 gf 109 102 (.loadp 1 false) [.t 108],
 gf 110 102 (.fad 1) [.t 5],
 gf 111 102 (.at 2 (.load 1 false false)) [.t 110],
 gf 112 102 (.mov false) [.t 7],
 gf 113 102 (.bin .sub) [.t 112, .c (.p (.int .i64 1))],
 gf 114 102 (.iad 4) [.t 111, .t 113],
 gf 115 102 (.fad 2) [.t 114],
 gf 116 102 (.loadp 1 false) [.t 115],
 gf 117 102 (.bin .add) [.t 109, .t 116],
 gf 118 102 (.fad 1) [.t 4],
 gf 119 102 (.at 1 (.load 1 false false)) [.t 118],
 gf 120 102 (.bin .gtr) [.t 117, .t 119],
 ii 121 .pick [.t 102, .c (.p (.bool true)), .t 120]])
 (.cond (.t 121)
 (.seq
 (.reg [mc 6 (.bool false)])
 .ret)
 .skip))
 (.seq
 (.seq
 (.reg [fa 122 0 5,
 ld 123 122])
 (.block 4
 (.seq
 (.reg [b1 125 .eql 123 (.int .i64 1),
 mt 124 125])
 (.cond (.t 124)
 (.seq
 (.regd [mv 126 7,
 b1 127 .eql 126 (.int .i64 1),
 mv 128 127,
 gt 129 128 (.fad 1) [.t 5],
 gt 130 128 (.at 2 (.load 1 false false)) [.t 129],
 gt 131 128 (.iad 4) [.t 130, .c (.p (.int .i64 0))],
 gt 132 128 (.fad 2) [.t 131],
 gt 133 128 (.loadp 1 false) [.t 132],
 gt 134 128 (.fad 1) [.t 4],
 gt 135 128 (.at 1 (.load 1 false false)) [.t 134],
 gt 136 128 (.bin .eql) [.t 133, .t 135],
 ii 137 .pick [.t 128, .t 136, .c (.p (.bool false))],
 mt 6 137])
 .ret)
 (.seq
 (.reg [b1 139 .eql 123 (.int .i64 2),
 mt 138 139])
 (.cond (.t 138)
 (.seq
 (.reg [mv 140 7,
 b1 141 .geq 140 (.int .i64 2),
 mv 142 141,
 gt 143 142 (.fad 3) [.t 4],
 gt 144 142 (.load 1 false false) [.t 143],
 gt 145 142 .len [.t 144],
 gt 146 142 (.bin .eql) [.t 145, .c (.p (.int .i64 0))],
 ii 147 .pick [.t 142, .t 146, .c (.p (.bool false))],
 mt 6 147])
 .ret)
 (.seq
 (.reg [b1 149 .eql 123 (.int .i64 3),
 mt 148 149])
 (.cond (.t 148)
 (.seq
 (.regd [mv 150 7,
 b1 151 .eql 150 (.int .i64 2),
 mv 152 151,
 gt 153 152 (.fad 3) [.t 4],
 gt 154 152 (.at 1 (.load 1 false false)) [.t 153],
 gt 155 152 .lenD [.t 154],
 gt 156 152 (.bin .eql) [.t 155, .c (.p (.int .i64 0))],
 ii 157 .pick [.t 152, .t 156, .c (.p (.bool false))],
 mv 158 157,
 gt 159 158 (.fad 1) [.t 5],
 gt 160 158 (.at 2 (.load 1 false false)) [.t 159],
 gt 161 158 (.iad 4) [.t 160, .c (.p (.int .i64 0))],
 gt 162 158 (.fad 2) [.t 161],
 gt 163 158 (.loadp 1 false) [.t 162],
 gt 164 158 (.fad 1) [.t 5],
 gt 165 158 (.at 2 (.load 1 false false)) [.t 164],
 gt 166 158 (.iad 4) [.t 165, .c (.p (.int .i64 0))],
 gt 167 158 (.fad 3) [.t 166],
 gt 168 158 (.loadp 1 false) [.t 167],
 gt 169 158 (.bin .eql) [.t 163, .t 168],
 ii 170 .pick [.t 158, .t 169, .c (.p (.bool false))],
 mt 6 170])
 .ret)
 .skip))))))))
 (.seq
 (.reg [mc 6 (.bool false)])
 .ret)))))))⟩
theorem k36 : chkF Tryz.prog 36 F36 = true := by kernel_rfl
def F37 : Fn := ⟨17, 2, [.tmp 4],
 (.seq
 (.reg [ii 2 (.box 0 2) [.t 0],
 ii 3 (.box 1 2) [.t 1],
 mc 4 (.bool false)])
 (.seq
 (.reg [fa 5 0 2,
 ld 6 5,
 fa 7 0 3,
 ld 8 7,
 b2 9 .eql 6 8,
 mv 10 9,
 gt 11 10 (.fad 1) [.t 2],
 gt 12 10 (.load 1 false false) [.t 11],
 gt 13 10 (.fad 1) [.t 3],
 gt 14 10 (.load 1 false false) [.t 13],
 gt 15 10 (.call 63) [.t 12, .t 14],
 ii 16 .pick [.t 10, .t 15, .c (.p (.bool false))],
 mt 4 16])
 .ret))⟩
theorem k37 : chkF Tryz.prog 37 F37 = true := by kernel_rfl
def F38 : Fn := ⟨31, 1, [.tmp 6],
 (.seq
 (.reg [ii 3 (.box 0 2) [.t 0],
 mc 6 (.int .i64 0)])
 (.seq
 (.seq
 (.reg [mv 7 1,
 b1 8 .lss 7 (.int .i64 0),
 mv 9 8,
 gf 10 9 (.mov false) [.t 1],
 gf 11 9 (.fad 1) [.t 3],
 gf 12 9 (.load 1 false false) [.t 11],
 gf 13 9 .len [.t 12],
 gf 14 9 (.bin .geq) [.t 10, .t 13],
 ii 15 .pick [.t 9, .c (.p (.bool true)), .t 14]])
 (.cond (.t 15)
 (.seq
 (.reg [mc 6 (.int .i64 0)])
 .ret)
 .skip))
 (.seq
 (.regd [mv 16 2,
 fa 17 1 3,
 ii 18 (.at 0 (.load 1 false false)) [.t 17],
 mv 19 1,
 ii 20 (.iad 4) [.t 18, .t 19],
 fa 21 1 20,
 ii 22 (.loadp 1 false) [.t 21],
 b2 23 .add 16 22,
 fa 24 1 3,
 ii 25 (.at 0 (.load 1 false false)) [.t 24],
 mv 26 1,
 ii 27 (.iad 4) [.t 25, .t 26],
 fa 28 2 27,
 ii 29 (.loadp 1 false) [.t 28],
 b2 30 .add 23 29,
 mt 6 30])
 .ret)))⟩
theorem k38 : chkF Tryz.prog 38 F38 = true := by kernel_rfl
def F39 : Fn := ⟨9, 0, [.tmp 2],
 (.seq
 (.reg [ii 2 (.mov true) [.c (.ow 3 true [])]])
 (.seq
 (.reg [mv 3 0,
 mv 4 0,
 ii 5 .len [.t 4],
 ii 6 .mn [.t 5, .c (.p (.int .i64 10))],
 ii 7 (.slc 3 false true) [.t 3, .t 6],
 ii 8 (.app 3 24) [.c (.ow 3 true []), .t 7],
 mt 2 8])
 .ret))⟩
theorem k39 : chkF Tryz.prog 39 F39 = true := by kernel_rfl
def F40 : Fn := ⟨2, 0, [.tmp 0],
 (.seq
 (.reg [mc 0 (.bool false)])
 (.seq
 (.reg [ii 1 (.call 64) [],
 mt 0 1])
 .ret))⟩
theorem k40 : chkF Tryz.prog 40 F40 = true := by kernel_rfl
def F41 : Fn := ⟨13, 2, [.cell 2 5],
 (.seq
 (.reg [ii 1 (.box 0 5) [.t 0],
 ⟨some 2, none, .alloc 1 5 [.p (.int .i64 0), .p (.int .i64 0), .p (.int .i64 0), .p (.int .i64 0), .ow 1 true []], []⟩])
 (.seq
 (.reg [fa 3 4 1,
 ld 4 3,
 fa 5 4 1,
 ld 6 5,
 ii 7 .len [.t 6],
 ii 8 .mn [.t 7, .c (.p (.int .i64 8))],
 ii 9 (.slc 1 false true) [.t 4, .t 8],
 ii 10 (.app 1 8) [.c (.ow 1 true []), .t 9],
 fa 11 4 1,
 ⟨none, none, .store 1, [.t 11, .t 10]⟩])
 (.seq
 (.reg [ii 12 (.load 5 true false) [.t 1],
 ⟨none, none, .store 5, [.t 2, .t 12]⟩])
 .ret)))⟩
theorem k41 : chkF Tryz.prog 41 F41 = true := by kernel_rfl
def F42 : Fn := ⟨51, 1, [.tmp 2],
 (.seq
 (.reg [ii 1 (.box 0 5) [.t 0],
 mc 2 (.bool false)])
 (.seq
 (.seq
 (.reg [mc 3 (.int .i64 0)])
 (.block 0
 (.loop [0, 2, 4, 5, 6, 7, 8, 9, 10, 11, 12, 13, 14, 15, 16, 17, 18, 19, 20, 21, 22, 23, 24, 25, 26, 27, 28, 29, 30, 31, 32, 33, 34, 35, 36, 37, 38, 39, 40, 41, 42, 43, 44, 45, 46, 47, 48, 49, 50] []
 (.seq
 (.seq
 (.reg [mv 4 3,
 fa 5 4 1,
 ld 6 5,
 ii 7 .len [.t 6],
 b2 8 .lss 4 7])
 (.cond (.t 8)
 .skip
 (.exit 0)))
 (.seq
 (.block 1
 (.seq
 (.regd [fa 11 4 1,
 ii 12 (.at 0 (.load 1 false false)) [.t 11],
 mv 13 3,
 ii 14 (.iad 1) [.t 12, .t 13],
 ii 15 (.loadp 1 false) [.t 14],
 b1 16 .lss 15 (.int .i64 0),
 mv 17 16,
 gf 18 17 (.fad 4) [.t 1],
 gf 19 17 (.at 0 (.load 1 false false)) [.t 18],
 gf 20 17 (.mov false) [.t 3],
 gf 21 17 (.iad 1) [.t 19, .t 20],
 gf 22 17 (.loadp 1 false) [.t 21],
 gf 23 17 (.fad 1) [.t 1],
 gf 24 17 (.at 0 (.load 1 false false)) [.t 23],
 gf 25 17 (.bin .geq) [.t 22, .t 24],
 ii 26 .pick [.t 17, .c (.p (.bool true)), .t 25]])
 (.cond (.t 26)
 (.seq
 (.reg [mc 2 (.bool false)])
 .ret)
 .skip)))
 (.reg [mv 9 3,
 b1 10 .add 9 (.int .i64 1),
 mt 3 10]))))))
 (.seq
 (.reg [fa 27 0 1,
 ld 28 27,
 ii 29 (.call 65) [.t 28, .c (.p (.int .i64 1)), .c (.p (.int .i64 6))],
 mv 30 29,
 gt 31 30 (.fad 1) [.t 1],
 gt 32 30 (.load 1 false false) [.t 31],
 gt 33 30 (.call 65) [.t 32, .c (.p (.int .i64 0)), .c (.p (.int .i64 3))],
 ii 34 .pick [.t 30, .t 33, .c (.p (.bool false))],
 mv 35 34,
 gt 36 35 (.fad 2) [.t 1],
 gt 37 35 (.load 1 false false) [.t 36],
 gt 38 35 (.call 65) [.t 37, .c (.p (.int .i64 0)), .c (.p (.int .i64 5))],
 ii 39 .pick [.t 35, .t 38, .c (.p (.bool false))],
 mv 40 39,
 gt 41 40 (.fad 3) [.t 1],
 gt 42 40 (.load 1 false false) [.t 41],
 gt 43 40 (.call 65) [.t 42, .c (.p (.int .i64 0)), .c (.p (.int .i64 5))],
 ii 44 .pick [.t 40, .t 43, .c (.p (.bool false))],
 mv 45 44,
 gt 46 45 (.fad 4) [.t 1],
 gt 47 45 (.load 1 false false) [.t 46],
 gt 48 45 .len [.t 47],
 gt 49 45 (.bin .leq) [.t 48, .c (.p (.int .i64 6))],
 ii 50 .pick [.t 45, .t 49, .c (.p (.bool false))],
 mt 2 50])
 .ret)))⟩
theorem k42 : chkF Tryz.prog 42 F42 = true := by kernel_rfl
def F43 : Fn := ⟨13, 2, [.cell 2 4],
 (.seq
 (.reg [ii 1 (.box 0 4) [.t 0],
 ⟨some 2, none, .alloc 1 4 [.p (.int .i64 0), .p (.int .i64 0), .p (.int .i64 0), .ow 3 true []], []⟩])
 (.seq
 (.reg [fa 3 3 1,
 ld 4 3,
 fa 5 3 1,
 ld 6 5,
 ii 7 .len [.t 6],
 ii 8 .mn [.t 7, .c (.p (.int .i64 4))],
 ii 9 (.slc 3 false true) [.t 4, .t 8],
 ii 10 (.app 3 24) [.c (.ow 3 true []), .t 9],
 fa 11 3 1,
 ⟨none, none, .store 1, [.t 11, .t 10]⟩])
 (.seq
 (.reg [ii 12 (.load 4 true false) [.t 1],
 ⟨none, none, .store 4, [.t 2, .t 12]⟩])
 .ret)))⟩
theorem k43 : chkF Tryz.prog 43 F43 = true := by kernel_rfl
def F44 : Fn := ⟨89, 3, [.tmp 4],
 (.seq
 (.reg [ii 2 (.box 0 5) [.t 0],
 ii 3 (.box 1 4) [.t 1],
 mc 4 (.bool false)])
 (.seq
 (.seq
 (.reg [fa 7 0 3,
 ld 8 7,
 b1 9 .lss 8 (.int .i64 1),
 mv 10 9,
 gf 11 10 (.fad 1) [.t 3],
 gf 12 10 (.load 1 false false) [.t 11],
 gf 13 10 (.fad 0) [.t 3],
 gf 14 10 (.load 1 false false) [.t 13],
 gf 15 10 (.bin .lss) [.t 12, .t 14],
 ii 16 .pick [.t 10, .c (.p (.bool true)), .t 15],
 mv 17 16,
 gf 18 17 (.fad 2) [.t 3],
 gf 19 17 (.load 1 false false) [.t 18],
 gf 20 17 (.fad 1) [.t 3],
 gf 21 17 (.load 1 false false) [.t 20],
 gf 22 17 (.bin .lss) [.t 19, .t 21],
 ii 23 .pick [.t 17, .c (.p (.bool true)), .t 22],
 mv 24 23,
 gf 25 24 (.fad 2) [.t 3],
 gf 26 24 (.load 1 false false) [.t 25],
 gf 27 24 (.bin .gtr) [.t 26, .c (.p (.int .i64 200))],
 ii 28 .pick [.t 24, .c (.p (.bool true)), .t 27],
 mv 29 28,
 gf 30 29 (.fad 3) [.t 3],
 gf 31 29 (.load 1 false false) [.t 30],
 gf 32 29 .len [.t 31],
 gf 33 29 (.bin .gtr) [.t 32, .c (.p (.int .i64 2))],
 ii 34 .pick [.t 29, .c (.p (.bool true)), .t 33]])
 (.cond (.t 34)
 (.seq
 (.reg [mc 4 (.bool false)])
 .ret)
 .skip))
 (.seq
 (.seq
 (.reg [mc 5 (.int .i64 0)])
 (.block 0
 (.loop [0, 1, 4, 6, 7, 8, 9, 10, 11, 12, 13, 14, 15, 16, 17, 18, 19, 20, 21, 22, 23, 24, 25, 26, 27, 28, 29, 30, 31, 32, 33, 34, 35, 36, 37, 38, 39, 40, 41, 42, 43, 44, 45, 46, 47, 48, 49, 50, 51, 52, 53, 54, 55, 56, 57, 58, 59, 60, 61, 62, 63, 64, 65, 66, 67, 68, 69, 70, 71, 72, 73, 74, 75, 76, 77, 78, 79, 80, 81, 82, 83, 84, 85, 86, 87, 88] [2]
 (.seq
 (.seq
 (.reg [mv 35 5,
 fa 36 3 3,
 ld 37 36,
 ii 38 .len [.t 37],
 b2 39 .lss 35 38])
 (.cond (.t 39)
 .skip
 (.exit 0)))
 (.seq
 (.block 1
 (.seq
 (.reg [fa 42 3 3,
 ld 43 42,
 mv 44 5,
 ii 45 (.iad 3) [.t 43, .t 44],
 ii 46 (.load 3 true false) [.t 45],
 ⟨some 6, none, .alloc 2 3 [.p (.int .i64 0), .p (.int .i64 0), .p (.int .i64 0)], []⟩,
 ⟨none, none, .store 3, [.t 6, .t 46]⟩])
 (.seq
 (.regd [fa 47 0 6,
 ii 48 (.at 2 (.load 1 false false)) [.t 47],
 b1 49 .lss 48 (.int .i64 0),
 mv 50 49,
 gf 51 50 (.fad 0) [.t 6],
 gf 52 50 (.at 2 (.load 1 false false)) [.t 51],
 gf 53 50 (.fad 4) [.t 2],
 gf 54 50 (.at 0 (.load 1 false false)) [.t 53],
 gf 55 50 .lenD [.t 54],
 gf 56 50 (.bin .geq) [.t 52, .t 55],
 ii 57 .pick [.t 50, .c (.p (.bool true)), .t 56],
 mv 58 57,
 gf 59 58 (.fad 2) [.t 6],
 gf 60 58 (.at 2 (.load 1 false false)) [.t 59],
 gf 61 58 (.pl (.call 65)) [.t 60, .c (.p (.int .i64 1)), .c (.p (.int .i64 200))],
 gf 62 58 (.un .not) [.t 61],
 ii 63 .pick [.t 58, .c (.p (.bool true)), .t 62],
 mv 64 63,
 gf 65 64 (.fad 1) [.t 6],
 gf 66 64 (.at 2 (.load 1 false false)) [.t 65],
 gf 67 64 (.fad 0) [.t 3],
 gf 68 64 (.at 1 (.load 1 false false)) [.t 67],
 gf 69 64 (.bin .sub) [.t 68, .c (.p (.int .i64 1))],
 gf 70 64 (.pl (.call 65)) [.t 66, .c (.p (.int .i64 1)), .t 69],
 gf 71 64 (.un .not) [.t 70],
 ii 72 .pick [.t 64, .c (.p (.bool true)), .t 71],
 mv 73 72,
 gf 74 73 (.mov false) [.t 5],
 gf 75 73 (.bin .gtr) [.t 74, .c (.p (.int .i64 0))],
 gf 76 73 (.mov false) [.t 75],
 gt 77 76 (.fad 1) [.t 6],
 gt 78 76 (.at 2 (.load 1 false false)) [.t 77],
 gt 79 76 (.fad 3) [.t 3],
 gt 80 76 (.at 1 (.load 1 false false)) [.t 79],
 gt 81 76 (.mov false) [.t 5],
 gt 82 76 (.bin .sub) [.t 81, .c (.p (.int .i64 1))],
 gt 83 76 (.iad 3) [.t 80, .t 82],
 gt 84 76 (.fad 1) [.t 83],
 gt 85 76 (.loadp 1 false) [.t 84],
 gt 86 76 (.bin .leq) [.t 78, .t 85],
 gf 87 73 .pick [.t 76, .t 86, .c (.p (.bool false))],
 ii 88 .pick [.t 73, .c (.p (.bool true)), .t 87]])
 (.cond (.t 88)
 (.seq
 (.reg [mc 4 (.bool false)])
 .ret)
 .skip))))
 (.reg [mv 40 5,
 b1 41 .add 40 (.int .i64 1),
 mt 5 41]))))))
 (.seq
 (.reg [mc 4 (.bool true)])
 .ret))))⟩
theorem k44 : chkF Tryz.prog 44 F44 = true := by kernel_rfl
def F45 : Fn := ⟨19, 0, [.tmp 4],
 (.seq
 (.reg [mc 4 (.int .i64 0)])
 (.seq
 (.seq
 (.reg [mv 6 0,
 ii 7 .len [.t 6],
 ii 8 (.mov false) [.c (.p (.int .i64 0))]])
 (.block 0
 (.loop [4, 5, 6, 9, 10, 11, 12, 13, 14, 15, 16, 17, 18] []
 (.seq
 (.reg [b2 9 .lss 8 7])
 (.seq
 (.cond (.t 9)
 .skip
 (.exit 0))
 (.seq
 (.block 1
 (.seq
 (.reg [mv 10 8,
 mt 5 10])
 (.seq
 (.reg [mv 11 1,
 mv 12 0,
 mv 13 5,
 ii 14 (.iad 1) [.t 12, .t 13],
 ld 15 14,
 ii 16 .callv [.t 11, .t 15]])
 (.cond (.t 16)
 (.seq
 (.reg [mv 17 5,
 mt 4 17])
 .ret)
 .skip))))
 (.reg [b1 18 .add 8 (.int .i64 1),
 mv 8 18])))))))
 (.seq
 (.reg [mc 4 (.int .i64 (-1))])
 .ret)))⟩
theorem k45 : chkF Tryz.prog 45 F45 = true := by kernel_rfl
def F46 : Fn := ⟨10, 0, [.tmp 3],
 (.seq
 (.reg [mc 3 (.bool false)])
 (.seq
 (.regd [mv 4 0,
 ii 5 (.pl (.call 48)) [.t 4],
 ii 6 (.loadp 3 true) [.t 1],
 ii 7 (.bsl 3 1) [.t 6],
 ii 8 (.pl (.app 3 24)) [.t 5, .t 7],
 ii 9 (.pl (.call 47)) [.t 8],
 mt 3 9])
 .ret))⟩
theorem k46 : chkF Tryz.prog 46 F46 = true := by kernel_rfl
def F47 : Fn := ⟨22, 0, [.tmp 2],
 (.seq
 (.reg [mc 2 (.bool false)])
 (.seq
 (.reg [mv 8 0,
 ii 9 (.call 66) [.t 8],
 mv 7 9,
 ii 10 (.ext 0) [.t 7],
 ii 11 (.ext 1) [.t 7],
 mt 3 10,
 mt 4 11])
 (.seq
 (.reg [mv 13 0,
 ii 14 (.call 67) [.t 13],
 mv 12 14,
 ii 15 (.ext 0) [.t 12],
 ii 16 (.ext 1) [.t 12],
 mt 5 15,
 mt 6 16])
 (.seq
 (.reg [mv 17 4,
 mv 18 17,
 gt 19 18 (.mov false) [.t 6],
 gt 20 18 (.un .not) [.t 19],
 ii 21 .pick [.t 18, .t 20, .c (.p (.bool false))],
 mt 2 21])
 .ret))))⟩
theorem k47 : chkF Tryz.prog 47 F47 = true := by kernel_rfl
def F48 : Fn := ⟨8, 0, [.tmp 2],
 (.seq
 (.reg [ii 2 (.mov true) [.c (.ow 3 true [])]])
 (.seq
 (.seq
 (.reg [mv 3 0,
 ii 4 (.eqnil false) [.t 3, .c (.ow 3 true [])]])
 (.cond (.t 4)
 (.seq
 (.reg [ii 2 (.mov true) [.c (.ow 3 true [])]])
 .ret)
 .skip))
 (.seq
 (.reg [ii 5 (.bsl 3 0) [],
 mv 6 0,
 ii 7 (.app 3 24) [.t 5, .t 6],
 mt 2 7])
 .ret)))⟩
theorem k48 : chkF Tryz.prog 48 F48 = true := by kernel_rfl
def F49 : Fn := ⟨10, 1, [.tmp 4],
 (.seq
 (.reg [ii 3 (.box 0 3) [.t 1],
 ii 4 (.mov true) [.c (.ow 3 true [])]])
 (.seq
 (.regd [mv 5 0,
 ii 6 (.pl (.app 3 24)) [.c (.ow 3 true []), .t 5],
 ii 7 (.at 0 (.load 3 true false)) [.t 3],
 ii 8 (.bsl 3 1) [.t 7],
 ii 9 (.pl (.app 3 24)) [.t 6, .t 8],
 mt 4 9])
 .ret))⟩
theorem k49 : chkF Tryz.prog 49 F49 = true := by kernel_rfl
def F50 : Fn := ⟨38, 1, [.tmp 2],
 (.seq
 (.reg [ii 1 (.box 0 5) [.t 0],
 mc 2 (.bool false)])
 (.seq
 (.seq
 (.reg [fa 4 0 1,
 ld 5 4,
 ii 6 (.call 68) [.t 5, .c (.p (.int .i64 1)), .c (.p (.int .i64 6))],
 ii 7 (.un .not) [.t 6],
 mv 8 7,
 gf 9 8 (.fad 1) [.t 1],
 gf 10 8 (.load 1 false false) [.t 9],
 gf 11 8 (.call 68) [.t 10, .c (.p (.int .i64 0)), .c (.p (.int .i64 3))],
 gf 12 8 (.un .not) [.t 11],
 ii 13 .pick [.t 8, .c (.p (.bool true)), .t 12],
 mv 14 13,
 gf 15 14 (.fad 2) [.t 1],
 gf 16 14 (.load 1 false false) [.t 15],
 gf 17 14 (.call 68) [.t 16, .c (.p (.int .i64 0)), .c (.p (.int .i64 5))],
 gf 18 14 (.un .not) [.t 17],
 ii 19 .pick [.t 14, .c (.p (.bool true)), .t 18],
 mv 20 19,
 gf 21 20 (.fad 3) [.t 1],
 gf 22 20 (.load 1 false false) [.t 21],
 gf 23 20 (.call 68) [.t 22, .c (.p (.int .i64 0)), .c (.p (.int .i64 5))],
 gf 24 20 (.un .not) [.t 23],
 ii 25 .pick [.t 20, .c (.p (.bool true)), .t 24]])
 (.cond (.t 25)
 (.seq
 (.reg [mc 2 (.bool false)])
 .ret)
 .skip))
 (.seq
 (.pre [] [0] [] (.reg [ii 26 (.mkfn 69) [.t 1],
 mt 3 26]))
 (.seq
 (.reg [fa 27 4 1,
 ld 28 27,
 ii 29 .len [.t 28],
 b1 30 .leq 29 (.int .i64 6),
 mv 31 30,
 gt 32 31 (.fad 4) [.t 1],
 gt 33 31 (.load 1 false false) [.t 32],
 gt 34 31 (.mov false) [.t 3],
 gt 35 31 (.call 70) [.t 33, .t 34],
 gt 36 31 (.un .not) [.t 35],
 ii 37 .pick [.t 31, .t 36, .c (.p (.bool false))],
 mt 2 37])
 .ret))))⟩
theorem k50 : chkF Tryz.prog 50 F50 = true := by kernel_rfl
def F51 : Fn := ⟨76, 3, [.tmp 4],
 (.seq
 (.reg [ii 2 (.box 0 5) [.t 0],
 ii 3 (.box 1 4) [.t 1],
 mc 4 (.bool false)])
 (.seq
 (.seq
 (.reg [fa 8 0 3,
 ld 9 8,
 b1 10 .lss 9 (.int .i64 1),
 mv 11 10,
 gf 12 11 (.fad 0) [.t 3],
 gf 13 11 (.load 1 false false) [.t 12],
 gf 14 11 (.fad 1) [.t 3],
 gf 15 11 (.load 1 false false) [.t 14],
 gf 16 11 (.bin .gtr) [.t 13, .t 15],
 ii 17 .pick [.t 11, .c (.p (.bool true)), .t 16],
 mv 18 17,
 gf 19 18 (.fad 1) [.t 3],
 gf 20 18 (.load 1 false false) [.t 19],
 gf 21 18 (.fad 2) [.t 3],
 gf 22 18 (.load 1 false false) [.t 21],
 gf 23 18 (.bin .gtr) [.t 20, .t 22],
 ii 24 .pick [.t 18, .c (.p (.bool true)), .t 23],
 mv 25 24,
 gf 26 25 (.fad 2) [.t 3],
 gf 27 25 (.load 1 false false) [.t 26],
 gf 28 25 (.bin .gtr) [.t 27, .c (.p (.int .i64 200))],
 ii 29 .pick [.t 25, .c (.p (.bool true)), .t 28],
 mv 30 29,
 gf 31 30 (.fad 3) [.t 3],
 gf 32 30 (.load 1 false false) [.t 31],
 gf 33 30 .len [.t 32],
 gf 34 30 (.bin .gtr) [.t 33, .c (.p (.int .i64 2))],
 ii 35 .pick [.t 30, .c (.p (.bool true)), .t 34]])
 (.cond (.t 35)
 (.seq
 (.reg [mc 4 (.bool false)])
 .ret)
 .skip))
 (.seq
 (.reg [mc 5 (.int .i64 0)])
 (.seq
 (.seq
 (.reg [fa 36 3 3,
 ld 37 36,
 ii 38 .len [.t 37],
 ii 39 (.mov false) [.c (.p (.int .i64 0))]])
 (.block 0
 (.loop [0, 1, 4, 7, 8, 9, 10, 11, 12, 13, 14, 15, 16, 17, 18, 19, 20, 21, 22, 23, 24, 25, 26, 27, 28, 29, 30, 31, 32, 33, 34, 35, 36, 40, 41, 42, 43, 44, 45, 46, 47, 48, 49, 50, 51, 52, 53, 54, 55, 56, 57, 58, 59, 60, 61, 62, 63, 64, 65, 66, 67, 68, 69, 70, 71, 72, 73, 74, 75] [2]
 (.seq
 (.reg [b2 40 .lss 39 38])
 (.seq
 (.cond (.t 40)
 .skip
 (.exit 0))
 (.seq
 (.block 1
 (.seq
 (.reg [ii 41 (.iad 3) [.t 37, .t 39],
 ii 42 (.load 3 true false) [.t 41],
 ⟨some 7, none, .alloc 2 3 [.p (.int .i64 0), .p (.int .i64 0), .p (.int .i64 0)], []⟩,
 ⟨none, none, .store 3, [.t 7, .t 42]⟩])
 (.seq
 (.seq
 (.reg [fa 43 0 7,
 ld 44 43,
 b1 45 .lss 44 (.int .i64 0),
 mv 46 45,
 gf 47 46 (.fad 0) [.t 7],
 gf 48 46 (.load 1 false false) [.t 47],
 gf 49 46 (.fad 4) [.t 2],
 gf 50 46 (.load 1 false false) [.t 49],
 gf 51 46 .len [.t 50],
 gf 52 46 (.bin .geq) [.t 48, .t 51],
 ii 53 .pick [.t 46, .c (.p (.bool true)), .t 52],
 mv 54 53,
 gf 55 54 (.fad 2) [.t 7],
 gf 56 54 (.load 1 false false) [.t 55],
 gf 57 54 (.call 68) [.t 56, .c (.p (.int .i64 1)), .c (.p (.int .i64 200))],
 gf 58 54 (.un .not) [.t 57],
 ii 59 .pick [.t 54, .c (.p (.bool true)), .t 58],
 mv 60 59,
 gf 61 60 (.fad 1) [.t 7],
 gf 62 60 (.load 1 false false) [.t 61],
 gf 63 60 (.mov false) [.t 5],
 gf 64 60 (.bin .leq) [.t 62, .t 63],
 ii 65 .pick [.t 60, .c (.p (.bool true)), .t 64],
 mv 66 65,
 gf 67 66 (.fad 1) [.t 7],
 gf 68 66 (.load 1 false false) [.t 67],
 gf 69 66 (.fad 0) [.t 3],
 gf 70 66 (.load 1 false false) [.t 69],
 gf 71 66 (.bin .geq) [.t 68, .t 70],
 ii 72 .pick [.t 66, .c (.p (.bool true)), .t 71]])
 (.cond (.t 72)
 (.seq
 (.reg [mc 4 (.bool false)])
 .ret)
 .skip))
 (.reg [fa 73 1 7,
 ld 74 73,
 mt 5 74]))))
 (.reg [b1 75 .add 39 (.int .i64 1),
 mv 39 75])))))))
 (.seq
 (.reg [mc 4 (.bool true)])
 .ret)))))⟩
theorem k51 : chkF Tryz.prog 51 F51 = true := by kernel_rfl
def F52 : Fn := ⟨30, 4, [.tmp 4],
 (.seq
 (.reg [ii 2 (.box 0 5) [.t 0],
 ii 3 (.box 1 2) [.t 1],
 mc 4 (.bool false)])
 (.seq
 (.reg [ii 8 (.mkmap 2) [],
 mt 5 8])
 (.seq
 (.seq
 (.reg [fa 9 1 3,
 ld 10 9,
 ii 11 .len [.t 10],
 ii 12 (.mov false) [.c (.p (.int .i64 0))]])
 (.block 0
 (.loop [0, 1, 3, 4, 7, 8, 9, 13, 14, 15, 16, 17, 18, 19, 20, 21, 22, 23, 24, 25, 26, 27, 28, 29] [3]
 (.seq
 (.reg [b2 13 .lss 12 11])
 (.seq
 (.cond (.t 13)
 .skip
 (.exit 0))
 (.seq
 (.block 1
 (.seq
 (.reg [ii 14 (.iad 4) [.t 10, .t 12],
 ii 15 (.load 4 true false) [.t 14],
 ⟨some 7, none, .alloc 3 4 [.p (.int .i64 0), .p (.int .i64 0), .p (.int .i64 0), .p (.int .i64 0)], []⟩,
 ⟨none, none, .store 4, [.t 7, .t 15]⟩])
 (.seq
 (.seq
 (.reg [ii 16 (.load 5 true false) [.t 2],
 ii 17 (.load 4 true false) [.t 7],
 ii 18 (.call 71) [.t 16, .t 17],
 ii 19 (.un .not) [.t 18],
 mv 20 19,
 gf 21 20 (.mov false) [.t 5],
 gf 22 20 (.fad 0) [.t 7],
 gf 23 20 (.load 1 false false) [.t 22],
 gf 24 20 (.look .i64 (.bool false)) [.t 21, .t 23],
 ii 25 .pick [.t 20, .c (.p (.bool true)), .t 24]])
 (.cond (.t 25)
 (.seq
 (.reg [mc 4 (.bool false)])
 .ret)
 .skip))
 (.reg [mv 26 5,
 fa 27 0 7,
 ld 28 27,
 ⟨none, none, .mupd .i64, [.t 26, .t 28, .c (.p (.bool true))]⟩]))))
 (.reg [b1 29 .add 12 (.int .i64 1),
 mv 12 29])))))))
 (.seq
 (.reg [mc 4 (.bool true)])
 .ret))))⟩
theorem k52 : chkF Tryz.prog 52 F52 = true := by kernel_rfl
def F53 : Fn := ⟨92, 6, [.tmp 6],
 (.seq
 (.reg [ii 3 (.box 0 5) [.t 0],
 ii 4 (.box 1 4) [.t 1],
 ii 5 (.box 2 2) [.t 2],
 mc 6 (.bool false)])
 (.seq
 (.reg [fa 12 1 5,
 ld 13 12,
 ii 14 .len [.t 13],
 mt 7 14])
 (.seq
 (.seq
 (.reg [fa 15 3 4,
 ld 16 15,
 ii 17 .len [.t 16],
 b1 18 .gtr 17 (.int .i64 0),
 mv 19 18,
 gf 20 19 (.mov false) [.t 7],
 gf 21 19 (.bin .lss) [.t 20, .c (.p (.int .i64 2))],
 ii 22 .pick [.t 19, .c (.p (.bool true)), .t 21],
 mv 23 22,
 gf 24 23 (.fad 1) [.t 5],
 gf 25 23 (.load 1 false false) [.t 24],
 gf 26 23 (.iad 4) [.t 25, .c (.p (.int .i64 0))],
 gf 27 23 (.fad 1) [.t 26],
 gf 28 23 (.load 1 false false) [.t 27],
 gf 29 23 (.bin .neq) [.t 28, .c (.p (.int .i64 0))],
 ii 30 .pick [.t 23, .c (.p (.bool true)), .t 29]])
 (.cond (.t 30)
 (.seq
 (.reg [mc 6 (.bool false)])
 .ret)
 .skip))
 (.seq
 (.seq
 (.reg [mc 8 (.int .i64 1)])
 (.block 0
 (.loop [0, 1, 2, 6, 9, 10, 11, 12, 13, 14, 15, 16, 17, 18, 19, 20, 21, 22, 23, 24, 25, 26, 27, 28, 29, 30, 31, 32, 33, 34, 35, 36, 37, 38, 39, 40, 41, 42, 43, 44, 45, 46, 47, 48, 49, 50, 51, 52, 53, 54, 55, 56, 57, 58, 59, 60, 61, 62, 63, 64, 65, 66, 67, 68, 69, 70, 71, 72, 73, 74, 75, 76, 77, 78, 79, 80, 81, 82, 83, 84, 85, 86, 87, 88, 89, 90, 91] [3, 4]
 (.seq
 (.seq
 (.reg [mv 31 8,
 mv 32 7,
 b2 33 .lss 31 32])
 (.cond (.t 33)
 .skip
 (.exit 0)))
 (.seq
 (.block 1
 (.seq
 (.pre [9, 10, 47, 49, 51, 59] [] [3, 4] (.rega [fa 36 1 5,
 ii 37 (.at 2 (.load 1 false false)) [.t 36],
 mv 38 8,
 b1 39 .sub 38 (.int .i64 1),
 ii 40 (.iad 4) [.t 37, .t 39],
 ii 41 (.loadp 4 true) [.t 40],
 fa 42 1 5,
 ii 43 (.at 2 (.load 1 false false)) [.t 42],
 mv 44 8,
 ii 45 (.iad 4) [.t 43, .t 44],
 ii 46 (.loadp 4 true) [.t 45],
 ⟨some 9, none, .alloc 3 4 [.p (.int .i64 0), .p (.int .i64 0), .p (.int .i64 0), .p (.int .i64 0)], []⟩,
 ⟨some 10, none, .alloc 4 4 [.p (.int .i64 0), .p (.int .i64 0), .p (.int .i64 0), .p (.int .i64 0)], []⟩,
 ⟨none, none, .at 3 (.store 4), [.t 9, .t 41]⟩,
 ⟨none, none, .at 4 (.store 4), [.t 10, .t 46]⟩]))
 (.seq
 (.reg [fa 47 1 10,
 ld 48 47,
 fa 49 1 9,
 ld 50 49,
 fa 51 2 9,
 ld 52 51,
 b2 53 .add 50 52,
 fa 54 2 3,
 ld 55 54,
 b2 56 .add 53 55,
 b2 57 .lss 48 56,
 mv 58 57,
 gf 59 58 (.fad 3) [.t 10],
 gf 60 58 (.load 1 false false) [.t 59],
 gf 61 58 (.fad 3) [.t 3],
 gf 62 58 (.load 1 false false) [.t 61],
 gf 63 58 (.bin .leq) [.t 60, .t 62],
 ii 64 .pick [.t 58, .c (.p (.bool true)), .t 63]])
 (.cond (.t 64)
 (.seq
 (.reg [mc 6 (.bool false)])
 .ret)
 .skip))))
 (.reg [mv 34 8,
 b1 35 .add 34 (.int .i64 1),
 mt 8 35]))))))
 (.seq
 (.reg [fa 65 1 5,
 ld 66 65,
 mv 67 7,
 b1 68 .sub 67 (.int .i64 1),
 ii 69 (.iad 4) [.t 66, .t 68],
 ii 70 (.load 4 true false) [.t 69],
 ⟨some 11, none, .alloc 5 4 [.p (.int .i64 0), .p (.int .i64 0), .p (.int .i64 0), .p (.int .i64 0)], []⟩,
 ⟨none, none, .store 4, [.t 11, .t 70]⟩])
 (.seq
 (.regd [fa 71 1 11,
 ii 72 (.at 5 (.load 1 false false)) [.t 71],
 fa 73 2 11,
 ii 74 (.at 5 (.load 1 false false)) [.t 73],
 b2 75 .add 72 74,
 fa 76 1 4,
 ii 77 (.at 1 (.load 1 false false)) [.t 76],
 b2 78 .leq 75 77,
 mv 79 78,
 gt 80 79 (.at 2 (.load 2 true false)) [.t 5],
 gt 81 79 (.pl (.call 35)) [.t 80],
 gt 82 79 (.fad 0) [.t 4],
 gt 83 79 (.at 1 (.load 1 false false)) [.t 82],
 gt 84 79 (.mov false) [.t 7],
 gt 85 79 (.bin .sub) [.t 84, .c (.p (.int .i64 1))],
 gt 86 79 (.fad 3) [.t 3],
 gt 87 79 (.at 0 (.load 1 false false)) [.t 86],
 gt 88 79 (.bin .mul) [.t 85, .t 87],
 gt 89 79 (.bin .add) [.t 83, .t 88],
 gt 90 79 (.bin .eql) [.t 81, .t 89],
 ii 91 .pick [.t 79, .t 90, .c (.p (.bool false))],
 mt 6 91])
 .ret))))))⟩
theorem k53 : chkF Tryz.prog 53 F53 = true := by kernel_rfl
def F54 : Fn := ⟨65, 3, [.tmp 8, .tmp 9],
 (.seq
 (.reg [ii 4 (.box 0 5) [.t 0],
 ii 5 (.box 1 4) [.t 1],
 ii 8 (.mov true) [.c (.ow 4 true [])],
 mc 9 (.bool false)])
 (.seq
 (.reg [ii 10 (.mov true) [.c (.ow 4 true [])]])
 (.seq
 (.reg [fa 16 0 5,
 ld 17 16,
 mt 11 17])
 (.seq
 (.seq
 (.reg [mv 18 3,
 ii 19 .len [.t 18],
 ii 20 (.mov false) [.c (.p (.int .i64 0))]])
 (.block 0
 (.loop [0, 1, 3, 5, 8, 9, 12, 13, 14, 15, 16, 17, 21, 22, 23, 24, 25, 26, 27, 28, 29, 30, 31, 32, 33, 34, 35, 36, 37, 38, 39, 40, 41, 42, 43, 44, 45, 46, 47, 48, 49, 50, 51, 52, 53, 54, 55, 56, 57, 58, 59, 60, 61, 62, 63, 64] [2]
 (.seq
 (.reg [b2 21 .lss 20 19])
 (.seq
 (.cond (.t 21)
 .skip
 (.exit 0))
 (.seq
 (.block 1
 (.seq
 (.reg [mv 22 20,
 ii 23 (.iad 2) [.t 18, .t 20],
 ii 24 (.load 2 true false) [.t 23],
 ⟨some 13, none, .alloc 2 2 [.p (.int .i64 0), .p (.int .i64 0)], []⟩,
 mt 12 22,
 ⟨none, none, .store 2, [.t 13, .t 24]⟩])
 (.seq
 (.seq
 (.reg [mv 25 11,
 b1 26 .eql 25 (.int .i64 0)])
 (.cond (.t 26)
 (.exit 0)
 .skip))
 (.seq
 (.reg [fa 27 3 4,
 ld 28 27,
 mt 14 28])
 (.seq
 (.seq
 (.reg [mv 29 12,
 b1 30 .eql 29 (.int .i64 0)])
 (.cond (.t 30)
 (.reg [mc 14 (.int .i64 0)])
 .skip))
 (.seq
 (.reg [fa 31 1 13,
 ld 32 31,
 mv 33 14,
 b2 34 .sub 32 33,
 mv 35 11,
 ii 36 .mn [.t 34, .t 35],
 mt 15 36])
 (.seq
 (.reg [mt 37 10,
 fa 38 0 13,
 ld 39 38,
 mv 40 12,
 mv 41 2,
 fa 42 2 4,
 ld 43 42,
 b2 44 .add 41 43,
 b2 45 .mul 40 44,
 mv 46 2,
 mv 47 14,
 mv 48 15,
 b2 49 .add 47 48,
 ⟨some 50, none, .build [.int .i64 0, .int .i64 0, .int .i64 0, .int .i64 0] [(0, 1), (1, 1), (2, 1), (3, 1)], [.t 39, .t 45, .t 46, .t 49]⟩,
 ii 51 (.bsl 4 1) [.t 50],
 ii 52 (.app 4 32) [.t 37, .t 51],
 mt 10 52])
 (.reg [mv 53 11,
 mv 54 15,
 b2 55 .sub 53 54,
 mt 11 55]))))))))
 (.reg [b1 56 .add 20 (.int .i64 1),
 mv 20 56])))))))
 (.seq
 (.reg [mv 57 10,
 mv 58 11,
 b1 59 .eql 58 (.int .i64 0),
 mv 60 59,
 gt 61 60 (.mov false) [.t 10],
 gt 62 60 .len [.t 61],
 gt 63 60 (.bin .gtr) [.t 62, .c (.p (.int .i64 1))],
 ii 64 .pick [.t 60, .t 63, .c (.p (.bool false))],
 mt 8 57,
 mt 9 64])
 .ret)))))⟩
theorem k54 : chkF Tryz.prog 54 F54 = true := by kernel_rfl
def F55 : Fn := ⟨51, 3, [.tmp 10],
 (.seq
 (.reg [ii 5 (.box 0 5) [.t 0],
 ii 7 (.box 1 4) [.t 2],
 ii 10 (.mov true) [.c (.ow 2 true [])]])
 (.seq
 (.reg [ii 11 (.mov true) [.c (.ow 2 true [])]])
 (.seq
 (.seq
 (.reg [mv 15 1,
 ii 16 .len [.t 15],
 ii 17 (.mov false) [.c (.p (.int .i64 0))]])
 (.block 0
 (.loop [0, 1, 2, 10, 12, 13, 14, 18, 19, 20, 21, 22, 23, 24, 25, 26, 27, 28, 29, 30, 31, 32, 33, 34, 35, 36, 37, 38, 39, 40, 41, 42, 43, 44, 45, 46, 47, 48, 49, 50] []
 (.seq
 (.reg [b2 18 .lss 17 16])
 (.seq
 (.cond (.t 18)
 .skip
 (.exit 0))
 (.seq
 (.block 1
 (.seq
 (.reg [mv 19 17,
 ii 20 (.iad 1) [.t 15, .t 17],
 ld 21 20,
 mt 12 19,
 mt 13 21])
 (.seq
 (.reg [mv 22 13,
 mv 23 4,
 fa 24 2 7,
 ld 25 24,
 mv 26 4,
 ii 27 (.call 72) [.t 22, .t 23, .t 25, .t 26],
 mt 14 27])
 (.seq
 (.reg [mv 28 14,
 fa 29 3 5,
 ld 30 29,
 b2 31 .gtr 28 30])
 (.cond (.t 31)
 (.reg [mt 32 11,
 mv 33 12,
 mv 34 14,
 ⟨some 35, none, .build [.int .i64 0, .int .i64 0] [(0, 1), (1, 1)], [.t 33, .t 34]⟩,
 ii 36 (.bsl 2 1) [.t 35],
 ii 37 (.app 2 16) [.t 32, .t 36],
 mt 11 37])
 .skip)))))
 (.reg [b1 38 .add 17 (.int .i64 1),
 mv 17 38])))))))
 (.seq
 (.seq
 (.reg [mv 39 11,
 ii 40 .len [.t 39],
 mv 41 3,
 b2 42 .lss 40 41])
 (.cond (.t 42)
 (.seq
 (.reg [ii 10 (.mov true) [.c (.ow 2 true [])]])
 .ret)
 .skip))
 (.seq
 (.pre [0, 1, 2, 4, 5, 7, 10, 12, 13, 14, 15, 16, 17, 18, 19, 20, 21, 22, 23, 24, 25, 26, 27, 28, 29, 30, 31, 32, 33, 34, 35, 36, 37, 38, 39, 40, 41, 42, 43, 44, 45, 46, 47, 48, 49, 50] [] [0, 1] (.own 11 2 true (.reg [mv 43 11,
 ii 44 (.callm 73 2) [.t 43, .c (.p (.fn 74 []))]])))
 (.seq
 (.reg [mv 45 11,
 mv 46 3,
 ii 47 (.slb 2 2) [.t 45, .t 46],
 mt 11 47])
 (.seq
 (.reg [mv 48 11,
 ii 49 (.callm 76 2) [.t 48, .c (.p (.fn 77 []))]])
 (.seq
 (.reg [mv 50 11,
 mt 10 50])
 (.pre [] [2] [] .ret)))))))))⟩
theorem k55 : chkF Tryz.prog 55 F55 = true := by kernel_rfl
def F56 : Fn := ⟨46, 0, [.tmp 8],
 (.seq
 (.reg [mc 8 (.int .i64 0)])
 (.seq
 (.seq
 (.reg [mv 10 0,
 ii 11 .len [.t 10],
 b1 12 .gtr 11 (.int .i64 23),
 mv 13 12,
 gf 14 13 (.mov false) [.t 0],
 gf 15 13 (.call 34) [.t 14],
 gf 16 13 (.un .not) [.t 15],
 ii 17 .pick [.t 13, .c (.p (.bool true)), .t 16],
 mv 18 17,
 gf 19 18 (.mov false) [.t 1],
 gf 20 18 (.bin .lss) [.t 19, .c (.p (.int .i64 1))],
 ii 21 .pick [.t 18, .c (.p (.bool true)), .t 20],
 mv 22 21,
 gf 23 22 (.mov false) [.t 2],
 gf 24 22 (.mov false) [.t 1],
 gf 25 22 (.bin .lss) [.t 23, .t 24],
 ii 26 .pick [.t 22, .c (.p (.bool true)), .t 25],
 mv 27 26,
 gf 28 27 (.mov false) [.t 2],
 gf 29 27 (.bin .gtr) [.t 28, .c (.p (.int .i64 200))],
 ii 30 .pick [.t 27, .c (.p (.bool true)), .t 29]])
 (.cond (.t 30)
 (.seq
 (.reg [mc 8 (.int .i64 0)])
 .ret)
 .skip))
 (.seq
 (.seq
 (.reg [mv 31 3,
 mv 32 1,
 ii 33 .mn [.t 31, .t 32],
 mt 9 33])
 (.block 0
 (.loop [3, 8, 10, 11, 12, 13, 14, 15, 16, 17, 18, 19, 20, 21, 22, 23, 24, 25, 26, 27, 28, 29, 30, 31, 32, 33, 34, 35, 36, 37, 38, 39, 40, 41, 42, 43, 44, 45] []
 (.seq
 (.seq
 (.reg [mv 34 9,
 b1 35 .geq 34 (.int .i64 1)])
 (.cond (.t 35)
 .skip
 (.exit 0)))
 (.seq
 (.block 1
 (.seq
 (.reg [mv 38 0,
 mv 39 9,
 mv 40 1,
 mv 41 2,
 ⟨some 42, none, .build [.int .i64 0, .int .i64 0, .int .i64 0] [(0, 1), (1, 1), (2, 1)], [.t 39, .t 40, .t 41]⟩,
 ii 43 (.call 49) [.t 38, .t 42],
 ii 44 (.call 34) [.t 43]])
 (.cond (.t 44)
 (.seq
 (.reg [mv 45 9,
 mt 8 45])
 .ret)
 .skip)))
 (.reg [mv 36 9,
 b1 37 .sub 36 (.int .i64 1),
 mt 9 37]))))))
 (.seq
 (.reg [mc 8 (.int .i64 0)])
 .ret))))⟩
theorem k56 : chkF Tryz.prog 56 F56 = true := by kernel_rfl
def F57 : Fn := ⟨76, 1, [.tmp 6],
 (.seq
 (.reg [ii 6 (.mov true) [.c (.ow 1 true [])]])
 (.seq
 (.reg [mv 13 0,
 ii 14 .len [.t 13],
 ⟨some 15, none, .mksl 0 1 1 false [.p (.bool false)], [.t 14, .t 14]⟩,
 mt 7 15])
 (.seq
 (.seq
 (.reg [mc 8 (.int .i64 0)])
 (.block 0
 (.loop [6, 9, 10, 11, 12, 13, 14, 15, 16, 17, 18, 19, 20, 21, 22, 23, 24, 25, 26, 27, 28, 29, 30, 31, 32, 33, 34, 35, 36, 37, 38, 39, 40, 41, 42, 43, 44, 45, 46, 47, 48, 49, 50, 51, 52, 53, 54, 55, 56, 57, 58, 59, 60, 61, 62, 63, 64, 65, 66, 67, 68, 69, 70, 71, 72, 73, 74, 75] []
 (.seq
 (.seq
 (.reg [mv 16 8,
 mv 17 1,
 b2 18 .lss 16 17])
 (.cond (.t 18)
 .skip
 (.exit 0)))
 (.seq
 (.block 1
 (.seq
 (.reg [mc 9 (.int .i64 (-1))])
 (.seq
 (.seq
 (.reg [mc 10 (.int .i64 0)])
 (.block 2
 (.loop [6, 11, 12, 13, 14, 15, 16, 17, 18, 19, 20, 21, 22, 23, 24, 25, 26, 27, 28, 29, 30, 31, 32, 33, 34, 35, 36, 37, 38, 39, 40, 41, 42, 43, 44, 45, 46, 47, 48, 49, 50, 51, 52, 53, 54, 55, 56, 57, 58, 59, 60, 61, 62, 63, 64, 65, 66, 67, 68, 69, 70, 71, 72, 73, 74, 75] []
 (.seq
 (.seq
 (.reg [mv 21 10,
 mv 22 0,
 ii 23 .len [.t 22],
 b2 24 .lss 21 23])
 (.cond (.t 24)
 .skip
 (.exit 2)))
 (.seq
 (.block 3
 (.seq
 (.regd [mv 27 7,
 mv 28 10,
 ii 29 (.iad 1) [.t 27, .t 28],
 ii 30 (.at 0 (.load 1 false false)) [.t 29],
 ii 31 (.un .not) [.t 30],
 mv 32 31,
 gt 33 32 (.mov false) [.t 0],
 gt 34 32 (.mov false) [.t 10],
 gt 35 32 (.iad 1) [.t 33, .t 34],
 gt 36 32 (.loadp 1 false) [.t 35],
 gt 37 32 (.mov false) [.t 2],
 gt 38 32 (.bin .gtr) [.t 36, .t 37],
 ii 39 .pick [.t 32, .t 38, .c (.p (.bool false))],
 mv 40 39,
 gt 41 40 (.mov false) [.t 9],
 gt 42 40 (.bin .lss) [.t 41, .c (.p (.int .i64 0))],
 gt 43 40 (.mov false) [.t 42],
 gf 44 43 (.mov false) [.t 0],
 gf 45 43 (.mov false) [.t 10],
 gf 46 43 (.iad 1) [.t 44, .t 45],
 gf 47 43 (.loadp 1 false) [.t 46],
 gf 48 43 (.mov false) [.t 0],
 gf 49 43 (.mov false) [.t 9],
 gf 50 43 (.iad 1) [.t 48, .t 49],
 gf 51 43 (.loadp 1 false) [.t 50],
 gf 52 43 (.bin .gtr) [.t 47, .t 51],
 gt 53 40 .pick [.t 43, .c (.p (.bool true)), .t 52],
 ii 54 .pick [.t 40, .t 53, .c (.p (.bool false))]])
 (.cond (.t 54)
 (.reg [mv 55 10,
 mt 9 55])
 .skip)))
 (.reg [mv 25 10,
 b1 26 .add 25 (.int .i64 1),
 mt 10 26]))))))
 (.seq
 (.seq
 (.reg [mv 56 9,
 b1 57 .lss 56 (.int .i64 0)])
 (.cond (.t 57)
 (.seq
 (.reg [ii 6 (.mov true) [.c (.ow 1 true [])]])
 .ret)
 .skip))
 (.reg [mv 58 7,
 mv 59 9,
 ii 60 (.iad 1) [.t 58, .t 59],
 ⟨none, none, .store 1, [.t 60, .c (.p (.bool true))]⟩])))))
 (.reg [mv 19 8,
 b1 20 .add 19 (.int .i64 1),
 mt 8 20]))))))
 (.seq
 (.reg [ii 11 (.mov true) [.c (.ow 1 true [])]])
 (.seq
 (.seq
 (.reg [mc 12 (.int .i64 0)])
 (.block 4
 (.loop [1, 2, 6, 8, 9, 10, 13, 14, 15, 16, 17, 18, 19, 20, 21, 22, 23, 24, 25, 26, 27, 28, 29, 30, 31, 32, 33, 34, 35, 36, 37, 38, 39, 40, 41, 42, 43, 44, 45, 46, 47, 48, 49, 50, 51, 52, 53, 54, 55, 56, 57, 58, 59, 60, 61, 62, 63, 64, 65, 66, 67, 68, 69, 70, 71, 72, 73, 74, 75] []
 (.seq
 (.seq
 (.reg [mv 61 12,
 mv 62 0,
 ii 63 .len [.t 62],
 b2 64 .lss 61 63])
 (.cond (.t 64)
 .skip
 (.exit 4)))
 (.seq
 (.block 5
 (.seq
 (.reg [mv 67 7,
 mv 68 12,
 ii 69 (.iad 1) [.t 67, .t 68],
 ld 70 69])
 (.cond (.t 70)
 (.reg [mt 71 11,
 mv 72 12,
 ii 73 (.bsl 1 1) [.t 72],
 ii 74 (.app 1 8) [.t 71, .t 73],
 mt 11 74])
 .skip)))
 (.reg [mv 65 12,
 b1 66 .add 65 (.int .i64 1),
 mt 12 66]))))))
 (.seq
 (.reg [mv 75 11,
 mt 6 75])
 .ret))))))⟩
theorem k57 : chkF Tryz.prog 57 F57 = true := by kernel_rfl
def F58 : Fn := ⟨18, 0, [.tmp 4],
 (.seq
 (.reg [mc 4 (.int .i64 0)])
 (.seq
 (.seq
 (.reg [mv 6 1,
 b1 7 .leq 6 (.int .i64 0)])
 (.cond (.t 7)
 (.seq
 (.reg [mc 4 (.int .i64 0)])
 .ret)
 .skip))
 (.seq
 (.reg [mv 8 0,
 mv 9 1,
 b2 10 .quo 8 9,
 mt 5 10])
 (.seq
 (.seq
 (.reg [mv 11 0,
 mv 12 1,
 b2 13 .rem 11 12,
 b1 14 .lss 13 (.int .i64 0)])
 (.cond (.t 14)
 (.reg [mv 15 5,
 b1 16 .sub 15 (.int .i64 1),
 mt 5 16])
 .skip))
 (.seq
 (.reg [mv 17 5,
 mt 4 17])
 .ret)))))⟩
theorem k58 : chkF Tryz.prog 58 F58 = true := by kernel_rfl
def F59 : Fn := ⟨77, 3, [.cell 10 2, .tmp 11],
 (.seq
 (.reg [ii 5 (.box 0 5) [.t 0],
 ii 7 (.box 1 4) [.t 2],
 ⟨some 10, none, .alloc 2 2 [.p (.int .i64 0), .ow 4 true []], []⟩,
 mc 11 (.bool false)])
 (.seq
 (.regd [mv 15 1,
 mv 16 3,
 ii 17 (.iad 1) [.t 15, .t 16],
 ii 18 (.loadp 1 false) [.t 17],
 fa 19 2 7,
 ii 20 (.at 1 (.load 1 false false)) [.t 19],
 fa 21 0 7,
 ii 22 (.at 1 (.load 1 false false)) [.t 21],
 b1 23 .sub 22 (.int .i64 1),
 ii 24 (.pl (.call 79)) [.t 18, .t 20, .t 23],
 mt 12 24])
 (.seq
 (.regd [fa 25 0 7,
 ii 26 (.at 1 (.load 1 false false)) [.t 25],
 mv 27 12,
 b2 28 .sub 26 27,
 fa 29 3 5,
 ii 30 (.at 0 (.load 1 false false)) [.t 29],
 b2 31 .add 28 30,
 fa 32 1 7,
 ii 33 (.at 1 (.load 1 false false)) [.t 32],
 mv 34 12,
 b2 35 .sub 33 34,
 fa 36 2 5,
 ii 37 (.at 0 (.load 1 false false)) [.t 36],
 b2 38 .sub 35 37,
 mt 13 31,
 mt 14 38])
 (.seq
 (.seq
 (.regd [mv 39 12,
 b1 40 .lss 39 (.int .i64 1),
 mv 41 40,
 gf 42 41 (.mov false) [.t 13],
 gf 43 41 (.mov false) [.t 14],
 gf 44 41 (.bin .gtr) [.t 42, .t 43],
 ii 45 .pick [.t 41, .c (.p (.bool true)), .t 44],
 mv 46 45,
 gf 47 46 (.mov false) [.t 1],
 gf 48 46 (.mov false) [.t 4],
 gf 49 46 (.iad 1) [.t 47, .t 48],
 gf 50 46 (.loadp 1 false) [.t 49],
 gf 51 46 (.pl (.call 48)) [.t 50],
 gf 52 46 (.mov false) [.t 13],
 gf 53 46 (.mov false) [.t 14],
 gf 54 46 (.fad 2) [.t 7],
 gf 55 46 (.at 1 (.load 1 false false)) [.t 54],
 ⟨some 56, (some (46, false)), .build [.int .i64 0, .int .i64 0, .int .i64 0] [(0, 1), (1, 1), (2, 1)], [.t 52, .t 53, .t 55]⟩,
 gf 57 46 (.bsl 3 1) [.t 56],
 gf 58 46 (.pl (.app 3 24)) [.t 51, .t 57],
 gf 59 46 (.pl (.call 47)) [.t 58],
 gf 60 46 (.un .not) [.t 59],
 ii 61 .pick [.t 46, .c (.p (.bool true)), .t 60]])
 (.cond (.t 61)
 (.seq
 (.reg [⟨some 62, none, .build [.int .i64 0, .sl 4 true []] [], []⟩,
 ⟨none, none, .store 2, [.t 10, .t 62]⟩,
 mc 11 (.bool false)])
 .ret)
 .skip))
 (.seq
 (.reg [mv 63 3,
 mv 64 12,
 mv 65 12,
 ⟨some 66, none, .build [.int .i64 0, .int .i64 0, .int .i64 0, .int .i64 0] [(0, 1), (2, 1), (3, 1)], [.t 63, .t 64, .t 65]⟩,
 mv 67 4,
 mv 68 12,
 fa 69 2 5,
 ld 70 69,
 b2 71 .add 68 70,
 mv 72 14,
 mv 73 13,
 ⟨some 74, none, .build [.int .i64 0, .int .i64 0, .int .i64 0, .int .i64 0] [(0, 1), (1, 1), (2, 1), (3, 1)], [.t 67, .t 71, .t 72, .t 73]⟩,
 ii 75 (.bsl 4 2) [.t 66, .t 74],
 ⟨some 76, none, .build [.int .i64 0, .sl 4 true []] [(0, 1), (1, 1)], [.c (.p (.int .i64 3)), .t 75]⟩,
 ⟨none, none, .store 2, [.t 10, .t 76]⟩,
 mc 11 (.bool true)])
 .ret)))))⟩
theorem k59 : chkF Tryz.prog 59 F59 = true := by kernel_rfl
def F60 : Fn := ⟨43, 0, [.tmp 6],
 (.seq
 (.reg [mc 6 (.int .i64 0)])
 (.seq
 (.seq
 (.reg [mv 8 0,
 ii 9 .len [.t 8],
 b1 10 .gtr 9 (.int .i64 23),
 mv 11 10,
 gf 12 11 (.mov false) [.t 0],
 gf 13 11 (.call 34) [.t 12],
 gf 14 11 (.un .not) [.t 13],
 ii 15 .pick [.t 11, .c (.p (.bool true)), .t 14],
 mv 16 15,
 gf 17 16 (.mov false) [.t 1],
 gf 18 16 (.bin .lss) [.t 17, .c (.p (.int .i64 1))],
 ii 19 .pick [.t 16, .c (.p (.bool true)), .t 18],
 mv 20 19,
 gf 21 20 (.mov false) [.t 1],
 gf 22 20 (.bin .gtr) [.t 21, .c (.p (.int .i64 200))],
 ii 23 .pick [.t 20, .c (.p (.bool true)), .t 22]])
 (.cond (.t 23)
 (.seq
 (.reg [mc 6 (.int .i64 0)])
 .ret)
 .skip))
 (.seq
 (.reg [mc 7 (.int .i64 0)])
 (.seq
 (.block 0
 (.loop [6, 8, 9, 10, 11, 12, 13, 14, 15, 16, 17, 18, 19, 20, 21, 22, 23, 24, 25, 26, 27, 28, 29, 30, 31, 32, 33, 34, 35, 36, 37, 38, 39, 40, 41, 42] []
 (.seq
 (.seq
 (.reg [mv 24 7,
 mv 25 2,
 mv 26 1,
 ii 27 .mn [.t 25, .t 26],
 b2 28 .lss 24 27,
 mv 29 28,
 gt 30 29 (.mov false) [.t 0],
 gt 31 29 (.mov false) [.t 7],
 gt 32 29 (.bin .add) [.t 31, .c (.p (.int .i64 1))],
 gt 33 29 (.mov false) [.t 7],
 gt 34 29 (.bin .add) [.t 33, .c (.p (.int .i64 1))],
 gt 35 29 (.mov false) [.t 1],
 ⟨some 36, (some (29, true)), .build [.int .i64 0, .int .i64 0, .int .i64 0] [(0, 1), (1, 1), (2, 1)], [.t 32, .t 34, .t 35]⟩,
 gt 37 29 (.call 49) [.t 30, .t 36],
 gt 38 29 (.call 34) [.t 37],
 ii 39 .pick [.t 29, .t 38, .c (.p (.bool false))]])
 (.cond (.t 39)
 .skip
 (.exit 0)))
 (.block 1
 (.reg [mv 40 7,
 b1 41 .add 40 (.int .i64 1),
 mt 7 41])))))
 (.seq
 (.reg [mv 42 7,
 mt 6 42])
 .ret)))))⟩
theorem k60 : chkF Tryz.prog 60 F60 = true := by kernel_rfl
def F61 : Fn := ⟨61, 0, [.tmp 2, .tmp 3],
 (.seq
 (.reg [mc 2 (.int .i64 0),
 mc 3 (.bool false)])
 (.seq
 (.reg [mv 10 0,
 ii 11 (.call 80) [.t 10],
 mv 9 11,
 ii 12 (.ext 0) [.t 9],
 ii 13 (.ext 1) [.t 9],
 mt 4 12,
 mt 5 13])
 (.seq
 (.reg [mc 6 (.int .i64 0)])
 (.seq
 (.seq
 (.reg [mc 7 (.int .i64 1)])
 (.block 0
 (.loop [2, 3, 8, 9, 10, 11, 12, 13, 14, 15, 16, 17, 18, 19, 20, 21, 22, 23, 24, 25, 26, 27, 28, 29, 30, 31, 32, 33, 34, 35, 36, 37, 38, 39, 40, 41, 42, 43, 44, 45, 46, 47, 48, 49, 50, 51, 52, 53, 54, 55, 56, 57, 58, 59, 60] []
 (.seq
 (.seq
 (.reg [mv 14 7,
 mv 15 4,
 b2 16 .leq 14 15])
 (.cond (.t 16)
 .skip
 (.exit 0)))
 (.seq
 (.block 1
 (.seq
 (.seq
 (.reg [mc 8 (.int .i64 0)])
 (.block 2
 (.loop [2, 3, 9, 10, 11, 12, 13, 14, 15, 16, 17, 18, 19, 20, 21, 22, 23, 24, 25, 26, 27, 28, 29, 30, 31, 32, 33, 34, 35, 36, 37, 38, 39, 40, 41, 42, 43, 44, 45, 46, 47, 48, 49, 50, 51, 52, 53, 54, 55, 56, 57, 58, 59, 60] []
 (.seq
 (.seq
 (.reg [mv 19 8,
 mv 20 0,
 ii 21 .len [.t 20],
 b2 22 .lss 19 21])
 (.cond (.t 22)
 .skip
 (.exit 2)))
 (.seq
 (.block 3
 (.seq
 (.regd [mv 25 7,
 mv 26 0,
 mv 27 8,
 ii 28 (.iad 3) [.t 26, .t 27],
 fa 29 1 28,
 ii 30 (.loadp 1 false) [.t 29],
 b2 31 .geq 25 30,
 mv 32 31,
 gt 33 32 (.mov false) [.t 7],
 gt 34 32 (.mov false) [.t 0],
 gt 35 32 (.mov false) [.t 8],
 gt 36 32 (.iad 3) [.t 34, .t 35],
 gt 37 32 (.fad 1) [.t 36],
 gt 38 32 (.loadp 1 false) [.t 37],
 gt 39 32 (.bin .sub) [.t 33, .t 38],
 gt 40 32 (.mov false) [.t 0],
 gt 41 32 (.mov false) [.t 8],
 gt 42 32 (.iad 3) [.t 40, .t 41],
 gt 43 32 (.fad 2) [.t 42],
 gt 44 32 (.loadp 1 false) [.t 43],
 gt 45 32 (.bin .rem) [.t 39, .t 44],
 gt 46 32 (.bin .eql) [.t 45, .c (.p (.int .i64 0))],
 ii 47 .pick [.t 32, .t 46, .c (.p (.bool false))]])
 (.cond (.t 47)
 (.reg [mv 48 6,
 mv 49 0,
 mv 50 8,
 ii 51 (.iad 3) [.t 49, .t 50],
 fa 52 0 51,
 ld 53 52,
 b2 54 .add 48 53,
 mt 6 54])
 .skip)))
 (.reg [mv 23 8,
 b1 24 .add 23 (.int .i64 1),
 mt 8 24]))))))
 (.seq
 (.reg [mv 55 6,
 mv 56 7,
 b2 57 .gtr 55 56])
 (.cond (.t 57)
 (.seq
 (.reg [mv 58 7,
 mv 59 5,
 mt 2 58,
 mt 3 59])
 .ret)
 .skip))))
 (.reg [mv 17 7,
 b1 18 .add 17 (.int .i64 1),
 mt 7 18]))))))
 (.seq
 (.reg [mv 60 5,
 mc 2 (.int .i64 0),
 mt 3 60])
 .ret)))))⟩
theorem k61 : chkF Tryz.prog 61 F61 = true := by kernel_rfl
def F62 : Fn := ⟨35, 2, [.tmp 4],
 (.seq
 (.reg [ii 2 (.box 0 5) [.t 0],
 ii 3 (.box 1 4) [.t 1],
 mc 4 (.bool false)])
 (.seq
 (.reg [fa 5 0 3,
 ld 6 5,
 b1 7 .geq 6 (.int .i64 0),
 mv 8 7,
 gt 9 8 (.fad 0) [.t 3],
 gt 10 8 (.load 1 false false) [.t 9],
 gt 11 8 (.fad 0) [.t 2],
 gt 12 8 (.load 1 false false) [.t 11],
 gt 13 8 (.bin .lss) [.t 10, .t 12],
 ii 14 .pick [.t 8, .t 13, .c (.p (.bool false))],
 mv 15 14,
 gt 16 15 (.fad 1) [.t 3],
 gt 17 15 (.load 1 false false) [.t 16],
 gt 18 15 (.call 65) [.t 17, .c (.p (.int .i64 0)), .c (.p (.int .i64 200))],
 ii 19 .pick [.t 15, .t 18, .c (.p (.bool false))],
 mv 20 19,
 gt 21 20 (.fad 3) [.t 3],
 gt 22 20 (.load 1 false false) [.t 21],
 gt 23 20 (.bin .geq) [.t 22, .c (.p (.int .i64 1))],
 ii 24 .pick [.t 20, .t 23, .c (.p (.bool false))],
 mv 25 24,
 gt 26 25 (.fad 2) [.t 3],
 gt 27 25 (.load 1 false false) [.t 26],
 gt 28 25 (.fad 3) [.t 3],
 gt 29 25 (.load 1 false false) [.t 28],
 gt 30 25 (.fad 1) [.t 3],
 gt 31 25 (.load 1 false false) [.t 30],
 gt 32 25 (.bin .sub) [.c (.p (.int .i64 200)), .t 31],
 gt 33 25 (.call 65) [.t 27, .t 29, .t 32],
 ii 34 .pick [.t 25, .t 33, .c (.p (.bool false))],
 mt 4 34])
 .ret))⟩
theorem k62 : chkF Tryz.prog 62 F62 = true := by kernel_rfl
def F63 : Fn := ⟨26, 0, [.tmp 4],
 (.seq
 (.reg [mc 4 (.bool false)])
 (.seq
 (.seq
 (.reg [mv 6 0,
 ii 7 .len [.t 6],
 mv 8 1,
 ii 9 .len [.t 8],
 b2 10 .neq 7 9])
 (.cond (.t 10)
 (.seq
 (.reg [mc 4 (.bool false)])
 .ret)
 .skip))
 (.seq
 (.seq
 (.reg [mv 11 0,
 ii 12 .len [.t 11],
 ii 13 (.mov false) [.c (.p (.int .i64 0))]])
 (.block 0
 (.loop [4, 5, 6, 7, 8, 9, 10, 11, 14, 15, 16, 17, 18, 19, 20, 21, 22, 23, 24, 25] []
 (.seq
 (.reg [b2 14 .lss 13 12])
 (.seq
 (.cond (.t 14)
 .skip
 (.exit 0))
 (.seq
 (.block 1
 (.seq
 (.reg [mv 15 13,
 mt 5 15])
 (.seq
 (.regd [mv 16 0,
 mv 17 5,
 ii 18 (.iad 4) [.t 16, .t 17],
 ii 19 (.loadp 4 true) [.t 18],
 mv 20 1,
 mv 21 5,
 ii 22 (.iad 4) [.t 20, .t 21],
 ii 23 (.loadp 4 true) [.t 22],
 ii 24 (.eqs 4 true) [.t 19, .t 23]])
 (.cond (.t 24)
 (.seq
 (.reg [mc 4 (.bool false)])
 .ret)
 .skip))))
 (.reg [b1 25 .add 13 (.int .i64 1),
 mv 13 25])))))))
 (.seq
 (.reg [mc 4 (.bool true)])
 .ret))))⟩
theorem k63 : chkF Tryz.prog 63 F63 = true := by kernel_rfl
end Go.Proofs.YtkjghcbnmipgfaaGreatDoor.Vc
namespace Go.Proofs.YtkjghcbnmipgfaaGreatDoor.Vc
open Go.RowKit
def F64 : Fn := ⟨83, 4, [.tmp 0],
 (.seq
 (.reg [mc 0 (.bool false)])
 (.seq
 (.reg [ii 6 (.bsl 1 1) [.c (.p (.int .i64 0))],
 ⟨some 7, none, .build [.int .i64 0, .int .i64 0, .int .i64 0, .int .i64 0, .sl 1 true []] [(0, 1), (1, 1), (2, 1), (4, 1)], [.c (.p (.int .i64 2)), .c (.p (.int .i64 1)), .c (.p (.int .i64 1)), .t 6]⟩,
 ⟨some 1, none, .alloc 0 5 [.p (.int .i64 0), .p (.int .i64 0), .p (.int .i64 0), .p (.int .i64 0), .ow 1 true []], []⟩,
 ⟨none, none, .store 5, [.t 1, .t 7]⟩])
 (.seq
 (.reg [⟨some 8, none, .build [.int .i64 0, .int .i64 0, .int .i64 0] [(1, 1), (2, 1)], [.c (.p (.int .i64 1)), .c (.p (.int .i64 2))]⟩,
 ii 9 (.bsl 3 1) [.t 8],
 ⟨some 10, none, .build [.int .i64 0, .int .i64 0, .int .i64 0, .sl 3 true []] [(0, 1), (1, 1), (2, 1), (3, 1)], [.c (.p (.int .i64 3)), .c (.p (.int .i64 20)), .c (.p (.int .i64 20)), .t 9]⟩,
 ⟨some 2, none, .alloc 1 4 [.p (.int .i64 0), .p (.int .i64 0), .p (.int .i64 0), .ow 3 true []], []⟩,
 ⟨none, none, .store 4, [.t 2, .t 10]⟩])
 (.seq
 (.reg [⟨some 11, none, .build [.int .i64 0, .int .i64 0, .int .i64 0] [(1, 1), (2, 1)], [.c (.p (.int .i64 1)), .c (.p (.int .i64 4))]⟩,
 ii 12 (.bsl 3 1) [.t 11],
 ⟨some 13, none, .build [.int .i64 0, .int .i64 0, .int .i64 0, .sl 3 true []] [(0, 1), (1, 1), (2, 1), (3, 1)], [.c (.p (.int .i64 3)), .c (.p (.int .i64 20)), .c (.p (.int .i64 30)), .t 12]⟩,
 ⟨some 3, none, .alloc 2 4 [.p (.int .i64 0), .p (.int .i64 0), .p (.int .i64 0), .ow 3 true []], []⟩,
 ⟨none, none, .store 4, [.t 3, .t 13]⟩])
 (.seq
 (.reg [⟨some 14, none, .build [.int .i64 0, .int .i64 0, .int .i64 0, .int .i64 0] [(0, 1), (2, 1), (3, 1)], [.c (.p (.int .i64 1)), .c (.p (.int .i64 20)), .c (.p (.int .i64 3))]⟩,
 ii 15 (.bsl 4 1) [.t 14],
 ⟨some 16, none, .build [.int .i64 0, .sl 4 true []] [(0, 1), (1, 1)], [.c (.p (.int .i64 1)), .t 15]⟩,
 ⟨some 4, none, .alloc 3 2 [.p (.int .i64 0), .ow 4 true []], []⟩,
 ⟨none, none, .store 2, [.t 4, .t 16]⟩])
 (.seq
 (.reg [ii 17 (.load 5 true false) [.t 1],
 ii 18 (.load 4 true false) [.t 2],
 ii 19 (.load 4 true false) [.t 3],
 ii 20 (.bsl 4 2) [.t 18, .t 19],
 ii 21 (.load 2 true false) [.t 4],
 ii 22 (.load 2 true false) [.t 4],
 ii 23 (.bsl 2 2) [.t 21, .t 22],
 ii 24 (.call 81) [.t 17, .t 20, .t 23],
 mt 5 24])
 (.seq
 (.reg [ii 25 (.call 82) [],
 mv 26 25,
 gt 27 26 (.load 5 true false) [.t 1],
 gt 28 26 (.load 4 true false) [.t 3],
 gt 29 26 (.call 83) [.t 27, .t 28, .c (.p (.int .i64 0))],
 gt 30 26 (.bin .eql) [.t 29, .c (.p (.int .i64 4))],
 ii 31 .pick [.t 26, .t 30, .c (.p (.bool false))],
 mv 32 31,
 gt 33 32 (.load 5 true false) [.t 1],
 gt 34 32 (.load 4 true false) [.t 2],
 gt 35 32 (.load 4 true false) [.t 3],
 gt 36 32 (.bsl 4 2) [.t 34, .t 35],
 gt 37 32 (.call 84) [.t 33, .t 36, .c (.p (.int .i64 0)), .c (.p (.int .i64 0))],
 gt 38 32 (.bin .eql) [.t 37, .c (.p (.int .i64 8))],
 ii 39 .pick [.t 32, .t 38, .c (.p (.bool false))],
 mv 40 39,
 gt 41 40 (.load 5 true false) [.t 1],
 gt 42 40 (.load 4 true false) [.t 2],
 gt 43 40 (.load 4 true false) [.t 3],
 gt 44 40 (.bsl 4 2) [.t 42, .t 43],
 gt 45 40 (.call 85) [.t 41, .t 44, .c (.p (.int .i64 1))],
 gt 46 40 (.bin .eql) [.t 45, .c (.p (.int .i64 8))],
 ii 47 .pick [.t 40, .t 46, .c (.p (.bool false))],
 mv 48 47,
 gt 49 48 (.mov false) [.t 5],
 gt 50 48 .len [.t 49],
 gt 51 48 (.bin .eql) [.t 50, .c (.p (.int .i64 2))],
 ii 52 .pick [.t 48, .t 51, .c (.p (.bool false))],
 mv 53 52,
 gt 54 53 (.mov false) [.t 5],
 gt 55 53 (.iad 1) [.t 54, .c (.p (.int .i64 0))],
 gt 56 53 (.load 1 false false) [.t 55],
 gt 57 53 .len [.t 56],
 gt 58 53 (.bin .eql) [.t 57, .c (.p (.int .i64 0))],
 ii 59 .pick [.t 53, .t 58, .c (.p (.bool false))],
 mv 60 59,
 gt 61 60 (.mov false) [.t 5],
 gt 62 60 (.iad 1) [.t 61, .c (.p (.int .i64 1))],
 gt 63 60 (.load 1 false false) [.t 62],
 gt 64 60 .len [.t 63],
 gt 65 60 (.bin .eql) [.t 64, .c (.p (.int .i64 2))],
 ii 66 .pick [.t 60, .t 65, .c (.p (.bool false))],
 mv 67 66,
 gt 68 67 (.mov false) [.t 5],
 gt 69 67 (.iad 1) [.t 68, .c (.p (.int .i64 1))],
 gt 70 67 (.load 1 false false) [.t 69],
 gt 71 67 (.iad 3) [.t 70, .c (.p (.int .i64 0))],
 gt 72 67 (.fad 0) [.t 71],
 gt 73 67 (.load 1 false false) [.t 72],
 gt 74 67 (.bin .eql) [.t 73, .c (.p (.int .i64 11))],
 ii 75 .pick [.t 67, .t 74, .c (.p (.bool false))],
 mv 76 75,
 gt 77 76 (.mov false) [.t 5],
 gt 78 76 (.iad 1) [.t 77, .c (.p (.int .i64 1))],
 gt 79 76 (.load 1 false false) [.t 78],
 gt 80 76 (.call 86) [.t 79],
 gt 81 76 (.bin .eql) [.t 80, .c (.p (.int .i64 9167))],
 ii 82 .pick [.t 76, .t 81, .c (.p (.bool false))],
 mt 0 82])
 .ret)))))))⟩
theorem k64 : chkF Tryz.prog 64 F64 = true := by kernel_rfl
def F65 : Fn := ⟨15, 0, [.tmp 6],
 (.seq
 (.reg [mc 6 (.bool false)])
 (.seq
 (.reg [mv 7 0,
 mv 8 1,
 b2 9 .geq 7 8,
 mv 10 9,
 gt 11 10 (.mov false) [.t 0],
 gt 12 10 (.mov false) [.t 2],
 gt 13 10 (.bin .leq) [.t 11, .t 12],
 ii 14 .pick [.t 10, .t 13, .c (.p (.bool false))],
 mt 6 14])
 .ret))⟩
theorem k65 : chkF Tryz.prog 65 F65 = true := by kernel_rfl
def F66 : Fn := ⟨22, 0, [.tmp 2, .tmp 3],
 (.seq
 (.reg [mc 2 (.int .i64 0),
 mc 3 (.bool false)])
 (.seq
 (.seq
 (.reg [mv 6 0,
 ii 7 (.call 87) [.t 6],
 ii 8 (.un .not) [.t 7]])
 (.cond (.t 8)
 (.seq
 (.reg [mc 2 (.int .i64 0),
 mc 3 (.bool false)])
 .ret)
 .skip))
 (.seq
 (.seq
 (.reg [mv 9 0,
 ii 10 .len [.t 9],
 b1 11 .eql 10 (.int .i64 0)])
 (.cond (.t 11)
 (.seq
 (.reg [mc 2 (.int .i64 0),
 mc 3 (.bool true)])
 .ret)
 .skip))
 (.seq
 (.seq
 (.reg [mc 4 (.int .i64 1)])
 (.block 0
 (.loop [2, 3, 5, 6, 7, 8, 9, 10, 11, 12, 13, 14, 15, 16, 17, 18, 19, 20, 21] []
 (.seq
 (.seq
 (.reg [mv 12 4,
 b1 13 .leq 12 (.int .i64 20000)])
 (.cond (.t 13)
 .skip
 (.exit 0)))
 (.block 1
 (.seq
 (.reg [mv 14 0,
 mv 15 4,
 ii 16 (.call 88) [.t 14, .t 15],
 mt 5 16])
 (.seq
 (.seq
 (.reg [mv 17 5,
 mv 18 4,
 b2 19 .eql 17 18])
 (.cond (.t 19)
 (.seq
 (.reg [mv 20 4,
 mt 2 20,
 mc 3 (.bool true)])
 .ret)
 .skip))
 (.reg [mv 21 5,
 mt 4 21]))))))))
 (.seq
 (.reg [mc 2 (.int .i64 0),
 mc 3 (.bool false)])
 .ret)))))⟩
theorem k66 : chkF Tryz.prog 66 F66 = true := by kernel_rfl
def F67 : Fn := ⟨45, 1, [.tmp 2, .tmp 3],
 (.seq
 (.reg [mc 2 (.int .i64 0),
 mc 3 (.bool false)])
 (.seq
 (.reg [mv 11 0,
 ii 12 (.call 66) [.t 11],
 mv 10 12,
 ii 13 (.ext 0) [.t 10],
 ii 14 (.ext 1) [.t 10],
 mt 4 13,
 mt 5 14])
 (.seq
 (.seq
 (.reg [mv 15 5,
 ii 16 (.un .not) [.t 15]])
 (.cond (.t 16)
 (.seq
 (.reg [mc 2 (.int .i64 0),
 mc 3 (.bool false)])
 .ret)
 .skip))
 (.seq
 (.reg [mv 17 4,
 b1 18 .add 17 (.int .i64 1),
 mt 6 18])
 (.seq
 (.seq
 (.reg [mv 19 0,
 ii 20 .len [.t 19],
 ii 21 (.mov false) [.c (.p (.int .i64 0))]])
 (.block 0
 (.loop [2, 3, 5, 8, 9, 10, 11, 12, 13, 14, 15, 16, 17, 18, 22, 23, 24, 25, 26, 27, 28, 29, 30, 31, 32, 33, 34, 35, 36, 37, 38, 39, 40, 41, 42, 43, 44] [0]
 (.seq
 (.reg [b2 22 .lss 21 20])
 (.seq
 (.cond (.t 22)
 .skip
 (.exit 0))
 (.seq
 (.block 1
 (.seq
 (.reg [ii 23 (.iad 3) [.t 19, .t 21],
 ii 24 (.load 3 true false) [.t 23],
 ⟨some 8, none, .alloc 0 3 [.p (.int .i64 0), .p (.int .i64 0), .p (.int .i64 0)], []⟩,
 ⟨none, none, .store 3, [.t 8, .t 24]⟩])
 (.seq
 (.reg [fa 25 1 8,
 ld 26 25,
 mt 9 26])
 (.block 2
 (.loop [2, 3, 5, 10, 11, 12, 13, 14, 15, 16, 17, 18, 22, 23, 24, 25, 26, 27, 28, 29, 30, 31, 32, 33, 34, 35, 36, 37, 38, 39, 40, 41, 42, 43, 44] []
 (.seq
 (.seq
 (.reg [mv 27 9,
 mv 28 6,
 b2 29 .lss 27 28])
 (.cond (.t 29)
 .skip
 (.exit 2)))
 (.seq
 (.block 3
 (.seq
 (.reg [mv 34 0,
 mv 35 9,
 ii 36 (.call 89) [.t 34, .t 35],
 mv 37 9,
 b2 38 .gtr 36 37])
 (.cond (.t 38)
 (.reg [mv 39 9,
 mt 6 39])
 .skip)))
 (.reg [mv 30 9,
 fa 31 2 8,
 ld 32 31,
 b2 33 .add 30 32,
 mt 9 33]))))))))
 (.reg [b1 40 .add 21 (.int .i64 1),
 mv 21 40])))))))
 (.seq
 (.seq
 (.reg [mv 41 6,
 mv 42 4,
 b2 43 .gtr 41 42])
 (.cond (.t 43)
 (.seq
 (.reg [mc 2 (.int .i64 0),
 mc 3 (.bool false)])
 .ret)
 .skip))
 (.seq
 (.reg [mv 44 6,
 mt 2 44,
 mc 3 (.bool true)])
 .ret)))))))⟩
theorem k67 : chkF Tryz.prog 67 F67 = true := by kernel_rfl
def F68 : Fn := ⟨15, 0, [.tmp 6],
 (.seq
 (.reg [mc 6 (.bool false)])
 (.seq
 (.reg [mv 7 0,
 mv 8 1,
 b2 9 .geq 7 8,
 mv 10 9,
 gt 11 10 (.mov false) [.t 0],
 gt 12 10 (.mov false) [.t 2],
 gt 13 10 (.bin .leq) [.t 11, .t 12],
 ii 14 .pick [.t 10, .t 13, .c (.p (.bool false))],
 mt 6 14])
 .ret))⟩
theorem k68 : chkF Tryz.prog 68 F68 = true := by kernel_rfl
def F69 : Fn := ⟨12, 0, [.tmp 3],
 (.seq
 (.reg [mc 3 (.bool false)])
 (.seq
 (.reg [mv 4 0,
 b1 5 .lss 4 (.int .i64 0),
 mv 6 5,
 gf 7 6 (.mov false) [.t 0],
 gf 8 6 (.fad 1) [.t 1],
 gf 9 6 (.load 1 false false) [.t 8],
 gf 10 6 (.bin .geq) [.t 7, .t 9],
 ii 11 .pick [.t 6, .c (.p (.bool true)), .t 10],
 mt 3 11])
 .ret))⟩
theorem k69 : chkF Tryz.prog 69 F69 = true := by kernel_rfl
def F70 : Fn := ⟨9, 0, [.tmp 4],
 (.seq
 (.reg [mc 4 (.bool false)])
 (.seq
 (.reg [mv 5 0,
 mv 6 1,
 ii 7 (.call 90) [.t 5, .t 6],
 b1 8 .geq 7 (.int .i64 0),
 mt 4 8])
 .ret))⟩
theorem k70 : chkF Tryz.prog 70 F70 = true := by kernel_rfl
def F71 : Fn := ⟨47, 2, [.tmp 4],
 (.seq
 (.reg [ii 2 (.box 0 5) [.t 0],
 ii 3 (.box 1 4) [.t 1],
 mc 4 (.bool false)])
 (.seq
 (.reg [fa 6 0 3,
 ld 7 6,
 b1 8 .geq 7 (.int .i64 0),
 mv 9 8,
 gt 10 9 (.fad 0) [.t 3],
 gt 11 9 (.load 1 false false) [.t 10],
 gt 12 9 (.fad 0) [.t 2],
 gt 13 9 (.load 1 false false) [.t 12],
 gt 14 9 (.bin .lss) [.t 11, .t 13],
 ii 15 .pick [.t 9, .t 14, .c (.p (.bool false))],
 mv 16 15,
 gt 17 16 (.fad 1) [.t 3],
 gt 18 16 (.load 1 false false) [.t 17],
 gt 19 16 (.call 68) [.t 18, .c (.p (.int .i64 0)), .c (.p (.int .i64 200))],
 ii 20 .pick [.t 16, .t 19, .c (.p (.bool false))],
 mt 5 20])
 (.seq
 (.reg [mv 21 5,
 mv 22 21,
 gt 23 22 (.fad 3) [.t 3],
 gt 24 22 (.load 1 false false) [.t 23],
 gt 25 22 (.bin .geq) [.t 24, .c (.p (.int .i64 1))],
 ii 26 .pick [.t 22, .t 25, .c (.p (.bool false))],
 mv 27 26,
 gt 28 27 (.fad 3) [.t 3],
 gt 29 27 (.load 1 false false) [.t 28],
 gt 30 27 (.fad 2) [.t 3],
 gt 31 27 (.load 1 false false) [.t 30],
 gt 32 27 (.bin .leq) [.t 29, .t 31],
 ii 33 .pick [.t 27, .t 32, .c (.p (.bool false))],
 mv 34 33,
 gt 35 34 (.fad 2) [.t 3],
 gt 36 34 (.load 1 false false) [.t 35],
 gt 37 34 (.bin .leq) [.t 36, .c (.p (.int .i64 200))],
 ii 38 .pick [.t 34, .t 37, .c (.p (.bool false))],
 mv 39 38,
 gt 40 39 (.fad 1) [.t 3],
 gt 41 39 (.load 1 false false) [.t 40],
 gt 42 39 (.fad 2) [.t 3],
 gt 43 39 (.load 1 false false) [.t 42],
 gt 44 39 (.bin .add) [.t 41, .t 43],
 gt 45 39 (.bin .leq) [.t 44, .c (.p (.int .i64 200))],
 ii 46 .pick [.t 39, .t 45, .c (.p (.bool false))],
 mt 4 46])
 .ret)))⟩
theorem k71 : chkF Tryz.prog 71 F71 = true := by kernel_rfl
def F72 : Fn := ⟨40, 0, [.tmp 8],
 (.seq
 (.reg [mc 8 (.int .i64 0)])
 (.seq
 (.seq
 (.reg [mv 12 0,
 mv 13 1,
 mv 14 2,
 ii 15 (.call 91) [.t 12, .t 13, .t 14],
 ii 16 (.un .not) [.t 15]])
 (.cond (.t 16)
 (.seq
 (.reg [mc 8 (.int .i64 0)])
 .ret)
 .skip))
 (.seq
 (.reg [mv 17 3,
 mv 18 1,
 ii 19 .mn [.t 17, .t 18],
 mc 9 (.int .i64 0),
 mt 10 19])
 (.seq
 (.block 0
 (.loop [3, 8, 11, 12, 13, 14, 15, 16, 17, 18, 19, 20, 21, 22, 23, 24, 25, 26, 27, 28, 29, 30, 31, 32, 33, 34, 35, 36, 37, 38, 39] []
 (.seq
 (.seq
 (.reg [mv 20 9,
 mv 21 10,
 b2 22 .lss 20 21])
 (.cond (.t 22)
 .skip
 (.exit 0)))
 (.block 1
 (.seq
 (.reg [mv 23 9,
 mv 24 10,
 mv 25 9,
 b2 26 .sub 24 25,
 b1 27 .add 26 (.int .i64 1),
 b1 28 .quo 27 (.int .i64 2),
 b2 29 .add 23 28,
 mt 11 29])
 (.seq
 (.reg [mv 30 0,
 mv 31 11,
 mv 32 1,
 mv 33 2,
 ⟨some 34, none, .build [.int .i64 0, .int .i64 0, .int .i64 0] [(0, 1), (1, 1), (2, 1)], [.t 31, .t 32, .t 33]⟩,
 ii 35 (.call 92) [.t 30, .t 34]])
 (.cond (.t 35)
 (.reg [mv 36 11,
 mt 9 36])
 (.reg [mv 37 11,
 b1 38 .sub 37 (.int .i64 1),
 mt 10 38]))))))))
 (.seq
 (.reg [mv 39 9,
 mt 8 39])
 .ret)))))⟩
theorem k72 : chkF Tryz.prog 72 F72 = true := by kernel_rfl
def F73 : Fn := ⟨9, 0, [],
 (.reg [mv 4 0,
 mv 5 0,
 ii 6 .len [.t 5],
 mv 7 1,
 ii 8 (.callm 93 0) [.t 4, .t 6, .t 7]])⟩
theorem k73 : chkF Tryz.prog 73 F73 = true := by kernel_rfl
def F74 : Fn := ⟨10, 2, [.tmp 4],
 (.seq
 (.reg [ii 2 (.box 0 2) [.t 0],
 ii 3 (.box 1 2) [.t 1],
 mc 4 (.int .i64 0)])
 (.seq
 (.reg [fa 5 1 3,
 ld 6 5,
 fa 7 1 2,
 ld 8 7,
 ii 9 (.call 75) [.t 6, .t 8],
 mt 4 9])
 .ret))⟩
theorem k74 : chkF Tryz.prog 74 F74 = true := by kernel_rfl
def F75 : Fn := ⟨20, 0, [.tmp 4],
 (.seq
 (.reg [mc 4 (.int .i64 0)])
 (.seq
 (.reg [mv 7 0,
 ii 8 (.call 94) [.t 7],
 mt 5 8])
 (.seq
 (.reg [mv 9 1,
 ii 10 (.call 94) [.t 9],
 mt 6 10])
 (.seq
 (.seq
 (.reg [mv 11 5])
 (.cond (.t 11)
 (.seq
 (.seq
 (.reg [mv 12 6])
 (.cond (.t 12)
 (.seq
 (.reg [mc 4 (.int .i64 0)])
 .ret)
 .skip))
 (.seq
 (.reg [mc 4 (.int .i64 (-1))])
 .ret))
 .skip))
 (.seq
 (.seq
 (.reg [mv 13 6])
 (.cond (.t 13)
 (.seq
 (.reg [mc 4 (.int .i64 1)])
 .ret)
 .skip))
 (.seq
 (.seq
 (.reg [mv 14 0,
 mv 15 1,
 b2 16 .lss 14 15])
 (.cond (.t 16)
 (.seq
 (.reg [mc 4 (.int .i64 (-1))])
 .ret)
 .skip))
 (.seq
 (.seq
 (.reg [mv 17 0,
 mv 18 1,
 b2 19 .gtr 17 18])
 (.cond (.t 19)
 (.seq
 (.reg [mc 4 (.int .i64 1)])
 .ret)
 .skip))
 (.seq
 (.reg [mc 4 (.int .i64 0)])
 .ret))))))))⟩
theorem k75 : chkF Tryz.prog 75 F75 = true := by kernel_rfl
def F76 : Fn := ⟨14, 0, [],
 (.seq
 (.reg [mv 5 0,
 ii 6 .len [.t 5],
 mt 4 6])
 (.reg [mv 7 0,
 mv 8 4,
 mv 9 4,
 ii 10 (.conv .u64) [.t 9],
 ii 11 (.call 96) [.t 10],
 mv 12 1,
 ii 13 (.callm 95 0) [.t 7, .c (.p (.int .i64 0)), .t 8, .t 11, .t 12]]))⟩
theorem k76 : chkF Tryz.prog 76 F76 = true := by kernel_rfl
def F77 : Fn := ⟨10, 2, [.tmp 4],
 (.seq
 (.reg [ii 2 (.box 0 2) [.t 0],
 ii 3 (.box 1 2) [.t 1],
 mc 4 (.int .i64 0)])
 (.seq
 (.reg [fa 5 0 2,
 ld 6 5,
 fa 7 0 3,
 ld 8 7,
 ii 9 (.call 78) [.t 6, .t 8],
 mt 4 9])
 .ret))⟩
theorem k77 : chkF Tryz.prog 77 F77 = true := by kernel_rfl
def F78 : Fn := ⟨20, 0, [.tmp 4],
 (.seq
 (.reg [mc 4 (.int .i64 0)])
 (.seq
 (.reg [mv 7 0,
 ii 8 (.call 97) [.t 7],
 mt 5 8])
 (.seq
 (.reg [mv 9 1,
 ii 10 (.call 97) [.t 9],
 mt 6 10])
 (.seq
 (.seq
 (.reg [mv 11 5])
 (.cond (.t 11)
 (.seq
 (.seq
 (.reg [mv 12 6])
 (.cond (.t 12)
 (.seq
 (.reg [mc 4 (.int .i64 0)])
 .ret)
 .skip))
 (.seq
 (.reg [mc 4 (.int .i64 (-1))])
 .ret))
 .skip))
 (.seq
 (.seq
 (.reg [mv 13 6])
 (.cond (.t 13)
 (.seq
 (.reg [mc 4 (.int .i64 1)])
 .ret)
 .skip))
 (.seq
 (.seq
 (.reg [mv 14 0,
 mv 15 1,
 b2 16 .lss 14 15])
 (.cond (.t 16)
 (.seq
 (.reg [mc 4 (.int .i64 (-1))])
 .ret)
 .skip))
 (.seq
 (.seq
 (.reg [mv 17 0,
 mv 18 1,
 b2 19 .gtr 17 18])
 (.cond (.t 19)
 (.seq
 (.reg [mc 4 (.int .i64 1)])
 .ret)
 .skip))
 (.seq
 (.reg [mc 4 (.int .i64 0)])
 .ret))))))))⟩
theorem k78 : chkF Tryz.prog 78 F78 = true := by kernel_rfl
def F79 : Fn := ⟨31, 0, [.tmp 6],
 (.seq
 (.reg [mc 6 (.int .i64 0)])
 (.seq
 (.seq
 (.reg [mv 8 0,
 mv 9 1,
 mv 10 1,
 ii 11 (.call 91) [.t 8, .t 9, .t 10],
 ii 12 (.un .not) [.t 11]])
 (.cond (.t 12)
 (.seq
 (.reg [mc 6 (.int .i64 0)])
 .ret)
 .skip))
 (.seq
 (.reg [mc 7 (.int .i64 0)])
 (.seq
 (.block 0
 (.loop [6, 8, 9, 10, 11, 12, 13, 14, 15, 16, 17, 18, 19, 20, 21, 22, 23, 24, 25, 26, 27, 28, 29, 30] []
 (.seq
 (.seq
 (.reg [mv 13 7,
 mv 14 2,
 mv 15 1,
 ii 16 .mn [.t 14, .t 15],
 b2 17 .lss 13 16,
 mv 18 17,
 gt 19 18 (.mov false) [.t 0],
 gt 20 18 (.mov false) [.t 7],
 gt 21 18 (.bin .add) [.t 20, .c (.p (.int .i64 1))],
 gt 22 18 (.mov false) [.t 7],
 gt 23 18 (.bin .add) [.t 22, .c (.p (.int .i64 1))],
 gt 24 18 (.mov false) [.t 1],
 ⟨some 25, (some (18, true)), .build [.int .i64 0, .int .i64 0, .int .i64 0] [(0, 1), (1, 1), (2, 1)], [.t 21, .t 23, .t 24]⟩,
 gt 26 18 (.call 92) [.t 19, .t 25],
 ii 27 .pick [.t 18, .t 26, .c (.p (.bool false))]])
 (.cond (.t 27)
 .skip
 (.exit 0)))
 (.block 1
 (.reg [mv 28 7,
 b1 29 .add 28 (.int .i64 1),
 mt 7 29])))))
 (.seq
 (.reg [mv 30 7,
 mt 6 30])
 .ret)))))⟩
theorem k79 : chkF Tryz.prog 79 F79 = true := by kernel_rfl
def F80 : Fn := ⟨47, 0, [.tmp 2, .tmp 3],
 (.seq
 (.reg [mc 2 (.int .i64 0),
 mc 3 (.bool false)])
 (.seq
 (.seq
 (.reg [mv 7 0,
 ii 8 (.call 98) [.t 7],
 ii 9 (.un .not) [.t 8],
 mv 10 9,
 gf 11 10 (.mov false) [.t 0],
 gf 12 10 .len [.t 11],
 gf 13 10 (.bin .eql) [.t 12, .c (.p (.int .i64 0))],
 ii 14 .pick [.t 10, .c (.p (.bool true)), .t 13]])
 (.cond (.t 14)
 (.seq
 (.reg [mv 15 0,
 ii 16 (.call 98) [.t 15],
 mc 2 (.int .i64 0),
 mt 3 16])
 .ret)
 .skip))
 (.seq
 (.reg [mc 4 (.int .i64 1)])
 (.seq
 (.block 0
 (.loop [2, 3, 5, 6, 7, 8, 9, 10, 11, 12, 13, 14, 15, 16, 17, 18, 19, 20, 21, 22, 23, 24, 25, 26, 27, 28, 29, 30, 31, 32, 33, 34, 35, 36, 37, 38, 39, 40, 41, 42, 43, 44, 45, 46] []
 (.seq
 (.seq
 (.reg [mv 17 4,
 b1 18 .leq 17 (.int .i64 20000)])
 (.cond (.t 18)
 .skip
 (.exit 0)))
 (.block 1
 (.seq
 (.reg [mc 5 (.int .i64 0)])
 (.seq
 (.seq
 (.reg [mc 6 (.int .i64 0)])
 (.block 2
 (.loop [2, 3, 7, 8, 9, 10, 11, 12, 13, 14, 15, 16, 17, 18, 19, 20, 21, 22, 23, 24, 25, 26, 27, 28, 29, 30, 31, 32, 33, 34, 35, 36, 37, 38, 39, 40, 41, 42, 43, 44, 45, 46] []
 (.seq
 (.seq
 (.reg [mv 19 6,
 mv 20 0,
 ii 21 .len [.t 20],
 b2 22 .lss 19 21])
 (.cond (.t 22)
 .skip
 (.exit 2)))
 (.seq
 (.block 3
 (.regd [mv 25 5,
 mv 26 0,
 mv 27 6,
 ii 28 (.iad 3) [.t 26, .t 27],
 fa 29 0 28,
 ii 30 (.loadp 1 false) [.t 29],
 mv 31 4,
 b1 32 .sub 31 (.int .i64 1),
 mv 33 0,
 mv 34 6,
 ii 35 (.iad 3) [.t 33, .t 34],
 fa 36 2 35,
 ii 37 (.loadp 1 false) [.t 36],
 b2 38 .quo 32 37,
 b1 39 .add 38 (.int .i64 1),
 b2 40 .mul 30 39,
 b2 41 .add 25 40,
 mt 5 41]))
 (.reg [mv 23 6,
 b1 24 .add 23 (.int .i64 1),
 mt 6 24]))))))
 (.seq
 (.seq
 (.reg [mv 42 5,
 mv 43 4,
 b2 44 .eql 42 43])
 (.cond (.t 44)
 (.seq
 (.reg [mv 45 4,
 mt 2 45,
 mc 3 (.bool true)])
 .ret)
 .skip))
 (.reg [mv 46 5,
 mt 4 46]))))))))
 (.seq
 (.reg [mc 2 (.int .i64 0),
 mc 3 (.bool false)])
 .ret)))))⟩
theorem k80 : chkF Tryz.prog 80 F80 = true := by kernel_rfl
def F81 : Fn := ⟨60, 3, [.tmp 6],
 (.seq
 (.reg [ii 3 (.box 0 5) [.t 0],
 ii 6 (.mov true) [.c (.ow 1 true [])]])
 (.seq
 (.seq
 (.reg [ii 13 (.load 5 true false) [.t 3],
 mv 14 1,
 ii 15 (.call 99) [.t 13, .t 14],
 ii 16 (.un .not) [.t 15],
 mv 17 16,
 gf 18 17 (.mov false) [.t 2],
 gf 19 17 .len [.t 18],
 gf 20 17 (.mov false) [.t 1],
 gf 21 17 .len [.t 20],
 gf 22 17 (.bin .neq) [.t 19, .t 21],
 ii 23 .pick [.t 17, .c (.p (.bool true)), .t 22]])
 (.cond (.t 23)
 (.seq
 (.reg [ii 6 (.mov true) [.c (.ow 1 true [])]])
 .ret)
 .skip))
 (.seq
 (.reg [fa 24 0 3,
 ld 25 24,
 ⟨some 26, none, .mksl 1 1 24 false [.ow 3 true []], [.t 25, .t 25]⟩,
 mt 7 26])
 (.seq
 (.seq
 (.reg [mv 27 2,
 ii 28 .len [.t 27],
 ii 29 (.mov false) [.c (.p (.int .i64 0))]])
 (.block 0
 (.loop [0, 2, 6, 8, 9, 10, 11, 12, 13, 14, 15, 16, 17, 18, 19, 20, 21, 22, 23, 24, 25, 26, 30, 31, 32, 33, 34, 35, 36, 37, 38, 39, 40, 41, 42, 43, 44, 45, 46, 47, 48, 49, 50, 51, 52, 53, 54, 55, 56, 57, 58, 59] [2]
 (.seq
 (.reg [b2 30 .lss 29 28])
 (.seq
 (.cond (.t 30)
 .skip
 (.exit 0))
 (.seq
 (.block 1
 (.seq
 (.reg [mv 31 29,
 ii 32 (.iad 2) [.t 27, .t 29],
 ii 33 (.load 2 true false) [.t 32],
 ⟨some 9, none, .alloc 2 2 [.p (.int .i64 0), .ow 4 true []], []⟩,
 mt 8 31,
 ⟨none, none, .store 2, [.t 9, .t 33]⟩])
 (.seq
 (.reg [ii 34 (.load 5 true false) [.t 3],
 mv 35 1,
 mv 36 8,
 ii 37 (.load 2 true false) [.t 9],
 ii 38 (.call 100) [.t 34, .t 35, .t 36, .t 37],
 mt 10 38])
 (.seq
 (.seq
 (.reg [mv 39 10,
 ii 40 (.eqnil false) [.t 39, .c (.ow 1 true [])]])
 (.cond (.t 40)
 (.seq
 (.reg [ii 6 (.mov true) [.c (.ow 1 true [])]])
 (.pre [] [1] [] .ret))
 .skip))
 (.seq
 (.reg [mv 41 10,
 ii 42 .len [.t 41],
 ii 43 (.mov false) [.c (.p (.int .i64 0))]])
 (.block 2
 (.loop [0, 2, 6, 8, 9, 10, 11, 12, 13, 14, 15, 16, 17, 18, 19, 20, 21, 22, 23, 24, 25, 26, 30, 31, 32, 33, 34, 35, 36, 37, 38, 39, 40, 44, 45, 46, 47, 48, 49, 50, 51, 52, 53, 54, 55, 56, 57, 58, 59] []
 (.seq
 (.reg [b2 44 .lss 43 42])
 (.seq
 (.cond (.t 44)
 .skip
 (.exit 2))
 (.seq
 (.block 3
 (.seq
 (.reg [mv 45 43,
 ii 46 (.iad 1) [.t 41, .t 43],
 ld 47 46,
 mt 11 45,
 mt 12 47])
 (.reg [mv 48 7,
 mv 49 11,
 mv 50 7,
 mv 51 11,
 ii 52 (.iad 1) [.t 50, .t 51],
 ii 53 (.load 1 false true) [.t 52],
 mv 54 12,
 ii 55 (.app 3 24) [.t 53, .t 54],
 ii 56 (.iad 1) [.t 48, .t 49],
 ⟨none, none, .store 1, [.t 56, .t 55]⟩])))
 (.reg [b1 57 .add 43 (.int .i64 1),
 mv 43 57])))))))))))
 (.reg [b1 58 .add 29 (.int .i64 1),
 mv 29 58])))))))
 (.seq
 (.reg [mv 59 7,
 mt 6 59])
 (.pre [] [1] [] .ret))))))⟩
theorem k81 : chkF Tryz.prog 81 F81 = true := by kernel_rfl
def F82 : Fn := ⟨2, 0, [.tmp 0],
 (.seq
 (.reg [mc 0 (.bool false)])
 (.seq
 (.reg [ii 1 (.call 101) [],
 mt 0 1])
 .ret))⟩
theorem k82 : chkF Tryz.prog 82 F82 = true := by kernel_rfl
def F83 : Fn := ⟨40, 3, [.tmp 6],
 (.seq
 (.reg [ii 3 (.box 0 5) [.t 0],
 ii 4 (.box 1 4) [.t 1],
 mc 6 (.int .i64 0)])
 (.seq
 (.seq
 (.reg [ii 10 (.load 5 true false) [.t 3],
 ii 11 (.call 50) [.t 10],
 ii 12 (.un .not) [.t 11],
 mv 13 12,
 gf 14 13 (.load 5 true false) [.t 3],
 gf 15 13 (.load 4 true false) [.t 4],
 gf 16 13 (.call 51) [.t 14, .t 15],
 gf 17 13 (.un .not) [.t 16],
 ii 18 .pick [.t 13, .c (.p (.bool true)), .t 17]])
 (.cond (.t 18)
 (.seq
 (.reg [mc 6 (.int .i64 0)])
 .ret)
 .skip))
 (.seq
 (.reg [mc 7 (.int .i64 0)])
 (.seq
 (.seq
 (.reg [fa 19 3 4,
 ld 20 19,
 ii 21 .len [.t 20],
 ii 22 (.mov false) [.c (.p (.int .i64 0))]])
 (.block 0
 (.loop [0, 1, 4, 6, 9, 10, 11, 12, 13, 14, 15, 16, 17, 18, 19, 23, 24, 25, 26, 27, 28, 29, 30, 31, 32, 33, 34, 35, 36, 37, 38, 39] [2]
 (.seq
 (.reg [b2 23 .lss 22 21])
 (.seq
 (.cond (.t 23)
 .skip
 (.exit 0))
 (.seq
 (.block 1
 (.seq
 (.reg [ii 24 (.iad 3) [.t 20, .t 22],
 ii 25 (.load 3 true false) [.t 24],
 ⟨some 9, none, .alloc 2 3 [.p (.int .i64 0), .p (.int .i64 0), .p (.int .i64 0)], []⟩,
 ⟨none, none, .store 3, [.t 9, .t 25]⟩])
 (.seq
 (.reg [fa 26 4 3,
 ld 27 26,
 fa 28 0 9,
 ld 29 28,
 ii 30 (.iad 1) [.t 27, .t 29],
 ld 31 30,
 mv 32 2,
 b2 33 .eql 31 32])
 (.cond (.t 33)
 (.reg [mv 34 7,
 fa 35 2 9,
 ld 36 35,
 ii 37 .mx [.t 34, .t 36],
 mt 7 37])
 .skip))))
 (.reg [b1 38 .add 22 (.int .i64 1),
 mv 22 38])))))))
 (.seq
 (.reg [mv 39 7,
 mt 6 39])
 .ret)))))⟩
theorem k83 : chkF Tryz.prog 83 F83 = true := by kernel_rfl
def F84 : Fn := ⟨69, 3, [.tmp 8],
 (.seq
 (.reg [ii 4 (.box 0 5) [.t 0],
 mc 8 (.int .i64 0)])
 (.seq
 (.seq
 (.reg [ii 13 (.load 5 true false) [.t 4],
 mv 14 1,
 mv 15 2,
 ii 16 (.call 102) [.t 13, .t 14, .t 15],
 ii 17 (.un .not) [.t 16],
 mv 18 17,
 gf 19 18 (.mov false) [.t 3],
 gf 20 18 (.bin .lss) [.t 19, .c (.p (.int .i64 0))],
 ii 21 .pick [.t 18, .c (.p (.bool true)), .t 20],
 mv 22 21,
 gf 23 22 (.mov false) [.t 3],
 gf 24 22 (.mov false) [.t 1],
 gf 25 22 (.mov false) [.t 2],
 gf 26 22 (.iad 4) [.t 24, .t 25],
 gf 27 22 (.fad 3) [.t 26],
 gf 28 22 (.load 1 false false) [.t 27],
 gf 29 22 .len [.t 28],
 gf 30 22 (.bin .geq) [.t 23, .t 29],
 ii 31 .pick [.t 22, .c (.p (.bool true)), .t 30]])
 (.cond (.t 31)
 (.seq
 (.reg [mc 8 (.int .i64 0)])
 .ret)
 .skip))
 (.seq
 (.reg [mv 32 1,
 mv 33 2,
 ii 34 (.iad 4) [.t 32, .t 33],
 fa 35 3 34,
 ld 36 35,
 mv 37 3,
 ii 38 (.iad 3) [.t 36, .t 37],
 ii 39 (.load 3 true false) [.t 38],
 ⟨some 9, none, .alloc 1 3 [.p (.int .i64 0), .p (.int .i64 0), .p (.int .i64 0)], []⟩,
 ⟨none, none, .store 3, [.t 9, .t 39]⟩])
 (.seq
 (.reg [fa 40 2 4,
 ld 41 40,
 ii 42 (.bin .mul) [.c (.p (.int .i64 2)), .t 41],
 fa 43 2 9,
 ld 44 43,
 b2 45 .add 42 44,
 mt 10 45])
 (.seq
 (.seq
 (.reg [mv 46 1,
 ii 47 .len [.t 46],
 ii 48 (.mov false) [.c (.p (.int .i64 0))]])
 (.block 0
 (.loop [0, 1, 3, 8, 11, 12, 13, 14, 15, 16, 17, 18, 19, 20, 21, 22, 23, 24, 25, 26, 27, 28, 29, 30, 31, 32, 33, 34, 35, 36, 37, 38, 39, 40, 41, 42, 43, 44, 45, 49, 50, 51, 52, 53, 54, 55, 56, 57, 58, 59, 60, 61, 62, 63, 64, 65, 66, 67, 68] [2]
 (.seq
 (.reg [b2 49 .lss 48 47])
 (.seq
 (.cond (.t 49)
 .skip
 (.exit 0))
 (.seq
 (.block 1
 (.seq
 (.reg [mv 50 48,
 ii 51 (.iad 4) [.t 46, .t 48],
 ii 52 (.load 4 true false) [.t 51],
 ⟨some 12, none, .alloc 2 4 [.p (.int .i64 0), .p (.int .i64 0), .p (.int .i64 0), .ow 3 true []], []⟩,
 mt 11 50,
 ⟨none, none, .store 4, [.t 12, .t 52]⟩])
 (.seq
 (.reg [mv 53 11,
 mv 54 2,
 b2 55 .neq 53 54])
 (.cond (.t 55)
 (.regd [mv 56 10,
 ii 57 (.at 0 (.load 5 true false)) [.t 4],
 ii 58 (.at 2 (.load 4 true false)) [.t 12],
 fa 59 4 4,
 ii 60 (.at 0 (.load 1 false false)) [.t 59],
 fa 61 0 9,
 ii 62 (.at 1 (.load 1 false false)) [.t 61],
 ii 63 (.iad 1) [.t 60, .t 62],
 ii 64 (.loadp 1 false) [.t 63],
 ii 65 (.pl (.call 83)) [.t 57, .t 58, .t 64],
 b2 66 .add 56 65,
 mt 10 66])
 .skip))))
 (.reg [b1 67 .add 48 (.int .i64 1),
 mv 48 67])))))))
 (.seq
 (.reg [mv 68 10,
 mt 8 68])
 .ret))))))⟩
theorem k84 : chkF Tryz.prog 84 F84 = true := by kernel_rfl
def F85 : Fn := ⟨32, 1, [.tmp 6],
 (.seq
 (.reg [ii 3 (.box 0 5) [.t 0],
 mc 6 (.int .i64 0)])
 (.seq
 (.seq
 (.reg [ii 9 (.load 5 true false) [.t 3],
 mv 10 1,
 mv 11 2,
 ii 12 (.call 102) [.t 9, .t 10, .t 11],
 ii 13 (.un .not) [.t 12]])
 (.cond (.t 13)
 (.seq
 (.reg [mc 6 (.int .i64 0)])
 .ret)
 .skip))
 (.seq
 (.reg [mc 7 (.int .i64 0)])
 (.seq
 (.seq
 (.reg [mv 14 1,
 mv 15 2,
 ii 16 (.iad 4) [.t 14, .t 15],
 fa 17 3 16,
 ld 18 17,
 ii 19 .len [.t 18],
 ii 20 (.mov false) [.c (.p (.int .i64 0))]])
 (.block 0
 (.loop [0, 6, 8, 9, 10, 11, 12, 13, 14, 15, 16, 17, 18, 21, 22, 23, 24, 25, 26, 27, 28, 29, 30, 31] []
 (.seq
 (.reg [b2 21 .lss 20 19])
 (.seq
 (.cond (.t 21)
 .skip
 (.exit 0))
 (.seq
 (.block 1
 (.seq
 (.reg [mv 22 20,
 mt 8 22])
 (.reg [mv 23 7,
 ii 24 (.load 5 true false) [.t 3],
 mv 25 1,
 mv 26 2,
 mv 27 8,
 ii 28 (.call 84) [.t 24, .t 25, .t 26, .t 27],
 b2 29 .add 23 28,
 mt 7 29])))
 (.reg [b1 30 .add 20 (.int .i64 1),
 mv 20 30])))))))
 (.seq
 (.reg [mv 31 7,
 mt 6 31])
 .ret)))))⟩
theorem k85 : chkF Tryz.prog 85 F85 = true := by kernel_rfl
def F86 : Fn := ⟨22, 1, [.tmp 2],
 (.seq
 (.reg [mc 2 (.int .i64 0)])
 (.seq
 (.reg [mc 3 (.int .i64 0)])
 (.seq
 (.seq
 (.reg [mv 6 0,
 ii 7 .len [.t 6],
 ii 8 (.mov false) [.c (.p (.int .i64 0))]])
 (.block 0
 (.loop [0, 2, 5, 9, 10, 11, 12, 13, 14, 15, 16, 17, 18, 19, 20, 21] [0]
 (.seq
 (.reg [b2 9 .lss 8 7])
 (.seq
 (.cond (.t 9)
 .skip
 (.exit 0))
 (.seq
 (.block 1
 (.seq
 (.reg [ii 10 (.iad 3) [.t 6, .t 8],
 ii 11 (.load 3 true false) [.t 10],
 ⟨some 5, none, .alloc 0 3 [.p (.int .i64 0), .p (.int .i64 0), .p (.int .i64 0)], []⟩,
 ⟨none, none, .store 3, [.t 5, .t 11]⟩])
 (.reg [mv 12 3,
 fa 13 0 5,
 ld 14 13,
 b1 15 .mul 14 (.int .i64 10000),
 fa 16 2 5,
 ld 17 16,
 ii 18 (.call 103) [.t 15, .t 17],
 b2 19 .add 12 18,
 mt 3 19])))
 (.reg [b1 20 .add 8 (.int .i64 1),
 mv 8 20])))))))
 (.seq
 (.reg [mv 21 3,
 mt 2 21])
 .ret))))⟩
theorem k86 : chkF Tryz.prog 86 F86 = true := by kernel_rfl
def F87 : Fn := ⟨11, 0, [.tmp 2],
 (.seq
 (.reg [mc 2 (.bool false)])
 (.seq
 (.reg [mv 3 0,
 ii 4 .len [.t 3],
 b1 5 .leq 4 (.int .i64 24),
 mv 6 5,
 gt 7 6 (.mov false) [.t 0],
 gt 8 6 (.call 104) [.t 7, .c (.p (.fn 105 []))],
 gt 9 6 (.un .not) [.t 8],
 ii 10 .pick [.t 6, .t 9, .c (.p (.bool false))],
 mt 2 10])
 .ret))⟩
theorem k87 : chkF Tryz.prog 87 F87 = true := by kernel_rfl
def F88 : Fn := ⟨36, 1, [.tmp 4],
 (.seq
 (.reg [mc 4 (.int .i64 0)])
 (.seq
 (.seq
 (.reg [mv 8 0,
 ii 9 (.call 87) [.t 8],
 ii 10 (.un .not) [.t 9],
 mv 11 10,
 gf 12 11 (.mov false) [.t 1],
 gf 13 11 (.bin .lss) [.t 12, .c (.p (.int .i64 0))],
 ii 14 .pick [.t 11, .c (.p (.bool true)), .t 13],
 mv 15 14,
 gf 16 15 (.mov false) [.t 1],
 gf 17 15 (.bin .gtr) [.t 16, .c (.p (.int .i64 20000))],
 ii 18 .pick [.t 15, .c (.p (.bool true)), .t 17]])
 (.cond (.t 18)
 (.seq
 (.reg [mc 4 (.int .i64 0)])
 .ret)
 .skip))
 (.seq
 (.reg [mc 5 (.int .i64 0)])
 (.seq
 (.seq
 (.reg [mv 19 0,
 ii 20 .len [.t 19],
 ii 21 (.mov false) [.c (.p (.int .i64 0))]])
 (.block 0
 (.loop [0, 4, 7, 8, 9, 10, 11, 12, 13, 14, 15, 16, 17, 18, 22, 23, 24, 25, 26, 27, 28, 29, 30, 31, 32, 33, 34, 35] [0]
 (.seq
 (.reg [b2 22 .lss 21 20])
 (.seq
 (.cond (.t 22)
 .skip
 (.exit 0))
 (.seq
 (.block 1
 (.seq
 (.reg [ii 23 (.iad 3) [.t 19, .t 21],
 ii 24 (.load 3 true false) [.t 23],
 ⟨some 7, none, .alloc 0 3 [.p (.int .i64 0), .p (.int .i64 0), .p (.int .i64 0)], []⟩,
 ⟨none, none, .store 3, [.t 7, .t 24]⟩])
 (.regd [mv 25 5,
 fa 26 0 7,
 ii 27 (.at 0 (.load 1 false false)) [.t 26],
 mv 28 1,
 fa 29 2 7,
 ii 30 (.at 0 (.load 1 false false)) [.t 29],
 ii 31 (.pl (.call 103)) [.t 28, .t 30],
 b2 32 .mul 27 31,
 b2 33 .add 25 32,
 mt 5 33])))
 (.reg [b1 34 .add 21 (.int .i64 1),
 mv 21 34])))))))
 (.seq
 (.reg [mv 35 5,
 mt 4 35])
 .ret)))))⟩
theorem k88 : chkF Tryz.prog 88 F88 = true := by kernel_rfl
def F89 : Fn := ⟨38, 1, [.tmp 4],
 (.seq
 (.reg [mc 4 (.int .i64 0)])
 (.seq
 (.reg [mv 9 0,
 ii 10 (.call 104) [.t 9, .c (.p (.fn 107 []))],
 mt 5 10])
 (.seq
 (.seq
 (.reg [mv 11 5,
 mv 12 11,
 gf 13 12 (.mov false) [.t 0],
 gf 14 12 .len [.t 13],
 gf 15 12 (.bin .gtr) [.t 14, .c (.p (.int .i64 24))],
 ii 16 .pick [.t 12, .c (.p (.bool true)), .t 15],
 mv 17 16,
 gf 18 17 (.mov false) [.t 1],
 gf 19 17 (.bin .lss) [.t 18, .c (.p (.int .i64 0))],
 ii 20 .pick [.t 17, .c (.p (.bool true)), .t 19],
 mv 21 20,
 gf 22 21 (.mov false) [.t 1],
 gf 23 21 (.bin .gtr) [.t 22, .c (.p (.int .i64 20000))],
 ii 24 .pick [.t 21, .c (.p (.bool true)), .t 23]])
 (.cond (.t 24)
 (.seq
 (.reg [mc 4 (.int .i64 0)])
 .ret)
 .skip))
 (.seq
 (.reg [mc 6 (.int .i64 0)])
 (.seq
 (.seq
 (.reg [mv 25 0,
 ii 26 .len [.t 25],
 ii 27 (.mov false) [.c (.p (.int .i64 0))]])
 (.block 0
 (.loop [0, 4, 5, 8, 9, 10, 11, 12, 13, 14, 15, 16, 17, 18, 19, 20, 21, 22, 23, 24, 28, 29, 30, 31, 32, 33, 34, 35, 36, 37] [0]
 (.seq
 (.reg [b2 28 .lss 27 26])
 (.seq
 (.cond (.t 28)
 .skip
 (.exit 0))
 (.seq
 (.block 1
 (.seq
 (.reg [ii 29 (.iad 3) [.t 25, .t 27],
 ii 30 (.load 3 true false) [.t 29],
 ⟨some 8, none, .alloc 0 3 [.p (.int .i64 0), .p (.int .i64 0), .p (.int .i64 0)], []⟩,
 ⟨none, none, .store 3, [.t 8, .t 30]⟩])
 (.reg [mv 31 6,
 ii 32 (.load 3 true false) [.t 8],
 mv 33 1,
 ii 34 (.call 108) [.t 32, .t 33],
 b2 35 .add 31 34,
 mt 6 35])))
 (.reg [b1 36 .add 27 (.int .i64 1),
 mv 27 36])))))))
 (.seq
 (.reg [mv 37 6,
 mt 4 37])
 .ret))))))⟩
theorem k89 : chkF Tryz.prog 89 F89 = true := by kernel_rfl
def F90 : Fn := ⟨19, 0, [.tmp 4],
 (.seq
 (.reg [mc 4 (.int .i64 0)])
 (.seq
 (.seq
 (.reg [mv 6 0,
 ii 7 .len [.t 6],
 ii 8 (.mov false) [.c (.p (.int .i64 0))]])
 (.block 0
 (.loop [4, 5, 6, 9, 10, 11, 12, 13, 14, 15, 16, 17, 18] []
 (.seq
 (.reg [b2 9 .lss 8 7])
 (.seq
 (.cond (.t 9)
 .skip
 (.exit 0))
 (.seq
 (.block 1
 (.seq
 (.reg [mv 10 8,
 mt 5 10])
 (.seq
 (.reg [mv 11 1,
 mv 12 0,
 mv 13 5,
 ii 14 (.iad 1) [.t 12, .t 13],
 ld 15 14,
 ii 16 .callv [.t 11, .t 15]])
 (.cond (.t 16)
 (.seq
 (.reg [mv 17 5,
 mt 4 17])
 .ret)
 .skip))))
 (.reg [b1 18 .add 8 (.int .i64 1),
 mv 8 18])))))))
 (.seq
 (.reg [mc 4 (.int .i64 (-1))])
 .ret)))⟩
theorem k90 : chkF Tryz.prog 90 F90 = true := by kernel_rfl
def F91 : Fn := ⟨27, 0, [.tmp 6],
 (.seq
 (.reg [mc 6 (.bool false)])
 (.seq
 (.reg [mv 7 0,
 ii 8 .len [.t 7],
 b1 9 .leq 8 (.int .i64 23),
 mv 10 9,
 gt 11 10 (.mov false) [.t 1],
 gt 12 10 (.bin .geq) [.t 11, .c (.p (.int .i64 1))],
 ii 13 .pick [.t 10, .t 12, .c (.p (.bool false))],
 mv 14 13,
 gt 15 14 (.mov false) [.t 1],
 gt 16 14 (.mov false) [.t 2],
 gt 17 14 (.bin .leq) [.t 15, .t 16],
 ii 18 .pick [.t 14, .t 17, .c (.p (.bool false))],
 mv 19 18,
 gt 20 19 (.mov false) [.t 2],
 gt 21 19 (.bin .leq) [.t 20, .c (.p (.int .i64 200))],
 ii 22 .pick [.t 19, .t 21, .c (.p (.bool false))],
 mv 23 22,
 gt 24 23 (.mov false) [.t 0],
 gt 25 23 (.call 47) [.t 24],
 ii 26 .pick [.t 23, .t 25, .c (.p (.bool false))],
 mt 6 26])
 .ret))⟩
theorem k91 : chkF Tryz.prog 91 F91 = true := by kernel_rfl
def F92 : Fn := ⟨11, 1, [.tmp 4],
 (.seq
 (.reg [ii 3 (.box 0 3) [.t 1],
 mc 4 (.bool false)])
 (.seq
 (.regd [mv 5 0,
 ii 6 (.pl (.call 48)) [.t 5],
 ii 7 (.at 0 (.load 3 true false)) [.t 3],
 ii 8 (.bsl 3 1) [.t 7],
 ii 9 (.pl (.app 3 24)) [.t 6, .t 8],
 ii 10 (.pl (.call 47)) [.t 9],
 mt 4 10])
 .ret))⟩
theorem k92 : chkF Tryz.prog 92 F92 = true := by kernel_rfl
def F93 : Fn := ⟨63, 0, [],
 (.seq
 (.reg [mc 6 (.int .i64 20)])
 (.seq
 (.reg [mv 10 6,
 mc 7 (.int .i64 0),
 mt 8 10])
 (.seq
 (.block 0
 (.loop [9, 10, 11, 12, 13, 14, 15, 16, 17, 18, 19, 20, 21, 22, 23, 24, 25, 26, 27, 28, 29, 30, 31, 32, 33, 34, 35, 36, 37, 38, 39, 40, 41, 42, 43, 44, 45, 46, 47, 48, 49, 50, 51, 52, 53, 54, 55, 56, 57, 58, 59, 60, 61, 62] []
 (.seq
 (.seq
 (.reg [mv 11 8,
 mv 12 1,
 b2 13 .leq 11 12])
 (.cond (.t 13)
 .skip
 (.exit 0)))
 (.block 1
 (.seq
 (.reg [mv 14 0,
 mv 15 7,
 mv 16 8,
 mv 17 2,
 ii 18 (.callm 109 0) [.t 14, .t 15, .t 16, .t 17]])
 (.seq
 (.reg [mv 19 8,
 mt 7 19])
 (.reg [mv 20 8,
 mv 21 6,
 b2 22 .add 20 21,
 mt 8 22])))))))
 (.seq
 (.reg [mv 23 0,
 mv 24 7,
 mv 25 1,
 mv 26 2,
 ii 27 (.callm 109 0) [.t 23, .t 24, .t 25, .t 26]])
 (.block 2
 (.loop [7, 8, 9, 10, 11, 12, 13, 14, 15, 16, 17, 18, 19, 20, 21, 22, 23, 24, 25, 26, 27, 28, 29, 30, 31, 32, 33, 34, 35, 36, 37, 38, 39, 40, 41, 42, 43, 44, 45, 46, 47, 48, 49, 50, 51, 52, 53, 54, 55, 56, 57, 58, 59, 60, 61, 62] []
 (.seq
 (.seq
 (.reg [mv 28 6,
 mv 29 1,
 b2 30 .lss 28 29])
 (.cond (.t 30)
 .skip
 (.exit 2)))
 (.block 3
 (.seq
 (.reg [mv 31 6,
 ii 32 (.bin .mul) [.c (.p (.int .i64 2)), .t 31],
 mc 7 (.int .i64 0),
 mt 8 32])
 (.seq
 (.block 4
 (.loop [9, 10, 11, 12, 13, 14, 15, 16, 17, 18, 19, 20, 21, 22, 23, 24, 25, 26, 27, 28, 29, 30, 31, 32, 33, 34, 35, 36, 37, 38, 39, 40, 41, 42, 43, 44, 45, 46, 47, 48, 49, 50, 51, 52, 53, 54, 55, 56, 57, 58, 59, 60, 61, 62] []
 (.seq
 (.seq
 (.reg [mv 33 8,
 mv 34 1,
 b2 35 .leq 33 34])
 (.cond (.t 35)
 .skip
 (.exit 4)))
 (.block 5
 (.seq
 (.reg [mv 36 0,
 mv 37 7,
 mv 38 7,
 mv 39 6,
 b2 40 .add 38 39,
 mv 41 8,
 mv 42 2,
 ii 43 (.call 110) [.t 36, .t 37, .t 40, .t 41, .t 42]])
 (.seq
 (.reg [mv 44 8,
 mt 7 44])
 (.reg [mv 45 8,
 mv 46 6,
 ii 47 (.bin .mul) [.c (.p (.int .i64 2)), .t 46],
 b2 48 .add 45 47,
 mt 8 48])))))))
 (.seq
 (.seq
 (.reg [mv 49 7,
 mv 50 6,
 b2 51 .add 49 50,
 mt 9 51])
 (.seq
 (.reg [mv 52 9,
 mv 53 1,
 b2 54 .lss 52 53])
 (.cond (.t 54)
 (.reg [mv 55 0,
 mv 56 7,
 mv 57 9,
 mv 58 1,
 mv 59 2,
 ii 60 (.call 110) [.t 55, .t 56, .t 57, .t 58, .t 59]])
 .skip)))
 (.reg [mv 61 6,
 b1 62 .mul 61 (.int .i64 2),
 mt 6 62]))))))))))))⟩
theorem k93 : chkF Tryz.prog 93 F93 = true := by kernel_rfl
def F94 : Fn := ⟨6, 0, [.tmp 2],
 (.seq
 (.reg [mc 2 (.bool false)])
 (.seq
 (.reg [mv 3 0,
 mv 4 0,
 b2 5 .neq 3 4,
 mt 2 5])
 .ret))⟩
theorem k94 : chkF Tryz.prog 94 F94 = true := by kernel_rfl
def F95 : Fn := ⟨148, 0, [],
 (.seq
 (.reg [mc 10 (.bool true)])
 (.seq
 (.reg [mc 11 (.bool true)])
 (.block 0
 (.loop [12, 13, 14, 15, 16, 17, 18, 19, 20, 21, 22, 23, 24, 25, 26, 27, 28, 29, 30, 31, 32, 33, 34, 35, 36, 37, 38, 39, 40, 41, 42, 43, 44, 45, 46, 47, 48, 49, 50, 51, 52, 53, 54, 55, 56, 57, 58, 59, 60, 61, 62, 63, 64, 65, 66, 67, 68, 69, 70, 71, 72, 73, 74, 75, 76, 77, 78, 79, 80, 81, 82, 83, 84, 85, 86, 87, 88, 89, 90, 91, 92, 93, 94, 95, 96, 97, 98, 99, 100, 101, 102, 103, 104, 105, 106, 107, 108, 109, 110, 111, 112, 113, 114, 115, 116, 117, 118, 119, 120, 121, 122, 123, 124, 125, 126, 127, 128, 129, 130, 131, 132, 133, 134, 135, 136, 137, 138, 139, 140, 141, 142, 143, 144, 145, 146, 147] []
 (.block 1
 (.seq
 (.reg [mv 21 2,
 mv 22 1,
 b2 23 .sub 21 22,
 mt 12 23])
 (.seq
 (.seq
 (.reg [mv 24 12,
 b1 25 .leq 24 (.int .i64 12)])
 (.cond (.t 25)
 (.seq
 (.reg [mv 26 0,
 mv 27 1,
 mv 28 2,
 mv 29 4,
 ii 30 (.callm 109 0) [.t 26, .t 27, .t 28, .t 29]])
 .ret)
 .skip))
 (.seq
 (.seq
 (.reg [mv 31 3,
 b1 32 .eql 31 (.int .i64 0)])
 (.cond (.t 32)
 (.seq
 (.reg [mv 33 0,
 mv 34 1,
 mv 35 2,
 mv 36 4,
 ii 37 (.call 111) [.t 33, .t 34, .t 35, .t 36]])
 .ret)
 .skip))
 (.seq
 (.seq
 (.reg [mv 38 10,
 ii 39 (.un .not) [.t 38]])
 (.cond (.t 39)
 (.seq
 (.reg [mv 40 0,
 mv 41 1,
 mv 42 2,
 mv 43 4,
 ii 44 (.call 112) [.t 40, .t 41, .t 42, .t 43]])
 (.reg [mv 45 3,
 b1 46 .sub 45 (.int .i64 1),
 mt 3 46]))
 .skip))
 (.seq
 (.reg [mv 48 0,
 mv 49 1,
 mv 50 2,
 mv 51 4,
 ii 52 (.call 113) [.t 48, .t 49, .t 50, .t 51],
 mv 47 52,
 ii 53 (.ext 0) [.t 47],
 ii 54 (.ext 1) [.t 47],
 mt 13 53,
 mt 14 54])
 (.seq
 (.seq
 (.reg [mv 55 14,
 b1 56 .eql 55 (.int .i64 2)])
 (.cond (.t 56)
 (.seq
 (.reg [mv 57 0,
 mv 58 1,
 mv 59 2,
 mv 60 4,
 ii 61 (.call 114) [.t 57, .t 58, .t 59, .t 60]])
 (.seq
 (.reg [mv 62 2,
 b1 63 .sub 62 (.int .i64 1),
 mv 64 13,
 mv 65 1,
 b2 66 .sub 64 65,
 b2 67 .sub 63 66,
 mt 13 67])
 (.reg [mc 14 (.int .i64 1)])))
 .skip))
 (.seq
 (.seq
 (.reg [mv 68 10,
 mv 69 68,
 gt 70 69 (.mov false) [.t 11],
 ii 71 .pick [.t 69, .t 70, .c (.p (.bool false))],
 mv 72 71,
 gt 73 72 (.mov false) [.t 14],
 gt 74 72 (.bin .eql) [.t 73, .c (.p (.int .i64 1))],
 ii 75 .pick [.t 72, .t 74, .c (.p (.bool false))]])
 (.cond (.t 75)
 (.seq
 (.reg [mv 76 0,
 mv 77 1,
 mv 78 2,
 mv 79 4,
 ii 80 (.call 115) [.t 76, .t 77, .t 78, .t 79]])
 (.cond (.t 80)
 .ret
 .skip))
 .skip))
 (.seq
 (.seq
 (.regd [mv 81 1,
 b1 82 .gtr 81 (.int .i64 0),
 mv 83 82,
 gt 84 83 (.mov false) [.t 4],
 gt 85 83 (.mov false) [.t 0],
 gt 86 83 (.mov false) [.t 1],
 gt 87 83 (.bin .sub) [.t 86, .c (.p (.int .i64 1))],
 gt 88 83 (.iad 2) [.t 85, .t 87],
 gt 89 83 (.at 0 (.load 2 true false)) [.t 88],
 gt 90 83 (.mov false) [.t 0],
 gt 91 83 (.mov false) [.t 13],
 gt 92 83 (.iad 2) [.t 90, .t 91],
 gt 93 83 (.at 0 (.load 2 true false)) [.t 92],
 gt 94 83 (.pl .callv) [.t 84, .t 89, .t 93],
 gt 95 83 (.bin .lss) [.t 94, .c (.p (.int .i64 0))],
 gt 96 83 (.un .not) [.t 95],
 ii 97 .pick [.t 83, .t 96, .c (.p (.bool false))]])
 (.cond (.t 97)
 (.seq
 (.reg [mv 98 0,
 mv 99 1,
 mv 100 2,
 mv 101 13,
 mv 102 4,
 ii 103 (.call 116) [.t 98, .t 99, .t 100, .t 101, .t 102],
 mt 15 103])
 (.seq
 (.reg [mv 104 15,
 mt 1 104])
 (.exit 1)))
 .skip))
 (.seq
 (.reg [mv 106 0,
 mv 107 1,
 mv 108 2,
 mv 109 13,
 mv 110 4,
 ii 111 (.call 117) [.t 106, .t 107, .t 108, .t 109, .t 110],
 mv 105 111,
 ii 112 (.ext 0) [.t 105],
 ii 113 (.ext 1) [.t 105],
 mt 16 112,
 mt 17 113])
 (.seq
 (.reg [mv 114 17,
 mt 11 114])
 (.seq
 (.reg [mv 115 16,
 mv 116 1,
 b2 117 .sub 115 116,
 mv 118 2,
 mv 119 16,
 b2 120 .sub 118 119,
 mt 18 117,
 mt 19 120])
 (.seq
 (.reg [mv 121 12,
 b1 122 .quo 121 (.int .i64 8),
 mt 20 122])
 (.seq
 (.reg [mv 123 18,
 mv 124 19,
 b2 125 .lss 123 124])
 (.cond (.t 125)
 (.seq
 (.reg [mv 126 18,
 mv 127 20,
 b2 128 .geq 126 127,
 mt 10 128])
 (.seq
 (.reg [mv 129 0,
 mv 130 1,
 mv 131 16,
 mv 132 3,
 mv 133 4,
 ii 134 (.callm 95 0) [.t 129, .t 130, .t 131, .t 132, .t 133]])
 (.reg [mv 135 16,
 b1 136 .add 135 (.int .i64 1),
 mt 1 136])))
 (.seq
 (.reg [mv 137 19,
 mv 138 20,
 b2 139 .geq 137 138,
 mt 10 139])
 (.seq
 (.reg [mv 140 0,
 mv 141 16,
 b1 142 .add 141 (.int .i64 1),
 mv 143 2,
 mv 144 3,
 mv 145 4,
 ii 146 (.callm 95 0) [.t 140, .t 142, .t 143, .t 144, .t 145]])
 (.reg [mv 147 16,
 mt 2 147]))))))))))))))))))))))⟩
theorem k95 : chkF Tryz.prog 95 F95 = true := by kernel_rfl
def F96 : Fn := ⟨8, 0, [.tmp 2],
 (.seq
 (.reg [mc 2 (.int .i64 0)])
 (.seq
 (.cond (.c (.p (.bool false)))
 (.seq
 (.reg [mv 3 0,
 ii 4 (.conv .u32) [.t 3],
 ii 5 (.call 118) [.t 4],
 mt 2 5])
 .ret)
 .skip)
 (.seq
 (.reg [mv 6 0,
 ii 7 (.call 119) [.t 6],
 mt 2 7])
 .ret)))⟩
theorem k96 : chkF Tryz.prog 96 F96 = true := by kernel_rfl
def F97 : Fn := ⟨6, 0, [.tmp 2],
 (.seq
 (.reg [mc 2 (.bool false)])
 (.seq
 (.reg [mv 3 0,
 mv 4 0,
 b2 5 .neq 3 4,
 mt 2 5])
 .ret))⟩
theorem k97 : chkF Tryz.prog 97 F97 = true := by kernel_rfl
def F98 : Fn := ⟨19, 0, [.tmp 2],
 (.seq
 (.reg [mc 2 (.bool false)])
 (.seq
 (.seq
 (.reg [mc 3 (.int .i64 0)])
 (.block 0
 (.loop [2, 4, 5, 6, 7, 8, 9, 10, 11, 12, 13, 14, 15, 16, 17, 18] []
 (.seq
 (.seq
 (.reg [mv 4 3,
 mv 5 0,
 ii 6 .len [.t 5],
 b2 7 .lss 4 6])
 (.cond (.t 7)
 .skip
 (.exit 0)))
 (.seq
 (.block 1
 (.seq
 (.reg [mv 10 0,
 mv 11 3,
 ii 12 (.iad 3) [.t 10, .t 11],
 ii 13 (.load 3 true false) [.t 12],
 ii 14 (.call 120) [.t 13],
 ii 15 (.un .not) [.t 14]])
 (.cond (.t 15)
 (.seq
 (.reg [mc 2 (.bool false)])
 .ret)
 .skip)))
 (.reg [mv 8 3,
 b1 9 .add 8 (.int .i64 1),
 mt 3 9]))))))
 (.seq
 (.reg [mv 16 0,
 ii 17 .len [.t 16],
 b1 18 .leq 17 (.int .i64 24),
 mt 2 18])
 .ret)))⟩
theorem k98 : chkF Tryz.prog 98 F98 = true := by kernel_rfl
def F99 : Fn := ⟨20, 1, [.tmp 4],
 (.seq
 (.reg [ii 2 (.box 0 5) [.t 0],
 mc 4 (.bool false)])
 (.seq
 (.pre [] [0] [] (.reg [ii 6 (.mkfn 121) [.t 2],
 mt 5 6]))
 (.seq
 (.reg [ii 7 (.load 5 true false) [.t 2],
 ii 8 (.call 50) [.t 7],
 mv 9 8,
 gt 10 9 (.mov false) [.t 1],
 gt 11 9 .len [.t 10],
 gt 12 9 (.bin .leq) [.t 11, .c (.p (.int .i64 12))],
 ii 13 .pick [.t 9, .t 12, .c (.p (.bool false))],
 mv 14 13,
 gt 15 14 (.mov false) [.t 1],
 gt 16 14 (.mov false) [.t 5],
 gt 17 14 (.call 122) [.t 15, .t 16],
 gt 18 14 (.un .not) [.t 17],
 ii 19 .pick [.t 14, .t 18, .c (.p (.bool false))],
 mt 4 19])
 .ret)))⟩
theorem k99 : chkF Tryz.prog 99 F99 = true := by kernel_rfl
def F100 : Fn := ⟨84, 6, [.tmp 8],
 (.seq
 (.reg [ii 4 (.box 0 5) [.t 0],
 ii 7 (.box 1 2) [.t 3],
 ii 8 (.mov true) [.c (.ow 1 true [])]])
 (.seq
 (.seq
 (.reg [ii 14 (.load 5 true false) [.t 4],
 mv 15 1,
 ii 16 (.call 99) [.t 14, .t 15],
 ii 17 (.un .not) [.t 16],
 mv 18 17,
 gf 19 18 (.mov false) [.t 2],
 gf 20 18 (.bin .lss) [.t 19, .c (.p (.int .i64 0))],
 ii 21 .pick [.t 18, .c (.p (.bool true)), .t 20],
 mv 22 21,
 gf 23 22 (.mov false) [.t 2],
 gf 24 22 (.mov false) [.t 1],
 gf 25 22 .len [.t 24],
 gf 26 22 (.bin .geq) [.t 23, .t 25],
 ii 27 .pick [.t 22, .c (.p (.bool true)), .t 26],
 mv 28 27,
 gf 29 28 (.load 5 true false) [.t 4],
 gf 30 28 (.load 2 true false) [.t 7],
 gf 31 28 (.call 123) [.t 29, .t 30],
 gf 32 28 (.un .not) [.t 31],
 ii 33 .pick [.t 28, .c (.p (.bool true)), .t 32]])
 (.cond (.t 33)
 (.seq
 (.reg [ii 8 (.mov true) [.c (.ow 1 true [])]])
 .ret)
 .skip))
 (.seq
 (.reg [fa 34 0 4,
 ld 35 34,
 ⟨some 36, none, .mksl 2 1 24 false [.ow 3 true []], [.t 35, .t 35]⟩,
 mt 9 36])
 (.seq
 (.reg [mv 37 1,
 mv 38 2,
 ii 39 (.iad 4) [.t 37, .t 38],
 ii 40 (.load 4 true false) [.t 39],
 ⟨some 10, none, .alloc 3 4 [.p (.int .i64 0), .p (.int .i64 0), .p (.int .i64 0), .ow 3 true []], []⟩,
 ⟨none, none, .store 4, [.t 10, .t 40]⟩])
 (.seq
 (.seq
 (.reg [fa 41 1 7,
 ld 42 41,
 ii 43 .len [.t 42],
 ii 44 (.mov false) [.c (.p (.int .i64 0))]])
 (.block 0
 (.loop [0, 3, 8, 12, 13, 14, 15, 16, 17, 18, 19, 20, 21, 22, 23, 24, 25, 26, 27, 28, 29, 30, 31, 32, 33, 34, 35, 36, 37, 38, 39, 40, 41, 45, 46, 47, 48, 49, 50, 51, 52, 53, 54, 55, 56, 57, 58, 59, 60, 61, 62, 63, 64, 65, 66, 67, 68, 69, 70, 71, 72, 73, 74, 75, 76, 77, 78, 79, 80, 81, 82, 83] [4, 5]
 (.seq
 (.reg [b2 45 .lss 44 43])
 (.seq
 (.cond (.t 45)
 .skip
 (.exit 0))
 (.seq
 (.block 1
 (.seq
 (.reg [ii 46 (.iad 4) [.t 42, .t 44],
 ii 47 (.load 4 true false) [.t 46],
 ⟨some 12, none, .alloc 4 4 [.p (.int .i64 0), .p (.int .i64 0), .p (.int .i64 0), .p (.int .i64 0)], []⟩,
 ⟨none, none, .store 4, [.t 12, .t 47]⟩])
 (.seq
 (.reg [fa 48 3 12,
 ld 49 48,
 fa 50 2 12,
 ld 51 50,
 fa 52 2 10,
 ld 53 52,
 ⟨some 54, none, .build [.int .i64 0, .int .i64 0, .int .i64 0] [(0, 1), (1, 1), (2, 1)], [.t 49, .t 51, .t 53]⟩,
 ⟨some 13, none, .alloc 5 3 [.p (.int .i64 0), .p (.int .i64 0), .p (.int .i64 0)], []⟩,
 ⟨none, none, .store 3, [.t 13, .t 54]⟩])
 (.seq
 (.seq
 (.reg [fa 55 0 7,
 ld 56 55,
 b1 57 .eql 56 (.int .i64 1)])
 (.cond (.t 57)
 (.regd [fa 58 0 10,
 ii 59 (.at 3 (.load 1 false false)) [.t 58],
 ii 60 (.at 0 (.load 5 true false)) [.t 4],
 mv 61 1,
 mv 62 2,
 ii 63 (.pl (.call 85)) [.t 60, .t 61, .t 62],
 b2 64 .add 59 63,
 fa 65 1 10,
 ii 66 (.at 3 (.load 1 false false)) [.t 65],
 fa 67 2 10,
 ii 68 (.at 3 (.load 1 false false)) [.t 67],
 ⟨some 69, none, .build [.int .i64 0, .int .i64 0, .int .i64 0] [(0, 1), (1, 1), (2, 1)], [.t 64, .t 66, .t 68]⟩,
 ⟨none, none, .at 5 (.store 3), [.t 13, .t 69]⟩])
 .skip))
 (.regd [mv 70 9,
 fa 71 0 12,
 ii 72 (.at 4 (.load 1 false false)) [.t 71],
 mv 73 9,
 fa 74 0 12,
 ii 75 (.at 4 (.load 1 false false)) [.t 74],
 ii 76 (.iad 1) [.t 73, .t 75],
 ii 77 (.at 2 (.load 1 false true)) [.t 76],
 ii 78 (.at 5 (.load 3 true false)) [.t 13],
 ii 79 (.bsl 3 1) [.t 78],
 ii 80 (.pl (.app 3 24)) [.t 77, .t 79],
 ii 81 (.iad 1) [.t 70, .t 72],
 ⟨none, none, .at 2 (.store 1), [.t 81, .t 80]⟩])))))
 (.reg [b1 82 .add 44 (.int .i64 1),
 mv 44 82])))))))
 (.seq
 (.reg [mv 83 9,
 mt 8 83])
 (.pre [] [2] [] .ret)))))))⟩
theorem k100 : chkF Tryz.prog 100 F100 = true := by kernel_rfl
def F101 : Fn := ⟨68, 0, [.tmp 0],
 (.seq
 (.reg [mc 0 (.bool false)])
 (.seq
 (.reg [⟨some 8, none, .build [.int .i64 0, .int .i64 0, .int .i64 0] [(0, 1), (1, 1), (2, 1)], [.c (.p (.int .i64 2)), .c (.p (.int .i64 4)), .c (.p (.int .i64 6))]⟩,
 ⟨some 9, none, .build [.int .i64 0, .int .i64 0, .int .i64 0] [(0, 1), (1, 1), (2, 1)], [.c (.p (.int .i64 3)), .c (.p (.int .i64 8)), .c (.p (.int .i64 9))]⟩,
 ii 10 (.bsl 3 2) [.t 8, .t 9],
 mt 1 10])
 (.seq
 (.reg [mv 12 1,
 ii 13 (.call 66) [.t 12],
 mv 11 13,
 ii 14 (.ext 0) [.t 11],
 ii 15 (.ext 1) [.t 11],
 mt 2 14,
 mt 3 15])
 (.seq
 (.reg [ii 17 (.call 66) [.c (.ow 3 true [])],
 mv 16 17,
 ii 18 (.ext 0) [.t 16],
 ii 19 (.ext 1) [.t 16],
 mt 4 18,
 mt 5 19])
 (.seq
 (.reg [⟨some 21, none, .build [.int .i64 0, .int .i64 0, .int .i64 0] [(0, 1), (1, 1), (2, 1)], [.c (.p (.int .i64 5)), .c (.p (.int .i64 5)), .c (.p (.int .i64 4))]⟩,
 ii 22 (.bsl 3 1) [.t 21],
 ii 23 (.call 66) [.t 22],
 mv 20 23,
 ii 24 (.ext 0) [.t 20],
 ii 25 (.ext 1) [.t 20],
 mt 6 24,
 mt 7 25])
 (.seq
 (.reg [ii 26 (.call 124) [],
 mv 27 26,
 gt 28 27 (.mov false) [.t 1],
 gt 29 27 (.call 88) [.t 28, .c (.p (.int .i64 7))],
 gt 30 27 (.bin .eql) [.t 29, .c (.p (.int .i64 7))],
 ii 31 .pick [.t 27, .t 30, .c (.p (.bool false))],
 mv 32 31,
 gt 33 32 (.mov false) [.t 3],
 ii 34 .pick [.t 32, .t 33, .c (.p (.bool false))],
 mv 35 34,
 gt 36 35 (.mov false) [.t 2],
 gt 37 35 (.bin .eql) [.t 36, .c (.p (.int .i64 5))],
 ii 38 .pick [.t 35, .t 37, .c (.p (.bool false))],
 mv 39 38,
 gt 40 39 (.mov false) [.t 4],
 gt 41 39 (.bin .eql) [.t 40, .c (.p (.int .i64 0))],
 ii 42 .pick [.t 39, .t 41, .c (.p (.bool false))],
 mv 43 42,
 gt 44 43 (.mov false) [.t 5],
 ii 45 .pick [.t 43, .t 44, .c (.p (.bool false))],
 mv 46 45,
 gt 47 46 (.mov false) [.t 7],
 gt 48 46 (.un .not) [.t 47],
 ii 49 .pick [.t 46, .t 48, .c (.p (.bool false))],
 mv 50 49,
 gt 51 50 (.mov false) [.t 1],
 gt 52 50 (.call 89) [.t 51, .c (.p (.int .i64 8))],
 gt 53 50 (.bin .eql) [.t 52, .c (.p (.int .i64 5))],
 ii 54 .pick [.t 50, .t 53, .c (.p (.bool false))],
 mv 55 54,
 gt 56 55 (.mov false) [.t 1],
 gt 57 55 (.call 47) [.t 56],
 ii 58 .pick [.t 55, .t 57, .c (.p (.bool false))],
 mv 59 58,
 gt 60 59 (.mov false) [.t 1],
 gt 61 59 (.call 72) [.t 60, .c (.p (.int .i64 5)), .c (.p (.int .i64 10)), .c (.p (.int .i64 9))],
 gt 62 59 (.bin .eql) [.t 61, .c (.p (.int .i64 2))],
 ii 63 .pick [.t 59, .t 62, .c (.p (.bool false))],
 mv 64 63,
 gt 65 64 (.call 79) [.c (.ow 3 true []), .c (.p (.int .i64 10)), .c (.p (.int .i64 4))],
 gt 66 64 (.bin .eql) [.t 65, .c (.p (.int .i64 4))],
 ii 67 .pick [.t 64, .t 66, .c (.p (.bool false))],
 mt 0 67])
 .ret))))))⟩
theorem k101 : chkF Tryz.prog 101 F101 = true := by kernel_rfl
def F102 : Fn := ⟨32, 1, [.tmp 6],
 (.seq
 (.reg [ii 3 (.box 0 5) [.t 0],
 mc 6 (.bool false)])
 (.seq
 (.pre [] [0] [] (.reg [ii 8 (.mkfn 125) [.t 3],
 mt 7 8]))
 (.seq
 (.reg [ii 9 (.load 5 true false) [.t 3],
 ii 10 (.call 50) [.t 9],
 mv 11 10,
 gt 12 11 (.mov false) [.t 1],
 gt 13 11 .len [.t 12],
 gt 14 11 (.bin .leq) [.t 13, .c (.p (.int .i64 12))],
 ii 15 .pick [.t 11, .t 14, .c (.p (.bool false))],
 mv 16 15,
 gt 17 16 (.mov false) [.t 1],
 gt 18 16 (.mov false) [.t 7],
 gt 19 16 (.call 122) [.t 17, .t 18],
 gt 20 16 (.un .not) [.t 19],
 ii 21 .pick [.t 16, .t 20, .c (.p (.bool false))],
 mv 22 21,
 gt 23 22 (.mov false) [.t 2],
 gt 24 22 (.bin .geq) [.t 23, .c (.p (.int .i64 0))],
 ii 25 .pick [.t 22, .t 24, .c (.p (.bool false))],
 mv 26 25,
 gt 27 26 (.mov false) [.t 2],
 gt 28 26 (.mov false) [.t 1],
 gt 29 26 .len [.t 28],
 gt 30 26 (.bin .lss) [.t 27, .t 29],
 ii 31 .pick [.t 26, .t 30, .c (.p (.bool false))],
 mt 6 31])
 .ret)))⟩
theorem k102 : chkF Tryz.prog 102 F102 = true := by kernel_rfl
def F103 : Fn := ⟨18, 0, [.tmp 4],
 (.seq
 (.reg [mc 4 (.int .i64 0)])
 (.seq
 (.seq
 (.reg [mv 6 1,
 b1 7 .leq 6 (.int .i64 0)])
 (.cond (.t 7)
 (.seq
 (.reg [mc 4 (.int .i64 0)])
 .ret)
 .skip))
 (.seq
 (.reg [mv 8 0,
 mv 9 1,
 b2 10 .quo 8 9,
 mt 5 10])
 (.seq
 (.seq
 (.reg [mv 11 0,
 mv 12 1,
 b2 13 .rem 11 12,
 b1 14 .gtr 13 (.int .i64 0)])
 (.cond (.t 14)
 (.reg [mv 15 5,
 b1 16 .add 15 (.int .i64 1),
 mt 5 16])
 .skip))
 (.seq
 (.reg [mv 17 5,
 mt 4 17])
 .ret)))))⟩
theorem k103 : chkF Tryz.prog 103 F103 = true := by kernel_rfl
def F104 : Fn := ⟨9, 0, [.tmp 4],
 (.seq
 (.reg [mc 4 (.bool false)])
 (.seq
 (.reg [mv 5 0,
 mv 6 1,
 ii 7 (.call 126) [.t 5, .t 6],
 b1 8 .geq 7 (.int .i64 0),
 mt 4 8])
 .ret))⟩
theorem k104 : chkF Tryz.prog 104 F104 = true := by kernel_rfl
def F105 : Fn := ⟨6, 1, [.tmp 2],
 (.seq
 (.reg [ii 1 (.box 0 3) [.t 0],
 mc 2 (.bool false)])
 (.seq
 (.reg [ii 3 (.load 3 true false) [.t 1],
 ii 4 (.call 106) [.t 3],
 ii 5 (.un .not) [.t 4],
 mt 2 5])
 .ret))⟩
theorem k105 : chkF Tryz.prog 105 F105 = true := by kernel_rfl
def F106 : Fn := ⟨23, 1, [.tmp 2],
 (.seq
 (.reg [ii 1 (.box 0 3) [.t 0],
 mc 2 (.bool false)])
 (.seq
 (.reg [fa 3 0 1,
 ld 4 3,
 ii 5 (.call 68) [.t 4, .c (.p (.int .i64 1)), .c (.p (.int .i64 20000))],
 mv 6 5,
 gt 7 6 (.fad 1) [.t 1],
 gt 8 6 (.load 1 false false) [.t 7],
 gt 9 6 (.bin .geq) [.t 8, .c (.p (.int .i64 1))],
 ii 10 .pick [.t 6, .t 9, .c (.p (.bool false))],
 mv 11 10,
 gt 12 11 (.fad 1) [.t 1],
 gt 13 11 (.load 1 false false) [.t 12],
 gt 14 11 (.fad 2) [.t 1],
 gt 15 11 (.load 1 false false) [.t 14],
 gt 16 11 (.bin .leq) [.t 13, .t 15],
 ii 17 .pick [.t 11, .t 16, .c (.p (.bool false))],
 mv 18 17,
 gt 19 18 (.fad 2) [.t 1],
 gt 20 18 (.load 1 false false) [.t 19],
 gt 21 18 (.bin .leq) [.t 20, .c (.p (.int .i64 200))],
 ii 22 .pick [.t 18, .t 21, .c (.p (.bool false))],
 mt 2 22])
 .ret))⟩
theorem k106 : chkF Tryz.prog 106 F106 = true := by kernel_rfl
def F107 : Fn := ⟨6, 1, [.tmp 2],
 (.seq
 (.reg [ii 1 (.box 0 3) [.t 0],
 mc 2 (.bool false)])
 (.seq
 (.reg [ii 3 (.load 3 true false) [.t 1],
 ii 4 (.call 106) [.t 3],
 ii 5 (.un .not) [.t 4],
 mt 2 5])
 .ret))⟩
theorem k107 : chkF Tryz.prog 107 F107 = true := by kernel_rfl
def F108 : Fn := ⟨20, 1, [.tmp 4],
 (.seq
 (.reg [ii 2 (.box 0 3) [.t 0],
 mc 4 (.int .i64 0)])
 (.seq
 (.seq
 (.reg [fa 5 1 2,
 ld 6 5,
 mv 7 1,
 b2 8 .gtr 6 7])
 (.cond (.t 8)
 (.seq
 (.reg [mc 4 (.int .i64 0)])
 .ret)
 .skip))
 (.seq
 (.regd [fa 9 0 2,
 ii 10 (.at 0 (.load 1 false false)) [.t 9],
 mv 11 1,
 fa 12 1 2,
 ii 13 (.at 0 (.load 1 false false)) [.t 12],
 b2 14 .sub 11 13,
 fa 15 2 2,
 ii 16 (.at 0 (.load 1 false false)) [.t 15],
 ii 17 (.pl (.call 58)) [.t 14, .t 16],
 b1 18 .add 17 (.int .i64 1),
 b2 19 .mul 10 18,
 mt 4 19])
 .ret)))⟩
theorem k108 : chkF Tryz.prog 108 F108 = true := by kernel_rfl
def F109 : Fn := ⟨53, 0, [],
 (.seq
 (.reg [mv 10 1,
 b1 11 .add 10 (.int .i64 1),
 mt 8 11])
 (.block 0
 (.loop [9, 10, 11, 12, 13, 14, 15, 16, 17, 18, 19, 20, 21, 22, 23, 24, 25, 26, 27, 28, 29, 30, 31, 32, 33, 34, 35, 36, 37, 38, 39, 40, 41, 42, 43, 44, 45, 46, 47, 48, 49, 50, 51, 52] []
 (.seq
 (.seq
 (.reg [mv 12 8,
 mv 13 2,
 b2 14 .lss 12 13])
 (.cond (.t 14)
 .skip
 (.exit 0)))
 (.seq
 (.block 1
 (.seq
 (.reg [mv 17 8,
 mt 9 17])
 (.block 2
 (.loop [10, 11, 12, 13, 14, 15, 16, 17, 18, 19, 20, 21, 22, 23, 24, 25, 26, 27, 28, 29, 30, 31, 32, 33, 34, 35, 36, 37, 38, 39, 40, 41, 42, 43, 44, 45, 46, 47, 48, 49, 50, 51, 52] []
 (.seq
 (.seq
 (.regd [mv 18 9,
 mv 19 1,
 b2 20 .gtr 18 19,
 mv 21 20,
 gt 22 21 (.mov false) [.t 3],
 gt 23 21 (.mov false) [.t 0],
 gt 24 21 (.mov false) [.t 9],
 gt 25 21 (.iad 2) [.t 23, .t 24],
 gt 26 21 (.at 0 (.load 2 true false)) [.t 25],
 gt 27 21 (.mov false) [.t 0],
 gt 28 21 (.mov false) [.t 9],
 gt 29 21 (.bin .sub) [.t 28, .c (.p (.int .i64 1))],
 gt 30 21 (.iad 2) [.t 27, .t 29],
 gt 31 21 (.at 0 (.load 2 true false)) [.t 30],
 gt 32 21 (.pl .callv) [.t 22, .t 26, .t 31],
 gt 33 21 (.bin .lss) [.t 32, .c (.p (.int .i64 0))],
 ii 34 .pick [.t 21, .t 33, .c (.p (.bool false))]])
 (.cond (.t 34)
 .skip
 (.exit 2)))
 (.seq
 (.block 3
 (.regd [mv 37 0,
 mv 38 9,
 mv 39 0,
 mv 40 9,
 b1 41 .sub 40 (.int .i64 1),
 mv 42 0,
 mv 43 9,
 b1 44 .sub 43 (.int .i64 1),
 ii 45 (.iad 2) [.t 42, .t 44],
 ii 46 (.at 0 (.load 2 true false)) [.t 45],
 mv 47 0,
 mv 48 9,
 ii 49 (.iad 2) [.t 47, .t 48],
 ii 50 (.at 0 (.load 2 true false)) [.t 49],
 ii 51 (.iad 2) [.t 37, .t 38],
 ⟨none, none, .at 0 (.store 2), [.t 51, .t 46]⟩,
 ii 52 (.iad 2) [.t 39, .t 41],
 ⟨none, none, .at 0 (.store 2), [.t 52, .t 50]⟩]))
 (.reg [mv 35 9,
 b1 36 .sub 35 (.int .i64 1),
 mt 9 36])))))))
 (.reg [mv 15 8,
 b1 16 .add 15 (.int .i64 1),
 mt 8 16]))))))⟩
theorem k109 : chkF Tryz.prog 109 F109 = true := by kernel_rfl
def F120 : Fn := ⟨23, 1, [.tmp 2],
 (.seq
 (.reg [ii 1 (.box 0 3) [.t 0],
 mc 2 (.bool false)])
 (.seq
 (.reg [fa 3 0 1,
 ld 4 3,
 ii 5 (.call 65) [.t 4, .c (.p (.int .i64 1)), .c (.p (.int .i64 20000))],
 mv 6 5,
 gt 7 6 (.fad 1) [.t 1],
 gt 8 6 (.load 1 false false) [.t 7],
 gt 9 6 (.bin .geq) [.t 8, .c (.p (.int .i64 1))],
 ii 10 .pick [.t 6, .t 9, .c (.p (.bool false))],
 mv 11 10,
 gt 12 11 (.fad 1) [.t 1],
 gt 13 11 (.load 1 false false) [.t 12],
 gt 14 11 (.fad 2) [.t 1],
 gt 15 11 (.load 1 false false) [.t 14],
 gt 16 11 (.bin .leq) [.t 13, .t 15],
 ii 17 .pick [.t 11, .t 16, .c (.p (.bool false))],
 mv 18 17,
 gt 19 18 (.fad 2) [.t 1],
 gt 20 18 (.load 1 false false) [.t 19],
 gt 21 18 (.bin .leq) [.t 20, .c (.p (.int .i64 200))],
 ii 22 .pick [.t 18, .t 21, .c (.p (.bool false))],
 mt 2 22])
 .ret))⟩
theorem k120 : chkF Tryz.prog 120 F120 = true := by kernel_rfl
def F121 : Fn := ⟨8, 1, [.tmp 3],
 (.seq
 (.reg [ii 2 (.box 0 4) [.t 0],
 mc 3 (.bool false)])
 (.seq
 (.reg [ii 4 (.load 5 true false) [.t 1],
 ii 5 (.load 4 true false) [.t 2],
 ii 6 (.call 51) [.t 4, .t 5],
 ii 7 (.un .not) [.t 6],
 mt 3 7])
 .ret))⟩
theorem k121 : chkF Tryz.prog 121 F121 = true := by kernel_rfl
def F122 : Fn := ⟨9, 0, [.tmp 4],
 (.seq
 (.reg [mc 4 (.bool false)])
 (.seq
 (.reg [mv 5 0,
 mv 6 1,
 ii 7 (.call 133) [.t 5, .t 6],
 b1 8 .geq 7 (.int .i64 0),
 mt 4 8])
 .ret))⟩
theorem k122 : chkF Tryz.prog 122 F122 = true := by kernel_rfl
def F123 : Fn := ⟨10, 2, [.tmp 4],
 (.seq
 (.reg [ii 2 (.box 0 5) [.t 0],
 ii 3 (.box 1 2) [.t 1],
 mc 4 (.bool false)])
 (.seq
 (.pre [] [0] [] (.reg [fa 5 1 3,
 ld 6 5,
 ii 7 (.mkfn 135) [.t 2],
 ii 8 (.call 134) [.t 6, .t 7],
 ii 9 (.un .not) [.t 8],
 mt 4 9]))
 .ret))⟩
theorem k123 : chkF Tryz.prog 123 F123 = true := by kernel_rfl
def F124 : Fn := ⟨2, 0, [.tmp 0],
 (.seq
 (.reg [mc 0 (.bool false)])
 (.seq
 (.reg [ii 1 (.call 136) [],
 mt 0 1])
 .ret))⟩
theorem k124 : chkF Tryz.prog 124 F124 = true := by kernel_rfl
def F125 : Fn := ⟨8, 1, [.tmp 3],
 (.seq
 (.reg [ii 2 (.box 0 4) [.t 0],
 mc 3 (.bool false)])
 (.seq
 (.reg [ii 4 (.load 5 true false) [.t 1],
 ii 5 (.load 4 true false) [.t 2],
 ii 6 (.call 51) [.t 4, .t 5],
 ii 7 (.un .not) [.t 6],
 mt 3 7])
 .ret))⟩
theorem k125 : chkF Tryz.prog 125 F125 = true := by kernel_rfl
def F126 : Fn := ⟨19, 0, [.tmp 4],
 (.seq
 (.reg [mc 4 (.int .i64 0)])
 (.seq
 (.seq
 (.reg [mv 6 0,
 ii 7 .len [.t 6],
 ii 8 (.mov false) [.c (.p (.int .i64 0))]])
 (.block 0
 (.loop [4, 5, 6, 9, 10, 11, 12, 13, 14, 15, 16, 17, 18] []
 (.seq
 (.reg [b2 9 .lss 8 7])
 (.seq
 (.cond (.t 9)
 .skip
 (.exit 0))
 (.seq
 (.block 1
 (.seq
 (.reg [mv 10 8,
 mt 5 10])
 (.seq
 (.reg [mv 11 1,
 mv 12 0,
 mv 13 5,
 ii 14 (.iad 3) [.t 12, .t 13],
 ii 15 (.load 3 true false) [.t 14],
 ii 16 .callv [.t 11, .t 15]])
 (.cond (.t 16)
 (.seq
 (.reg [mv 17 5,
 mt 4 17])
 .ret)
 .skip))))
 (.reg [b1 18 .add 8 (.int .i64 1),
 mv 8 18])))))))
 (.seq
 (.reg [mc 4 (.int .i64 (-1))])
 .ret)))⟩
theorem k126 : chkF Tryz.prog 126 F126 = true := by kernel_rfl
def F133 : Fn := ⟨19, 0, [.tmp 4],
 (.seq
 (.reg [mc 4 (.int .i64 0)])
 (.seq
 (.seq
 (.reg [mv 6 0,
 ii 7 .len [.t 6],
 ii 8 (.mov false) [.c (.p (.int .i64 0))]])
 (.block 0
 (.loop [4, 5, 6, 9, 10, 11, 12, 13, 14, 15, 16, 17, 18] []
 (.seq
 (.reg [b2 9 .lss 8 7])
 (.seq
 (.cond (.t 9)
 .skip
 (.exit 0))
 (.seq
 (.block 1
 (.seq
 (.reg [mv 10 8,
 mt 5 10])
 (.seq
 (.reg [mv 11 1,
 mv 12 0,
 mv 13 5,
 ii 14 (.iad 4) [.t 12, .t 13],
 ii 15 (.load 4 true false) [.t 14],
 ii 16 .callv [.t 11, .t 15]])
 (.cond (.t 16)
 (.seq
 (.reg [mv 17 5,
 mt 4 17])
 .ret)
 .skip))))
 (.reg [b1 18 .add 8 (.int .i64 1),
 mv 8 18])))))))
 (.seq
 (.reg [mc 4 (.int .i64 (-1))])
 .ret)))⟩
theorem k133 : chkF Tryz.prog 133 F133 = true := by kernel_rfl
def F134 : Fn := ⟨9, 0, [.tmp 4],
 (.seq
 (.reg [mc 4 (.bool false)])
 (.seq
 (.reg [mv 5 0,
 mv 6 1,
 ii 7 (.call 139) [.t 5, .t 6],
 b1 8 .geq 7 (.int .i64 0),
 mt 4 8])
 .ret))⟩
theorem k134 : chkF Tryz.prog 134 F134 = true := by kernel_rfl
def F135 : Fn := ⟨14, 1, [.tmp 3],
 (.seq
 (.reg [ii 2 (.box 0 4) [.t 0],
 mc 3 (.bool false)])
 (.seq
 (.reg [fa 4 0 2,
 ld 5 4,
 b1 6 .lss 5 (.int .i64 0),
 mv 7 6,
 gf 8 7 (.fad 0) [.t 2],
 gf 9 7 (.load 1 false false) [.t 8],
 gf 10 7 (.fad 0) [.t 1],
 gf 11 7 (.load 1 false false) [.t 10],
 gf 12 7 (.bin .geq) [.t 9, .t 11],
 ii 13 .pick [.t 7, .c (.p (.bool true)), .t 12],
 mt 3 13])
 .ret))⟩
theorem k135 : chkF Tryz.prog 135 F135 = true := by kernel_rfl
def F136 : Fn := ⟨104, 5, [.tmp 0],
 (.seq
 (.reg [mc 0 (.bool false)])
 (.seq
 (.reg [ii 11 (.bsl 1 1) [.c (.p (.int .i64 0))],
 ⟨some 12, none, .build [.int .i64 0, .int .i64 0, .int .i64 0, .int .i64 0, .sl 1 true []] [(0, 1), (1, 1), (2, 1), (4, 1)], [.c (.p (.int .i64 2)), .c (.p (.int .i64 1)), .c (.p (.int .i64 1)), .t 11]⟩,
 ⟨some 1, none, .alloc 0 5 [.p (.int .i64 0), .p (.int .i64 0), .p (.int .i64 0), .p (.int .i64 0), .ow 1 true []], []⟩,
 ⟨none, none, .store 5, [.t 1, .t 12]⟩])
 (.seq
 (.reg [⟨some 13, none, .build [.int .i64 0, .int .i64 0, .int .i64 0] [(1, 1), (2, 1)], [.c (.p (.int .i64 1)), .c (.p (.int .i64 2))]⟩,
 ii 14 (.bsl 3 1) [.t 13],
 ⟨some 15, none, .build [.int .i64 0, .int .i64 0, .int .i64 0, .sl 3 true []] [(0, 1), (1, 1), (2, 1), (3, 1)], [.c (.p (.int .i64 3)), .c (.p (.int .i64 8)), .c (.p (.int .i64 10)), .t 14]⟩,
 ⟨some 2, none, .alloc 1 4 [.p (.int .i64 0), .p (.int .i64 0), .p (.int .i64 0), .ow 3 true []], []⟩,
 ⟨none, none, .store 4, [.t 2, .t 15]⟩])
 (.seq
 (.regd [ii 16 (.at 0 (.load 5 true false)) [.t 1],
 ii 17 (.pl (.call 140)) [.t 16],
 ii 18 (.at 1 (.load 4 true false)) [.t 2],
 ii 19 (.pl (.call 141)) [.t 18],
 mt 3 17,
 mt 4 19])
 (.seq
 (.reg [mv 21 3,
 ii 22 (.call 142) [.t 21],
 mv 20 22,
 ii 23 (.ext 0) [.t 20],
 ii 24 (.ext 1) [.t 20],
 ⟨some 5, none, .alloc 2 5 [.p (.int .i64 0), .p (.int .i64 0), .p (.int .i64 0), .p (.int .i64 0), .ow 1 true []], []⟩,
 ⟨none, none, .store 5, [.t 5, .t 23]⟩,
 mt 6 24])
 (.seq
 (.reg [ii 26 (.load 5 true false) [.t 1],
 mv 27 4,
 ii 28 (.call 143) [.t 26, .t 27],
 mv 25 28,
 ii 29 (.ext 0) [.t 25],
 ii 30 (.ext 1) [.t 25],
 ⟨some 7, none, .alloc 3 4 [.p (.int .i64 0), .p (.int .i64 0), .p (.int .i64 0), .ow 3 true []], []⟩,
 ⟨none, none, .store 4, [.t 7, .t 29]⟩,
 mt 8 30])
 (.seq
 (.reg [⟨some 32, none, .build [.int .i64 0, .int .i64 0, .int .i64 0, .int .i64 0, .sl 1 true []] [(0, 1)], [.c (.p (.int .i64 1))]⟩,
 mv 33 4,
 ii 34 (.call 143) [.t 32, .t 33],
 mv 31 34,
 ii 35 (.ext 0) [.t 31],
 ii 36 (.ext 1) [.t 31],
 ⟨some 9, none, .alloc 4 4 [.p (.int .i64 0), .p (.int .i64 0), .p (.int .i64 0), .ow 3 true []], []⟩,
 ⟨none, none, .store 4, [.t 9, .t 35]⟩,
 mt 10 36])
 (.seq
 (.reg [ii 37 (.call 144) [],
 mv 38 37,
 gt 39 38 (.load 5 true false) [.t 1],
 gt 40 38 (.call 50) [.t 39],
 ii 41 .pick [.t 38, .t 40, .c (.p (.bool false))],
 mv 42 41,
 gt 43 42 (.load 5 true false) [.t 1],
 gt 44 42 (.load 4 true false) [.t 2],
 gt 45 42 (.call 51) [.t 43, .t 44],
 ii 46 .pick [.t 42, .t 45, .c (.p (.bool false))],
 mv 47 46,
 ⟨some 48, (some (47, true)), .build [.int .i64 0, .int .i64 0, .int .i64 0, .int .i64 0, .sl 1 true []] [], []⟩,
 gt 49 47 (.call 50) [.t 48],
 gt 50 47 (.un .not) [.t 49],
 ii 51 .pick [.t 47, .t 50, .c (.p (.bool false))],
 mv 52 51,
 gt 53 52 (.mov false) [.t 3],
 ⟨some 54, (some (52, true)), .bin .eql, [.t 53, .c (.p (.str ⟨#[99, 111, 114, 101, 115, 32, 50, 32, 115, 121, 110, 99, 115, 32, 49, 32, 108, 97, 103, 32, 49, 32, 109, 111, 118, 101, 32, 48, 32, 114, 101, 115, 32, 48]⟩))]⟩,
 ii 55 .pick [.t 52, .t 54, .c (.p (.bool false))],
 mv 56 55,
 gt 57 56 (.mov false) [.t 4],
 ⟨some 58, (some (56, true)), .bin .eql, [.t 57, .c (.p (.str ⟨#[51, 47, 56, 47, 49, 48, 32, 48, 64, 49, 43, 50]⟩))]⟩,
 ii 59 .pick [.t 56, .t 58, .c (.p (.bool false))],
 mv 60 59,
 gt 61 60 (.mov false) [.t 6],
 gt 62 60 (.bin .eql) [.t 61, .c (.p (.int .i64 0))],
 ii 63 .pick [.t 60, .t 62, .c (.p (.bool false))],
 mv 64 63,
 gt 65 64 (.fad 0) [.t 5],
 gt 66 64 (.load 1 false false) [.t 65],
 gt 67 64 (.bin .eql) [.t 66, .c (.p (.int .i64 2))],
 ii 68 .pick [.t 64, .t 67, .c (.p (.bool false))],
 mv 69 68,
 gt 70 69 (.fad 4) [.t 5],
 gt 71 69 (.load 1 false false) [.t 70],
 gt 72 69 .len [.t 71],
 gt 73 69 (.bin .eql) [.t 72, .c (.p (.int .i64 1))],
 ii 74 .pick [.t 69, .t 73, .c (.p (.bool false))],
 mv 75 74,
 gt 76 75 (.mov false) [.t 8],
 gt 77 75 (.bin .eql) [.t 76, .c (.p (.int .i64 0))],
 ii 78 .pick [.t 75, .t 77, .c (.p (.bool false))],
 mv 79 78,
 gt 80 79 (.load 4 true false) [.t 7],
 gt 81 79 (.load 4 true false) [.t 2],
 gt 82 79 (.call 145) [.t 80, .t 81],
 ii 83 .pick [.t 79, .t 82, .c (.p (.bool false))],
 mv 84 83,
 gt 85 84 (.mov false) [.t 10],
 gt 86 84 (.bin .eql) [.t 85, .c (.p (.int .i64 1))],
 ii 87 .pick [.t 84, .t 86, .c (.p (.bool false))],
 mv 88 87,
 ⟨some 89, (some (88, true)), .build [.int .i64 0, .int .i64 0, .int .i64 0] [(0, 1), (1, 1), (2, 1)], [.c (.p (.int .i64 1)), .c (.p (.int .i64 1)), .c (.p (.int .i64 1))]⟩,
 gt 90 88 (.call 106) [.t 89],
 ii 91 .pick [.t 88, .t 90, .c (.p (.bool false))],
 mv 92 91,
 gt 93 92 (.load 5 true false) [.t 1],
 ⟨some 94, (some (92, true)), .build [.int .i64 0, .int .i64 0, .int .i64 0, .int .i64 0] [(0, 1), (2, 1), (3, 1)], [.c (.p (.int .i64 1)), .c (.p (.int .i64 3)), .c (.p (.int .i64 3))]⟩,
 gt 95 92 (.call 71) [.t 93, .t 94],
 ii 96 .pick [.t 92, .t 95, .c (.p (.bool false))],
 mv 97 96,
 gt 98 97 (.load 5 true false) [.t 1],
 gt 99 97 (.load 4 true false) [.t 2],
 gt 100 97 (.call 146) [.t 98, .t 99],
 gt 101 97 .len [.t 100],
 gt 102 97 (.bin .eql) [.t 101, .c (.p (.int .i64 1))],
 ii 103 .pick [.t 97, .t 102, .c (.p (.bool false))],
 mt 0 103])
 .ret))))))))⟩
theorem k136 : chkF Tryz.prog 136 F136 = true := by kernel_rfl
def F139 : Fn := ⟨19, 0, [.tmp 4],
 (.seq
 (.reg [mc 4 (.int .i64 0)])
 (.seq
 (.seq
 (.reg [mv 6 0,
 ii 7 .len [.t 6],
 ii 8 (.mov false) [.c (.p (.int .i64 0))]])
 (.block 0
 (.loop [4, 5, 6, 9, 10, 11, 12, 13, 14, 15, 16, 17, 18] []
 (.seq
 (.reg [b2 9 .lss 8 7])
 (.seq
 (.cond (.t 9)
 .skip
 (.exit 0))
 (.seq
 (.block 1
 (.seq
 (.reg [mv 10 8,
 mt 5 10])
 (.seq
 (.reg [mv 11 1,
 mv 12 0,
 mv 13 5,
 ii 14 (.iad 4) [.t 12, .t 13],
 ii 15 (.load 4 true false) [.t 14],
 ii 16 .callv [.t 11, .t 15]])
 (.cond (.t 16)
 (.seq
 (.reg [mv 17 5,
 mt 4 17])
 .ret)
 .skip))))
 (.reg [b1 18 .add 8 (.int .i64 1),
 mv 8 18])))))))
 (.seq
 (.reg [mc 4 (.int .i64 (-1))])
 .ret)))⟩
theorem k139 : chkF Tryz.prog 139 F139 = true := by kernel_rfl
def F140 : Fn := ⟨44, 1, [.tmp 2],
 (.seq
 (.reg [ii 1 (.box 0 5) [.t 0],
 ⟨some 2, none, .mov true, [.c (.p (.str ⟨#[]⟩))]⟩])
 (.seq
 (.seq
 (.reg [ii 6 (.load 5 true false) [.t 1],
 ii 7 (.call 50) [.t 6],
 ii 8 (.un .not) [.t 7]])
 (.cond (.t 8)
 (.seq
 (.reg [⟨some 2, none, .mov true, [.c (.p (.str ⟨#[]⟩))]⟩])
 .ret)
 .skip))
 (.seq
 (.regd [fa 9 0 1,
 ii 10 (.at 0 (.load 1 false false)) [.t 9],
 ii 11 (.pl (.call 147)) [.t 10],
 fa 12 1 1,
 ii 13 (.at 0 (.load 1 false false)) [.t 12],
 ii 14 (.pl (.call 147)) [.t 13],
 fa 15 2 1,
 ii 16 (.at 0 (.load 1 false false)) [.t 15],
 ii 17 (.pl (.call 147)) [.t 16],
 fa 18 3 1,
 ii 19 (.at 0 (.load 1 false false)) [.t 18],
 ii 20 (.pl (.call 147)) [.t 19],
 ⟨some 21, none, .bsl 1 8, [.c (.p (.str ⟨#[99, 111, 114, 101, 115]⟩)), .t 11, .c (.p (.str ⟨#[115, 121, 110, 99, 115]⟩)), .t 14, .c (.p (.str ⟨#[108, 97, 103]⟩)), .t 17, .c (.p (.str ⟨#[109, 111, 118, 101]⟩)), .t 20]⟩,
 mt 3 21])
 (.seq
 (.seq
 (.reg [fa 22 4 1,
 ld 23 22,
 ii 24 .len [.t 23],
 b1 25 .gtr 24 (.int .i64 0)])
 (.cond (.t 25)
 (.reg [mt 26 3,
 ⟨some 27, none, .bsl 1 1, [.c (.p (.str ⟨#[114, 101, 115]⟩))]⟩,
 ii 28 (.app 1 16) [.t 26, .t 27],
 mt 3 28])
 .skip))
 (.seq
 (.seq
 (.reg [fa 29 4 1,
 ld 30 29,
 ii 31 .len [.t 30],
 ii 32 (.mov false) [.c (.p (.int .i64 0))]])
 (.block 0
 (.loop [0, 1, 2, 5, 6, 7, 8, 9, 10, 11, 12, 13, 14, 15, 16, 17, 18, 19, 20, 21, 22, 23, 24, 25, 26, 27, 28, 29, 33, 34, 35, 36, 37, 38, 39, 40, 41, 42, 43] []
 (.seq
 (.reg [b2 33 .lss 32 31])
 (.seq
 (.cond (.t 33)
 .skip
 (.exit 0))
 (.seq
 (.block 1
 (.seq
 (.reg [ii 34 (.iad 1) [.t 30, .t 32],
 ld 35 34,
 mt 5 35])
 (.reg [mt 36 3,
 mv 37 5,
 ii 38 (.call 147) [.t 37],
 ii 39 (.bsl 1 1) [.t 38],
 ii 40 (.app 1 16) [.t 36, .t 39],
 mt 3 40])))
 (.reg [b1 41 .add 32 (.int .i64 1),
 mv 32 41])))))))
 (.seq
 (.reg [mv 42 3,
 ⟨some 43, none, .call 148, [.t 42, .c (.p (.str ⟨#[32]⟩))]⟩,
 mt 2 43])
 .ret))))))⟩
theorem k140 : chkF Tryz.prog 140 F140 = true := by kernel_rfl
def F141 : Fn := ⟨48, 2, [.tmp 2],
 (.seq
 (.reg [ii 1 (.box 0 4) [.t 0],
 ⟨some 2, none, .mov true, [.c (.p (.str ⟨#[]⟩))]⟩])
 (.seq
 (.seq
 (.regd [ii 6 (.pl (.call 149)) [],
 ii 7 (.at 0 (.load 4 true false)) [.t 1],
 ii 8 (.pl (.call 51)) [.t 6, .t 7],
 ii 9 (.un .not) [.t 8]])
 (.cond (.t 9)
 (.seq
 (.reg [⟨some 2, none, .mov true, [.c (.p (.str ⟨#[]⟩))]⟩])
 .ret)
 .skip))
 (.seq
 (.regd [fa 10 0 1,
 ii 11 (.at 0 (.load 1 false false)) [.t 10],
 ii 12 (.pl (.call 147)) [.t 11],
 ⟨some 13, none, .bin .add, [.t 12, .c (.p (.str ⟨#[47]⟩))]⟩,
 fa 14 1 1,
 ii 15 (.at 0 (.load 1 false false)) [.t 14],
 ii 16 (.pl (.call 147)) [.t 15],
 b2 17 .add 13 16,
 ⟨some 18, none, .bin .add, [.t 17, .c (.p (.str ⟨#[47]⟩))]⟩,
 fa 19 2 1,
 ii 20 (.at 0 (.load 1 false false)) [.t 19],
 ii 21 (.pl (.call 147)) [.t 20],
 b2 22 .add 18 21,
 mt 3 22])
 (.seq
 (.seq
 (.reg [fa 23 3 1,
 ld 24 23,
 ii 25 .len [.t 24],
 ii 26 (.mov false) [.c (.p (.int .i64 0))]])
 (.block 0
 (.loop [0, 1, 2, 5, 6, 7, 8, 9, 10, 11, 12, 13, 14, 15, 16, 17, 18, 19, 20, 21, 22, 23, 27, 28, 29, 30, 31, 32, 33, 34, 35, 36, 37, 38, 39, 40, 41, 42, 43, 44, 45, 46, 47] [1]
 (.seq
 (.reg [b2 27 .lss 26 25])
 (.seq
 (.cond (.t 27)
 .skip
 (.exit 0))
 (.seq
 (.block 1
 (.seq
 (.reg [ii 28 (.iad 3) [.t 24, .t 26],
 ii 29 (.load 3 true false) [.t 28],
 ⟨some 5, none, .alloc 1 3 [.p (.int .i64 0), .p (.int .i64 0), .p (.int .i64 0)], []⟩,
 ⟨none, none, .store 3, [.t 5, .t 29]⟩])
 (.regd [mv 30 3,
 fa 31 0 5,
 ii 32 (.at 1 (.load 1 false false)) [.t 31],
 ii 33 (.pl (.call 147)) [.t 32],
 ⟨some 34, none, .bin .add, [.c (.p (.str ⟨#[32]⟩)), .t 33]⟩,
 ⟨some 35, none, .bin .add, [.t 34, .c (.p (.str ⟨#[64]⟩))]⟩,
 fa 36 1 5,
 ii 37 (.at 1 (.load 1 false false)) [.t 36],
 ii 38 (.pl (.call 147)) [.t 37],
 b2 39 .add 35 38,
 ⟨some 40, none, .bin .add, [.t 39, .c (.p (.str ⟨#[43]⟩))]⟩,
 fa 41 2 5,
 ii 42 (.at 1 (.load 1 false false)) [.t 41],
 ii 43 (.pl (.call 147)) [.t 42],
 b2 44 .add 40 43,
 b2 45 .add 30 44,
 mt 3 45])))
 (.reg [b1 46 .add 26 (.int .i64 1),
 mv 26 46])))))))
 (.seq
 (.reg [mv 47 3,
 mt 2 47])
 .ret)))))⟩
theorem k141 : chkF Tryz.prog 141 F141 = true := by kernel_rfl
def F142 : Fn := ⟨55, 2, [.cell 2 5, .tmp 3],
 (.seq
 (.reg [⟨some 2, none, .alloc 0 5 [.p (.int .i64 0), .p (.int .i64 0), .p (.int .i64 0), .p (.int .i64 0), .ow 1 true []], []⟩,
 mc 3 (.int .i64 0)])
 (.seq
 (.reg [mv 8 0,
 ⟨some 9, none, .call 150, [.t 8, .c (.p (.str ⟨#[32]⟩))]⟩,
 mt 4 9])
 (.seq
 (.seq
 (.reg [mv 10 4,
 ii 11 .len [.t 10],
 b1 12 .lss 11 (.int .i64 8)])
 (.cond (.t 12)
 (.seq
 (.reg [⟨some 13, none, .build [.int .i64 0, .int .i64 0, .int .i64 0, .int .i64 0, .sl 1 true []] [], []⟩,
 ⟨none, none, .store 5, [.t 2, .t 13]⟩,
 mc 3 (.int .i64 1)])
 .ret)
 .skip))
 (.seq
 (.pre [5, 41, 47] [] [1] (.rega [mv 14 4,
 ii 15 (.iad 1) [.t 14, .c (.p (.int .i64 1))],
 ii 16 (.loadp 1 false) [.t 15],
 ii 17 (.pl (.call 151)) [.t 16],
 mv 18 4,
 ii 19 (.iad 1) [.t 18, .c (.p (.int .i64 3))],
 ii 20 (.loadp 1 false) [.t 19],
 ii 21 (.pl (.call 151)) [.t 20],
 mv 22 4,
 ii 23 (.iad 1) [.t 22, .c (.p (.int .i64 5))],
 ii 24 (.loadp 1 false) [.t 23],
 ii 25 (.pl (.call 151)) [.t 24],
 mv 26 4,
 ii 27 (.iad 1) [.t 26, .c (.p (.int .i64 7))],
 ii 28 (.loadp 1 false) [.t 27],
 ii 29 (.pl (.call 151)) [.t 28],
 ⟨some 30, none, .build [.int .i64 0, .int .i64 0, .int .i64 0, .int .i64 0, .sl 1 true []] [(0, 1), (1, 1), (2, 1), (3, 1)], [.t 17, .t 21, .t 25, .t 29]⟩,
 ⟨some 5, none, .alloc 1 5 [.p (.int .i64 0), .p (.int .i64 0), .p (.int .i64 0), .p (.int .i64 0), .ow 1 true []], []⟩,
 ⟨none, none, .at 1 (.store 5), [.t 5, .t 30]⟩]))
 (.seq
 (.seq
 (.reg [mv 31 4,
 mv 32 4,
 ii 33 .len [.t 32],
 ii 34 .mn [.c (.p (.int .i64 9)), .t 33],
 ii 35 (.slc 1 true false) [.t 31, .t 34],
 ii 36 .len [.t 35],
 ii 37 (.mov false) [.c (.p (.int .i64 0))]])
 (.block 0
 (.loop [3, 4, 7, 8, 9, 10, 11, 12, 13, 14, 15, 16, 17, 18, 19, 20, 21, 22, 23, 24, 25, 26, 27, 28, 29, 30, 31, 32, 33, 34, 38, 39, 40, 41, 42, 43, 44, 45, 46, 47, 48, 49, 50, 51, 52, 53, 54] []
 (.seq
 (.reg [b2 38 .lss 37 36])
 (.seq
 (.cond (.t 38)
 .skip
 (.exit 0))
 (.seq
 (.block 1
 (.seq
 (.reg [ii 39 (.iad 1) [.t 35, .t 37],
 ld 40 39,
 mt 7 40])
 (.regd [fa 41 4 5,
 ii 42 (.at 1 (.load 1 false true)) [.t 41],
 mv 43 7,
 ii 44 (.pl (.call 151)) [.t 43],
 ii 45 (.bsl 1 1) [.t 44],
 ii 46 (.pl (.app 1 8)) [.t 42, .t 45],
 fa 47 4 5,
 ⟨none, none, .at 1 (.store 1), [.t 47, .t 46]⟩])))
 (.reg [b1 48 .add 37 (.int .i64 1),
 mv 37 48])))))))
 (.seq
 (.seq
 (.reg [ii 49 (.load 5 true false) [.t 5],
 ii 50 (.call 140) [.t 49],
 mv 51 0,
 b2 52 .neq 50 51])
 (.cond (.t 52)
 (.seq
 (.reg [⟨some 53, none, .build [.int .i64 0, .int .i64 0, .int .i64 0, .int .i64 0, .sl 1 true []] [], []⟩,
 ⟨none, none, .store 5, [.t 2, .t 53]⟩,
 mc 3 (.int .i64 1)])
 .ret)
 .skip))
 (.seq
 (.reg [ii 54 (.load 5 true false) [.t 5],
 ⟨none, none, .store 5, [.t 2, .t 54]⟩,
 mc 3 (.int .i64 0)])
 .ret)))))))⟩
theorem k142 : chkF Tryz.prog 142 F142 = true := by kernel_rfl
end Go.Proofs.YtkjghcbnmipgfaaGreatDoor.Vc
namespace Go.Proofs.YtkjghcbnmipgfaaGreatDoor.Vc
open Go.RowKit
def F143 : Fn := ⟨89, 3, [.cell 4 4, .tmp 5],
 (.seq
 (.reg [ii 2 (.box 0 5) [.t 0],
 ⟨some 4, none, .alloc 1 4 [.p (.int .i64 0), .p (.int .i64 0), .p (.int .i64 0), .ow 3 true []], []⟩,
 mc 5 (.int .i64 0)])
 (.seq
 (.reg [mv 17 1,
 ⟨some 18, none, .call 150, [.t 17, .c (.p (.str ⟨#[32]⟩))]⟩,
 mt 6 18])
 (.seq
 (.reg [mv 19 6,
 ii 20 (.iad 1) [.t 19, .c (.p (.int .i64 0))],
 ld 21 20,
 ⟨some 22, none, .call 150, [.t 21, .c (.p (.str ⟨#[47]⟩))]⟩,
 mt 7 22])
 (.seq
 (.seq
 (.reg [mv 23 7,
 ii 24 .len [.t 23],
 b1 25 .neq 24 (.int .i64 3)])
 (.cond (.t 25)
 (.seq
 (.reg [⟨some 26, none, .build [.int .i64 0, .int .i64 0, .int .i64 0, .sl 3 true []] [], []⟩,
 ⟨none, none, .store 4, [.t 4, .t 26]⟩,
 mc 5 (.int .i64 1)])
 .ret)
 .skip))
 (.seq
 (.pre [8, 59, 70] [] [2] (.rega [mv 27 7,
 ii 28 (.iad 1) [.t 27, .c (.p (.int .i64 0))],
 ii 29 (.loadp 1 false) [.t 28],
 ii 30 (.pl (.call 151)) [.t 29],
 mv 31 7,
 ii 32 (.iad 1) [.t 31, .c (.p (.int .i64 1))],
 ii 33 (.loadp 1 false) [.t 32],
 ii 34 (.pl (.call 151)) [.t 33],
 mv 35 7,
 ii 36 (.iad 1) [.t 35, .c (.p (.int .i64 2))],
 ii 37 (.loadp 1 false) [.t 36],
 ii 38 (.pl (.call 151)) [.t 37],
 ⟨some 39, none, .build [.int .i64 0, .int .i64 0, .int .i64 0, .sl 3 true []] [(0, 1), (1, 1), (2, 1)], [.t 30, .t 34, .t 38]⟩,
 ⟨some 8, none, .alloc 2 4 [.p (.int .i64 0), .p (.int .i64 0), .p (.int .i64 0), .ow 3 true []], []⟩,
 ⟨none, none, .at 2 (.store 4), [.t 8, .t 39]⟩]))
 (.seq
 (.seq
 (.reg [mv 40 6,
 ii 41 (.slc 1 true false) [.t 40, .c (.p (.int .i64 1))],
 ii 42 .len [.t 41],
 ii 43 (.mov false) [.c (.p (.int .i64 0))]])
 (.block 0
 (.loop [0, 5, 6, 7, 10, 11, 12, 13, 14, 15, 16, 17, 18, 19, 20, 21, 22, 23, 24, 25, 26, 27, 28, 29, 30, 31, 32, 33, 34, 35, 36, 37, 38, 39, 40, 44, 45, 46, 47, 48, 49, 50, 51, 52, 53, 54, 55, 56, 57, 58, 59, 60, 61, 62, 63, 64, 65, 66, 67, 68, 69, 70, 71, 72, 73, 74, 75, 76, 77, 78, 79, 80, 81, 82, 83, 84, 85, 86, 87, 88] []
 (.seq
 (.reg [b2 44 .lss 43 42])
 (.seq
 (.cond (.t 44)
 .skip
 (.exit 0))
 (.seq
 (.block 1
 (.seq
 (.reg [ii 45 (.iad 1) [.t 41, .t 43],
 ld 46 45,
 mt 10 46])
 (.seq
 (.reg [mv 48 10,
 ⟨some 49, none, .call 152, [.t 48, .c (.p (.str ⟨#[64]⟩))]⟩,
 mv 47 49,
 ii 50 (.ext 0) [.t 47],
 ii 51 (.ext 1) [.t 47],
 ii 52 (.ext 2) [.t 47],
 mt 11 50,
 mt 12 51,
 mt 13 52])
 (.seq
 (.reg [mv 54 12,
 ⟨some 55, none, .call 152, [.t 54, .c (.p (.str ⟨#[43]⟩))]⟩,
 mv 53 55,
 ii 56 (.ext 0) [.t 53],
 ii 57 (.ext 1) [.t 53],
 ii 58 (.ext 2) [.t 53],
 mt 14 56,
 mt 15 57,
 mt 16 58])
 (.regd [fa 59 3 8,
 ii 60 (.at 2 (.load 1 false true)) [.t 59],
 mv 61 11,
 ii 62 (.pl (.call 151)) [.t 61],
 mv 63 14,
 ii 64 (.pl (.call 151)) [.t 63],
 mv 65 15,
 ii 66 (.pl (.call 151)) [.t 65],
 ⟨some 67, none, .build [.int .i64 0, .int .i64 0, .int .i64 0] [(0, 1), (1, 1), (2, 1)], [.t 62, .t 64, .t 66]⟩,
 ii 68 (.bsl 3 1) [.t 67],
 ii 69 (.pl (.app 3 24)) [.t 60, .t 68],
 fa 70 3 8,
 ⟨none, none, .at 2 (.store 1), [.t 70, .t 69]⟩])))))
 (.reg [b1 71 .add 43 (.int .i64 1),
 mv 43 71])))))))
 (.seq
 (.seq
 (.reg [ii 72 (.load 5 true false) [.t 2],
 ii 73 (.call 50) [.t 72],
 ii 74 (.un .not) [.t 73],
 mv 75 74,
 gf 76 75 (.load 5 true false) [.t 2],
 gf 77 75 (.load 4 true false) [.t 8],
 gf 78 75 (.call 51) [.t 76, .t 77],
 gf 79 75 (.un .not) [.t 78],
 ii 80 .pick [.t 75, .c (.p (.bool true)), .t 79],
 mv 81 80,
 gf 82 81 (.load 4 true false) [.t 8],
 gf 83 81 (.call 141) [.t 82],
 gf 84 81 (.mov false) [.t 1],
 gf 85 81 (.bin .neq) [.t 83, .t 84],
 ii 86 .pick [.t 81, .c (.p (.bool true)), .t 85]])
 (.cond (.t 86)
 (.seq
 (.reg [⟨some 87, none, .build [.int .i64 0, .int .i64 0, .int .i64 0, .sl 3 true []] [], []⟩,
 ⟨none, none, .store 4, [.t 4, .t 87]⟩,
 mc 5 (.int .i64 1)])
 .ret)
 .skip))
 (.seq
 (.reg [ii 88 (.load 4 true false) [.t 8],
 ⟨none, none, .store 4, [.t 4, .t 88]⟩,
 mc 5 (.int .i64 0)])
 .ret))))))))⟩
theorem k143 : chkF Tryz.prog 143 F143 = true := by kernel_rfl
def F144 : Fn := ⟨2, 0, [.tmp 0],
 (.seq
 (.reg [mc 0 (.bool false)])
 (.seq
 (.reg [ii 1 (.call 153) [],
 mt 0 1])
 .ret))⟩
theorem k144 : chkF Tryz.prog 144 F144 = true := by kernel_rfl
def F145 : Fn := ⟨31, 2, [.tmp 4],
 (.seq
 (.reg [ii 2 (.box 0 4) [.t 0],
 ii 3 (.box 1 4) [.t 1],
 mc 4 (.bool false)])
 (.seq
 (.reg [fa 5 0 2,
 ld 6 5,
 fa 7 0 3,
 ld 8 7,
 b2 9 .eql 6 8,
 mv 10 9,
 gt 11 10 (.fad 1) [.t 2],
 gt 12 10 (.load 1 false false) [.t 11],
 gt 13 10 (.fad 1) [.t 3],
 gt 14 10 (.load 1 false false) [.t 13],
 gt 15 10 (.bin .eql) [.t 12, .t 14],
 ii 16 .pick [.t 10, .t 15, .c (.p (.bool false))],
 mv 17 16,
 gt 18 17 (.fad 2) [.t 2],
 gt 19 17 (.load 1 false false) [.t 18],
 gt 20 17 (.fad 2) [.t 3],
 gt 21 17 (.load 1 false false) [.t 20],
 gt 22 17 (.bin .eql) [.t 19, .t 21],
 ii 23 .pick [.t 17, .t 22, .c (.p (.bool false))],
 mv 24 23,
 gt 25 24 (.fad 3) [.t 2],
 gt 26 24 (.load 1 false false) [.t 25],
 gt 27 24 (.fad 3) [.t 3],
 gt 28 24 (.load 1 false false) [.t 27],
 gt 29 24 (.call 154) [.t 26, .t 28],
 ii 30 .pick [.t 24, .t 29, .c (.p (.bool false))],
 mt 4 30])
 .ret))⟩
theorem k145 : chkF Tryz.prog 145 F145 = true := by kernel_rfl
def F146 : Fn := ⟨38, 4, [.tmp 4],
 (.seq
 (.reg [ii 2 (.box 0 5) [.t 0],
 ii 3 (.box 1 4) [.t 1],
 ii 4 (.mov true) [.c (.ow 1 true [])]])
 (.seq
 (.seq
 (.reg [ii 8 (.load 5 true false) [.t 2],
 ii 9 (.call 50) [.t 8],
 ii 10 (.un .not) [.t 9],
 mv 11 10,
 gf 12 11 (.load 5 true false) [.t 2],
 gf 13 11 (.load 4 true false) [.t 3],
 gf 14 11 (.call 51) [.t 12, .t 13],
 gf 15 11 (.un .not) [.t 14],
 ii 16 .pick [.t 11, .c (.p (.bool true)), .t 15]])
 (.cond (.t 16)
 (.seq
 (.reg [ii 4 (.mov true) [.c (.ow 1 true [])]])
 .ret)
 .skip))
 (.seq
 (.reg [ii 5 (.mov true) [.c (.ow 1 true [])]])
 (.seq
 (.seq
 (.reg [fa 17 3 3,
 ld 18 17,
 ii 19 .len [.t 18],
 ii 20 (.mov false) [.c (.p (.int .i64 0))]])
 (.block 0
 (.loop [0, 1, 3, 4, 7, 8, 9, 10, 11, 12, 13, 14, 15, 16, 17, 21, 22, 23, 24, 25, 26, 27, 28, 29, 30, 31, 32, 33, 34, 35, 36, 37] [2]
 (.seq
 (.reg [b2 21 .lss 20 19])
 (.seq
 (.cond (.t 21)
 .skip
 (.exit 0))
 (.seq
 (.block 1
 (.seq
 (.reg [ii 22 (.iad 3) [.t 18, .t 20],
 ii 23 (.load 3 true false) [.t 22],
 ⟨some 7, none, .alloc 2 3 [.p (.int .i64 0), .p (.int .i64 0), .p (.int .i64 0)], []⟩,
 ⟨none, none, .store 3, [.t 7, .t 23]⟩])
 (.reg [mt 24 5,
 fa 25 4 2,
 ld 26 25,
 fa 27 0 7,
 ld 28 27,
 ii 29 (.iad 1) [.t 26, .t 28],
 ld 30 29,
 ii 31 (.bsl 1 1) [.t 30],
 ii 32 (.app 1 8) [.t 24, .t 31],
 mt 5 32])))
 (.reg [b1 33 .add 20 (.int .i64 1),
 mv 20 33])))))))
 (.seq
 (.pre [0, 1, 2, 3, 4, 7, 8, 9, 10, 11, 12, 13, 14, 15, 16, 17, 18, 19, 20, 21, 22, 23, 24, 25, 26, 27, 28, 29, 30, 31, 32, 33, 34, 35, 36, 37] [] [0, 1, 2] (.own 5 3 false (.reg [mv 34 5,
 ii 35 (.callm 155 3) [.t 34]])))
 (.seq
 (.pre [] [3] [] (.reg [mv 36 5,
 ii 37 (.call 156) [.t 36],
 mt 4 37]))
 (.pre [] [3] [] .ret)))))))⟩
theorem k146 : chkF Tryz.prog 146 F146 = true := by kernel_rfl
def F147 : Fn := ⟨5, 0, [.tmp 2],
 (.seq
 (.reg [⟨some 2, none, .mov true, [.c (.p (.str ⟨#[]⟩))]⟩])
 (.seq
 (.reg [mv 3 0,
 ii 4 (.call 157) [.t 3, .c (.p (.int .i64 10))],
 mt 2 4])
 .ret))⟩
theorem k147 : chkF Tryz.prog 147 F147 = true := by kernel_rfl
def F149 : Fn := ⟨3, 1, [.cell 0 5],
 (.seq
 (.reg [⟨some 0, none, .alloc 0 5 [.p (.int .i64 0), .p (.int .i64 0), .p (.int .i64 0), .p (.int .i64 0), .ow 1 true []], []⟩])
 (.seq
 (.reg [ii 1 (.mkz 1 8 (.int .i64 0)) [.c (.p (.int .i64 6)), .c (.p (.int .i64 6))],
 ⟨some 2, none, .build [.int .i64 0, .int .i64 0, .int .i64 0, .int .i64 0, .sl 1 true []] [(0, 1), (1, 1), (4, 1)], [.c (.p (.int .i64 1)), .c (.p (.int .i64 1)), .t 1]⟩,
 ⟨none, none, .store 5, [.t 0, .t 2]⟩])
 .ret))⟩
theorem k149 : chkF Tryz.prog 149 F149 = true := by kernel_rfl
def F150 : Fn := ⟨8, 0, [.tmp 4],
 (.seq
 (.reg [ii 4 (.mov true) [.c (.ow 1 true [])]])
 (.seq
 (.reg [mv 5 0,
 mv 6 1,
 ii 7 (.call 161) [.t 5, .t 6, .c (.p (.int .i64 0)), .c (.p (.int .i64 (-1)))],
 mt 4 7])
 .ret))⟩
theorem k150 : chkF Tryz.prog 150 F150 = true := by kernel_rfl
def F151 : Fn := ⟨13, 0, [.tmp 2],
 (.seq
 (.reg [mc 2 (.int .i64 0)])
 (.seq
 (.reg [mv 6 0,
 ii 7 (.call 162) [.t 6, .c (.p (.int .i64 10)), .c (.p (.int .i64 32))],
 mv 5 7,
 ii 8 (.ext 0) [.t 5],
 ii 9 (.ext 1) [.t 5],
 mt 3 8,
 mt 4 9])
 (.seq
 (.seq
 (.reg [mv 10 4,
 ii 11 (.eqat true) [.t 10, .c (.p (.atom .nilIface))]])
 (.cond (.t 11)
 (.seq
 (.reg [mc 2 (.int .i64 (-1))])
 .ret)
 .skip))
 (.seq
 (.reg [mv 12 3,
 mt 2 12])
 .ret))))⟩
theorem k151 : chkF Tryz.prog 151 F151 = true := by kernel_rfl
def F152 : Fn := ⟨13, 0, [.tmp 4, .tmp 5, .tmp 6],
 (.seq
 (.reg [⟨some 4, none, .mov true, [.c (.p (.str ⟨#[]⟩))]⟩,
 ⟨some 5, none, .mov true, [.c (.p (.str ⟨#[]⟩))]⟩,
 mc 6 (.bool false)])
 (.seq
 (.reg [mv 7 0,
 mv 8 1,
 ii 9 (.call 163) [.t 7, .t 8],
 ii 10 (.ext 0) [.t 9],
 ii 11 (.ext 1) [.t 9],
 ii 12 (.ext 2) [.t 9],
 mt 4 10,
 mt 5 11,
 mt 6 12])
 .ret))⟩
theorem k152 : chkF Tryz.prog 152 F152 = true := by kernel_rfl
def F153 : Fn := ⟨55, 0, [.tmp 0],
 (.seq
 (.reg [mc 0 (.bool false)])
 (.seq
 (.reg [ii 8 (.call 164) [.c (.p (.int .i64 4611686018427387904)), .c (.p (.int .i64 4611686018427387904))],
 mv 7 8,
 ii 9 (.ext 0) [.t 7],
 ii 10 (.ext 1) [.t 7],
 mt 1 9,
 mt 2 10])
 (.seq
 (.reg [ii 12 (.call 165) [.c (.p (.int .i64 (-3))), .c (.p (.int .i64 5))],
 mv 11 12,
 ii 13 (.ext 0) [.t 11],
 ii 14 (.ext 1) [.t 11],
 mt 3 13,
 mt 4 14])
 (.seq
 (.reg [ii 16 (.bsl 1 3) [.c (.p (.int .i64 4611686018427387904)), .c (.p (.int .i64 4611686018427387904)), .c (.p (.int .i64 (-4611686018427387904)))],
 ii 17 (.call 166) [.t 16],
 mv 15 17,
 ii 18 (.ext 0) [.t 15],
 ii 19 (.ext 1) [.t 15],
 mt 5 18,
 mt 6 19])
 (.seq
 (.reg [mv 20 1,
 b1 21 .eql 20 (.int .i64 0),
 mv 22 21,
 gt 23 22 (.mov false) [.t 2],
 gt 24 22 (.un .not) [.t 23],
 ii 25 .pick [.t 22, .t 24, .c (.p (.bool false))],
 mv 26 25,
 gt 27 26 (.mov false) [.t 3],
 gt 28 26 (.bin .eql) [.t 27, .c (.p (.int .i64 (-15)))],
 ii 29 .pick [.t 26, .t 28, .c (.p (.bool false))],
 mv 30 29,
 gt 31 30 (.mov false) [.t 4],
 ii 32 .pick [.t 30, .t 31, .c (.p (.bool false))],
 mv 33 32,
 gt 34 33 (.mov false) [.t 5],
 gt 35 33 (.bin .eql) [.t 34, .c (.p (.int .i64 4611686018427387904))],
 ii 36 .pick [.t 33, .t 35, .c (.p (.bool false))],
 mv 37 36,
 gt 38 37 (.mov false) [.t 6],
 ii 39 .pick [.t 37, .t 38, .c (.p (.bool false))],
 mv 40 39,
 gt 41 40 (.call 103) [.c (.p (.int .i64 7)), .c (.p (.int .i64 2))],
 gt 42 40 (.bin .eql) [.t 41, .c (.p (.int .i64 4))],
 ii 43 .pick [.t 40, .t 42, .c (.p (.bool false))],
 mv 44 43,
 gt 45 44 (.call 58) [.c (.p (.int .i64 (-7))), .c (.p (.int .i64 2))],
 gt 46 44 (.bin .eql) [.t 45, .c (.p (.int .i64 (-4)))],
 ii 47 .pick [.t 44, .t 46, .c (.p (.bool false))],
 mv 48 47,
 gt 49 48 (.call 167) [.c (.p (.int .i64 1)), .c (.p (.int .i64 3)), .c (.p (.int .i64 2)), .c (.p (.int .i64 5))],
 ii 50 .pick [.t 48, .t 49, .c (.p (.bool false))],
 mv 51 50,
 gt 52 51 (.call 167) [.c (.p (.int .i64 1)), .c (.p (.int .i64 0)), .c (.p (.int .i64 2)), .c (.p (.int .i64 5))],
 gt 53 51 (.un .not) [.t 52],
 ii 54 .pick [.t 51, .t 53, .c (.p (.bool false))],
 mt 0 54])
 .ret)))))⟩
theorem k153 : chkF Tryz.prog 153 F153 = true := by kernel_rfl
def F154 : Fn := ⟨26, 0, [.tmp 4],
 (.seq
 (.reg [mc 4 (.bool false)])
 (.seq
 (.seq
 (.reg [mv 6 0,
 ii 7 .len [.t 6],
 mv 8 1,
 ii 9 .len [.t 8],
 b2 10 .neq 7 9])
 (.cond (.t 10)
 (.seq
 (.reg [mc 4 (.bool false)])
 .ret)
 .skip))
 (.seq
 (.seq
 (.reg [mv 11 0,
 ii 12 .len [.t 11],
 ii 13 (.mov false) [.c (.p (.int .i64 0))]])
 (.block 0
 (.loop [4, 5, 6, 7, 8, 9, 10, 11, 14, 15, 16, 17, 18, 19, 20, 21, 22, 23, 24, 25] []
 (.seq
 (.reg [b2 14 .lss 13 12])
 (.seq
 (.cond (.t 14)
 .skip
 (.exit 0))
 (.seq
 (.block 1
 (.seq
 (.reg [mv 15 13,
 mt 5 15])
 (.seq
 (.regd [mv 16 0,
 mv 17 5,
 ii 18 (.iad 3) [.t 16, .t 17],
 ii 19 (.loadp 3 true) [.t 18],
 mv 20 1,
 mv 21 5,
 ii 22 (.iad 3) [.t 20, .t 21],
 ii 23 (.loadp 3 true) [.t 22],
 ii 24 (.eqs 3 true) [.t 19, .t 23]])
 (.cond (.t 24)
 (.seq
 (.reg [mc 4 (.bool false)])
 .ret)
 .skip))))
 (.reg [b1 25 .add 13 (.int .i64 1),
 mv 13 25])))))))
 (.seq
 (.reg [mc 4 (.bool true)])
 .ret))))⟩
theorem k154 : chkF Tryz.prog 154 F154 = true := by kernel_rfl
def F155 : Fn := ⟨11, 0, [],
 (.seq
 (.reg [mv 3 0,
 ii 4 .len [.t 3],
 mt 2 4])
 (.reg [mv 5 0,
 mv 6 2,
 mv 7 2,
 ii 8 (.conv .u64) [.t 7],
 ii 9 (.call 96) [.t 8],
 ii 10 (.callm 168 0) [.t 5, .c (.p (.int .i64 0)), .t 6, .t 9]]))⟩
theorem k155 : chkF Tryz.prog 155 F155 = true := by kernel_rfl
def F156 : Fn := ⟨61, 0, [.tmp 2],
 (.seq
 (.reg [ii 2 (.mov true) [.c (.ow 1 true [])]])
 (.seq
 (.seq
 (.reg [mv 6 0,
 ii 7 .len [.t 6],
 b1 8 .lss 7 (.int .i64 2)])
 (.cond (.t 8)
 (.seq
 (.reg [mv 9 0,
 mt 2 9])
 .ret)
 .skip))
 (.seq
 (.seq
 (.reg [mc 3 (.int .i64 1)])
 (.block 0
 (.loop [2, 4, 5, 6, 7, 8, 9, 10, 11, 12, 13, 14, 15, 16, 17, 18, 19, 20, 21, 22, 23, 24, 25, 26, 27, 28, 29, 30, 31, 32, 33, 34, 35, 36, 37, 38, 39, 40, 41, 42, 43, 44, 45, 46, 47, 48, 49, 50, 51, 52, 53, 54, 55, 56, 57, 58, 59, 60] []
 (.seq
 (.seq
 (.reg [mv 10 3,
 mv 11 0,
 ii 12 .len [.t 11],
 b2 13 .lss 10 12])
 (.cond (.t 13)
 .skip
 (.exit 0)))
 (.seq
 (.block 1
 (.seq
 (.regd [mv 16 0,
 mv 17 3,
 ii 18 (.iad 1) [.t 16, .t 17],
 ii 19 (.loadp 1 false) [.t 18],
 mv 20 0,
 mv 21 3,
 b1 22 .sub 21 (.int .i64 1),
 ii 23 (.iad 1) [.t 20, .t 22],
 ii 24 (.loadp 1 false) [.t 23],
 b2 25 .eql 19 24])
 (.cond (.t 25)
 (.seq
 (.reg [mv 26 0,
 mv 27 3,
 ii 28 (.slc 1 true false) [.t 26, .t 27],
 mt 4 28])
 (.seq
 (.seq
 (.reg [mc 5 (.int .i64 1)])
 (.block 2
 (.loop [2, 6, 7, 8, 9, 10, 11, 12, 13, 14, 15, 16, 17, 18, 19, 20, 21, 22, 23, 24, 25, 26, 27, 28, 29, 30, 31, 32, 33, 34, 35, 36, 37, 38, 39, 40, 41, 42, 43, 44, 45, 46, 47, 48, 49, 50, 51, 52, 53, 54, 55, 56, 57, 58, 59, 60] []
 (.seq
 (.seq
 (.reg [mv 29 5,
 mv 30 4,
 ii 31 .len [.t 30],
 b2 32 .lss 29 31])
 (.cond (.t 32)
 .skip
 (.exit 2)))
 (.seq
 (.block 3
 (.seq
 (.regd [mv 35 4,
 mv 36 5,
 ii 37 (.iad 1) [.t 35, .t 36],
 ii 38 (.loadp 1 false) [.t 37],
 mv 39 4,
 mv 40 5,
 b1 41 .sub 40 (.int .i64 1),
 ii 42 (.iad 1) [.t 39, .t 41],
 ii 43 (.loadp 1 false) [.t 42],
 b2 44 .neq 38 43])
 (.cond (.t 44)
 (.seq
 (.reg [mv 45 0,
 mv 46 3,
 mv 47 4,
 mv 48 5,
 ii 49 (.iad 1) [.t 47, .t 48],
 ld 50 49,
 ii 51 (.iad 1) [.t 45, .t 46],
 ⟨none, none, .store 1, [.t 51, .t 50]⟩])
 (.reg [mv 52 3,
 b1 53 .add 52 (.int .i64 1),
 mt 3 53]))
 .skip)))
 (.reg [mv 33 5,
 b1 34 .add 33 (.int .i64 1),
 mt 5 34]))))))
 (.seq
 (.reg [mv 54 0,
 mv 55 3,
 ii 56 (.slc 1 true false) [.t 54, .t 55],
 ⟨none, none, .stk, []⟩])
 (.seq
 (.reg [mv 57 0,
 mv 58 3,
 ii 59 (.slc 1 false true) [.t 57, .t 58],
 mt 2 59])
 .ret))))
 .skip)))
 (.reg [mv 14 3,
 b1 15 .add 14 (.int .i64 1),
 mt 3 15]))))))
 (.seq
 (.reg [mv 60 0,
 mt 2 60])
 .ret))))⟩
theorem k156 : chkF Tryz.prog 156 F156 = true := by kernel_rfl
def F157 : Fn := ⟨8, 0, [.tmp 4],
 (.seq
 (.reg [⟨some 4, none, .mov true, [.c (.p (.str ⟨#[]⟩))]⟩])
 (.seq
 (.reg [mv 5 0,
 mv 6 1,
 ii 7 (.call 169) [.t 5, .t 6],
 mt 4 7])
 .ret))⟩
theorem k157 : chkF Tryz.prog 157 F157 = true := by kernel_rfl
def F161 : Fn := ⟨66, 1, [.tmp 8],
 (.seq
 (.reg [ii 8 (.mov true) [.c (.ow 1 true [])]])
 (.seq
 (.seq
 (.reg [mv 12 3,
 b1 13 .eql 12 (.int .i64 0)])
 (.cond (.t 13)
 (.seq
 (.reg [ii 8 (.mov true) [.c (.ow 1 true [])]])
 .ret)
 .skip))
 (.seq
 (.seq
 (.reg [mv 14 1,
 ⟨some 15, none, .bin .eql, [.t 14, .c (.p (.str ⟨#[]⟩))]⟩])
 (.cond (.t 15)
 (.seq
 (.reg [mv 16 0,
 mv 17 3,
 ii 18 (.call 172) [.t 16, .t 17],
 mt 8 18])
 .ret)
 .skip))
 (.seq
 (.seq
 (.reg [mv 19 3,
 b1 20 .lss 19 (.int .i64 0)])
 (.cond (.t 20)
 (.reg [mv 21 0,
 mv 22 1,
 ii 23 (.call 173) [.t 21, .t 22],
 b1 24 .add 23 (.int .i64 1),
 mt 3 24])
 .skip))
 (.seq
 (.reg [mv 25 3,
 mv 26 0,
 ii 27 .slen [.t 26],
 b1 28 .add 27 (.int .i64 1),
 ii 29 .mn [.t 25, .t 28],
 mt 3 29])
 (.seq
 (.reg [mv 30 3,
 ⟨some 31, none, .mksl 0 1 16 false [.p (.str ⟨#[]⟩)], [.t 30, .t 30]⟩,
 mt 9 31])
 (.seq
 (.reg [mv 32 3,
 b1 33 .sub 32 (.int .i64 1),
 mt 3 33])
 (.seq
 (.reg [mc 10 (.int .i64 0)])
 (.seq
 (.block 0
 (.loop [8, 11, 12, 13, 14, 15, 16, 17, 18, 19, 20, 21, 22, 23, 24, 25, 26, 27, 28, 29, 30, 31, 32, 33, 34, 35, 36, 37, 38, 39, 40, 41, 42, 43, 44, 45, 46, 47, 48, 49, 50, 51, 52, 53, 54, 55, 56, 57, 58, 59, 60, 61, 62, 63, 64, 65] []
 (.seq
 (.seq
 (.reg [mv 34 10,
 mv 35 3,
 b2 36 .lss 34 35])
 (.cond (.t 36)
 .skip
 (.exit 0)))
 (.block 1
 (.seq
 (.reg [mv 37 0,
 mv 38 1,
 ii 39 (.call 174) [.t 37, .t 38],
 mt 11 39])
 (.seq
 (.seq
 (.reg [mv 40 11,
 b1 41 .lss 40 (.int .i64 0)])
 (.cond (.t 41)
 (.exit 0)
 .skip))
 (.seq
 (.reg [mv 42 9,
 mv 43 10,
 mv 44 0,
 mv 45 11,
 mv 46 2,
 b2 47 .add 45 46,
 ii 48 (.ssl false true) [.t 44, .t 47],
 ii 49 (.iad 1) [.t 42, .t 43],
 ⟨none, none, .store 1, [.t 49, .t 48]⟩])
 (.seq
 (.reg [mv 50 0,
 mv 51 11,
 mv 52 1,
 ii 53 .slen [.t 52],
 b2 54 .add 51 53,
 ii 55 (.ssl true false) [.t 50, .t 54],
 mt 0 55])
 (.reg [mv 56 10,
 b1 57 .add 56 (.int .i64 1),
 mt 10 57])))))))))
 (.seq
 (.reg [mv 58 9,
 mv 59 10,
 mv 60 0,
 ii 61 (.iad 1) [.t 58, .t 59],
 ⟨none, none, .store 1, [.t 61, .t 60]⟩])
 (.seq
 (.reg [mv 62 9,
 mv 63 10,
 b1 64 .add 63 (.int .i64 1),
 ii 65 (.slb 0 1) [.t 62, .t 64],
 mt 8 65])
 (.pre [] [0] [] .ret))))))))))))⟩
theorem k161 : chkF Tryz.prog 161 F161 = true := by kernel_rfl
def F162 : Fn := ⟨25, 0, [.tmp 6, .tmp 7],
 (.seq
 (.reg [mc 6 (.int .i64 0),
 mc 7 (.atom .nilIface)])
 (.seq
 (.reg [mv 10 0,
 mv 11 1,
 mv 12 2,
 ii 13 (.call 175) [.t 10, .t 11, .t 12],
 mv 9 13,
 ii 14 (.ext 0) [.t 9],
 ii 15 (.ext 1) [.t 9],
 mt 8 14,
 mt 7 15])
 (.seq
 (.seq
 (.reg [mv 16 7,
 ii 17 (.eqat true) [.t 16, .c (.p (.atom .nilIface))]])
 (.cond (.t 17)
 (.seq
 (.reg [mv 18 8,
 mv 19 0,
 mv 20 1,
 mv 21 2,
 mv 22 7,
 ⟨some 23, none, .call 176, [.c (.p (.str ⟨#[80, 97, 114, 115, 101, 73, 110, 116]⟩)), .t 19, .t 20, .t 21, .t 22]⟩,
 mt 6 18,
 mt 7 23])
 .ret)
 .skip))
 (.seq
 (.reg [mv 24 8,
 mt 6 24,
 mc 7 (.atom .nilIface)])
 .ret))))⟩
theorem k162 : chkF Tryz.prog 162 F162 = true := by kernel_rfl
def F163 : Fn := ⟨23, 0, [.tmp 4, .tmp 5, .tmp 6],
 (.seq
 (.reg [⟨some 4, none, .mov true, [.c (.p (.str ⟨#[]⟩))]⟩,
 ⟨some 5, none, .mov true, [.c (.p (.str ⟨#[]⟩))]⟩,
 mc 6 (.bool false)])
 (.seq
 (.seq
 (.reg [mv 8 0,
 mv 9 1,
 ii 10 (.call 177) [.t 8, .t 9],
 mt 7 10])
 (.seq
 (.reg [mv 11 7,
 b1 12 .geq 11 (.int .i64 0)])
 (.cond (.t 12)
 (.seq
 (.regd [mv 13 0,
 mv 14 7,
 ii 15 (.ssl false true) [.t 13, .t 14],
 mv 16 0,
 mv 17 7,
 mv 18 1,
 ii 19 .slen [.t 18],
 b2 20 .add 17 19,
 ii 21 (.ssl true false) [.t 16, .t 20],
 mt 4 15,
 mt 5 21,
 mc 6 (.bool true)])
 .ret)
 .skip)))
 (.seq
 (.reg [mv 22 0,
 mt 4 22,
 ⟨some 5, none, .mov true, [.c (.p (.str ⟨#[]⟩))]⟩,
 mc 6 (.bool false)])
 .ret)))⟩
theorem k163 : chkF Tryz.prog 163 F163 = true := by kernel_rfl
def F164 : Fn := ⟨14, 0, [.tmp 4, .tmp 5],
 (.seq
 (.reg [mc 4 (.int .i64 0),
 mc 5 (.bool false)])
 (.seq
 (.reg [mv 6 0,
 ii 7 (.call 178) [.t 6],
 mv 8 1,
 ii 9 (.call 178) [.t 8],
 ii 10 (.call 179) [.t 7, .t 9],
 ii 11 (.call 180) [.t 10],
 ii 12 (.ext 0) [.t 11],
 ii 13 (.ext 1) [.t 11],
 mt 4 12,
 mt 5 13])
 .ret))⟩
theorem k164 : chkF Tryz.prog 164 F164 = true := by kernel_rfl
def F165 : Fn := ⟨12, 0, [.tmp 4, .tmp 5],
 (.seq
 (.reg [mc 4 (.int .i64 0),
 mc 5 (.bool false)])
 (.seq
 (.reg [mv 6 0,
 mv 7 1,
 ii 8 (.call 181) [.t 6, .t 7],
 ii 9 (.call 180) [.t 8],
 ii 10 (.ext 0) [.t 9],
 ii 11 (.ext 1) [.t 9],
 mt 4 10,
 mt 5 11])
 .ret))⟩
theorem k165 : chkF Tryz.prog 165 F165 = true := by kernel_rfl
def F166 : Fn := ⟨22, 1, [.tmp 2, .tmp 3],
 (.seq
 (.reg [mc 2 (.int .i64 0),
 mc 3 (.bool false)])
 (.seq
 (.reg [⟨some 4, none, .alloc 0 2 [.p (.int .i64 0), .p (.int .u64 0)], []⟩])
 (.seq
 (.seq
 (.reg [mv 7 0,
 ii 8 .len [.t 7],
 ii 9 (.mov false) [.c (.p (.int .i64 0))]])
 (.block 0
 (.loop [0, 2, 3, 6, 10, 11, 12, 13, 14, 15, 16, 17, 18, 19, 20, 21] []
 (.seq
 (.reg [b2 10 .lss 9 8])
 (.seq
 (.cond (.t 10)
 .skip
 (.exit 0))
 (.seq
 (.block 1
 (.seq
 (.reg [ii 11 (.iad 1) [.t 7, .t 9],
 ld 12 11,
 mt 6 12])
 (.regd [ii 13 (.at 0 (.load 2 true false)) [.t 4],
 mv 14 6,
 ii 15 (.pl (.call 178)) [.t 14],
 ii 16 (.pl (.call 179)) [.t 13, .t 15],
 ⟨none, none, .at 0 (.store 2), [.t 4, .t 16]⟩])))
 (.reg [b1 17 .add 9 (.int .i64 1),
 mv 9 17])))))))
 (.seq
 (.reg [ii 18 (.load 2 true false) [.t 4],
 ii 19 (.call 180) [.t 18],
 ii 20 (.ext 0) [.t 19],
 ii 21 (.ext 1) [.t 19],
 mt 2 20,
 mt 3 21])
 .ret))))⟩
theorem k166 : chkF Tryz.prog 166 F166 = true := by kernel_rfl
def F167 : Fn := ⟨24, 0, [.tmp 8],
 (.seq
 (.reg [mc 8 (.bool false)])
 (.seq
 (.reg [mv 9 1,
 b1 10 .gtr 9 (.int .i64 0),
 mv 11 10,
 gt 12 11 (.mov false) [.t 3],
 gt 13 11 (.bin .gtr) [.t 12, .c (.p (.int .i64 0))],
 ii 14 .pick [.t 11, .t 13, .c (.p (.bool false))],
 mv 15 14,
 gt 16 15 (.mov false) [.t 0],
 gt 17 15 (.mov false) [.t 3],
 gt 18 15 (.call 181) [.t 16, .t 17],
 gt 19 15 (.mov false) [.t 2],
 gt 20 15 (.mov false) [.t 1],
 gt 21 15 (.call 181) [.t 19, .t 20],
 gt 22 15 (.call 182) [.t 18, .t 21],
 ii 23 .pick [.t 15, .t 22, .c (.p (.bool false))],
 mt 8 23])
 .ret))⟩
theorem k167 : chkF Tryz.prog 167 F167 = true := by kernel_rfl
def F168 : Fn := ⟨134, 0, [],
 (.seq
 (.reg [mc 8 (.bool true)])
 (.seq
 (.reg [mc 9 (.bool true)])
 (.block 0
 (.loop [10, 11, 12, 13, 14, 15, 16, 17, 18, 19, 20, 21, 22, 23, 24, 25, 26, 27, 28, 29, 30, 31, 32, 33, 34, 35, 36, 37, 38, 39, 40, 41, 42, 43, 44, 45, 46, 47, 48, 49, 50, 51, 52, 53, 54, 55, 56, 57, 58, 59, 60, 61, 62, 63, 64, 65, 66, 67, 68, 69, 70, 71, 72, 73, 74, 75, 76, 77, 78, 79, 80, 81, 82, 83, 84, 85, 86, 87, 88, 89, 90, 91, 92, 93, 94, 95, 96, 97, 98, 99, 100, 101, 102, 103, 104, 105, 106, 107, 108, 109, 110, 111, 112, 113, 114, 115, 116, 117, 118, 119, 120, 121, 122, 123, 124, 125, 126, 127, 128, 129, 130, 131, 132, 133] []
 (.block 1
 (.seq
 (.reg [mv 19 2,
 mv 20 1,
 b2 21 .sub 19 20,
 mt 10 21])
 (.seq
 (.seq
 (.reg [mv 22 10,
 b1 23 .leq 22 (.int .i64 12)])
 (.cond (.t 23)
 (.seq
 (.reg [mv 24 0,
 mv 25 1,
 mv 26 2,
 ii 27 (.callm 183 0) [.t 24, .t 25, .t 26]])
 .ret)
 .skip))
 (.seq
 (.seq
 (.reg [mv 28 3,
 b1 29 .eql 28 (.int .i64 0)])
 (.cond (.t 29)
 (.seq
 (.reg [mv 30 0,
 mv 31 1,
 mv 32 2,
 ii 33 (.call 184) [.t 30, .t 31, .t 32]])
 .ret)
 .skip))
 (.seq
 (.seq
 (.reg [mv 34 8,
 ii 35 (.un .not) [.t 34]])
 (.cond (.t 35)
 (.seq
 (.reg [mv 36 0,
 mv 37 1,
 mv 38 2,
 ii 39 (.call 185) [.t 36, .t 37, .t 38]])
 (.reg [mv 40 3,
 b1 41 .sub 40 (.int .i64 1),
 mt 3 41]))
 .skip))
 (.seq
 (.reg [mv 43 0,
 mv 44 1,
 mv 45 2,
 ii 46 (.call 186) [.t 43, .t 44, .t 45],
 mv 42 46,
 ii 47 (.ext 0) [.t 42],
 ii 48 (.ext 1) [.t 42],
 mt 11 47,
 mt 12 48])
 (.seq
 (.seq
 (.reg [mv 49 12,
 b1 50 .eql 49 (.int .i64 2)])
 (.cond (.t 50)
 (.seq
 (.reg [mv 51 0,
 mv 52 1,
 mv 53 2,
 ii 54 (.call 187) [.t 51, .t 52, .t 53]])
 (.seq
 (.reg [mv 55 2,
 b1 56 .sub 55 (.int .i64 1),
 mv 57 11,
 mv 58 1,
 b2 59 .sub 57 58,
 b2 60 .sub 56 59,
 mt 11 60])
 (.reg [mc 12 (.int .i64 1)])))
 .skip))
 (.seq
 (.seq
 (.reg [mv 61 8,
 mv 62 61,
 gt 63 62 (.mov false) [.t 9],
 ii 64 .pick [.t 62, .t 63, .c (.p (.bool false))],
 mv 65 64,
 gt 66 65 (.mov false) [.t 12],
 gt 67 65 (.bin .eql) [.t 66, .c (.p (.int .i64 1))],
 ii 68 .pick [.t 65, .t 67, .c (.p (.bool false))]])
 (.cond (.t 68)
 (.seq
 (.reg [mv 69 0,
 mv 70 1,
 mv 71 2,
 ii 72 (.call 188) [.t 69, .t 70, .t 71]])
 (.cond (.t 72)
 .ret
 .skip))
 .skip))
 (.seq
 (.seq
 (.regd [mv 73 1,
 b1 74 .gtr 73 (.int .i64 0),
 mv 75 74,
 gt 76 75 (.mov false) [.t 0],
 gt 77 75 (.mov false) [.t 1],
 gt 78 75 (.bin .sub) [.t 77, .c (.p (.int .i64 1))],
 gt 79 75 (.iad 1) [.t 76, .t 78],
 gt 80 75 (.at 0 (.load 1 false false)) [.t 79],
 gt 81 75 (.mov false) [.t 0],
 gt 82 75 (.mov false) [.t 11],
 gt 83 75 (.iad 1) [.t 81, .t 82],
 gt 84 75 (.at 0 (.load 1 false false)) [.t 83],
 gt 85 75 (.pl (.call 189)) [.t 80, .t 84],
 gt 86 75 (.un .not) [.t 85],
 ii 87 .pick [.t 75, .t 86, .c (.p (.bool false))]])
 (.cond (.t 87)
 (.seq
 (.reg [mv 88 0,
 mv 89 1,
 mv 90 2,
 mv 91 11,
 ii 92 (.call 190) [.t 88, .t 89, .t 90, .t 91],
 mt 13 92])
 (.seq
 (.reg [mv 93 13,
 mt 1 93])
 (.exit 1)))
 .skip))
 (.seq
 (.reg [mv 95 0,
 mv 96 1,
 mv 97 2,
 mv 98 11,
 ii 99 (.call 191) [.t 95, .t 96, .t 97, .t 98],
 mv 94 99,
 ii 100 (.ext 0) [.t 94],
 ii 101 (.ext 1) [.t 94],
 mt 14 100,
 mt 15 101])
 (.seq
 (.reg [mv 102 15,
 mt 9 102])
 (.seq
 (.reg [mv 103 14,
 mv 104 1,
 b2 105 .sub 103 104,
 mv 106 2,
 mv 107 14,
 b2 108 .sub 106 107,
 mt 16 105,
 mt 17 108])
 (.seq
 (.reg [mv 109 10,
 b1 110 .quo 109 (.int .i64 8),
 mt 18 110])
 (.seq
 (.reg [mv 111 16,
 mv 112 17,
 b2 113 .lss 111 112])
 (.cond (.t 113)
 (.seq
 (.reg [mv 114 16,
 mv 115 18,
 b2 116 .geq 114 115,
 mt 8 116])
 (.seq
 (.reg [mv 117 0,
 mv 118 1,
 mv 119 14,
 mv 120 3,
 ii 121 (.callm 168 0) [.t 117, .t 118, .t 119, .t 120]])
 (.reg [mv 122 14,
 b1 123 .add 122 (.int .i64 1),
 mt 1 123])))
 (.seq
 (.reg [mv 124 17,
 mv 125 18,
 b2 126 .geq 124 125,
 mt 8 126])
 (.seq
 (.reg [mv 127 0,
 mv 128 14,
 b1 129 .add 128 (.int .i64 1),
 mv 130 2,
 mv 131 3,
 ii 132 (.callm 168 0) [.t 127, .t 129, .t 130, .t 131]])
 (.reg [mv 133 14,
 mt 2 133]))))))))))))))))))))))⟩
theorem k168 : chkF Tryz.prog 168 F168 = true := by kernel_rfl
def F169 : Fn := ⟨54, 1, [.tmp 4],
 (.seq
 (.reg [⟨some 4, none, .mov true, [.c (.p (.str ⟨#[]⟩))]⟩])
 (.seq
 (.seq
 (.reg [mv 10 1,
 b1 11 .eql 10 (.int .i64 10)])
 (.cond (.t 11)
 (.seq
 (.seq
 (.reg [mv 12 0,
 ii 13 (.bin .leq) [.c (.p (.int .i64 0)), .t 12],
 mv 14 13,
 gt 15 14 (.mov false) [.t 0],
 gt 16 14 (.bin .lss) [.t 15, .c (.p (.int .i64 100))],
 ii 17 .pick [.t 14, .t 16, .c (.p (.bool false))]])
 (.cond (.t 17)
 (.seq
 (.reg [mv 18 0,
 ii 19 (.call 192) [.t 18],
 mt 4 19])
 .ret)
 .skip))
 (.seq
 (.reg [⟨some 5, none, .alloc 0 24 [.p (.int .u8 0), .p (.int .u8 0), .p (.int .u8 0), .p (.int .u8 0), .p (.int .u8 0), .p (.int .u8 0), .p (.int .u8 0), .p (.int .u8 0), .p (.int .u8 0), .p (.int .u8 0), .p (.int .u8 0), .p (.int .u8 0), .p (.int .u8 0), .p (.int .u8 0), .p (.int .u8 0), .p (.int .u8 0), .p (.int .u8 0), .p (.int .u8 0), .p (.int .u8 0), .p (.int .u8 0), .p (.int .u8 0), .p (.int .u8 0), .p (.int .u8 0), .p (.int .u8 0)], []⟩])
 (.seq
 (.reg [mv 20 0,
 ii 21 (.conv .u64) [.t 20],
 mt 6 21])
 (.seq
 (.seq
 (.reg [mv 22 0,
 b1 23 .lss 22 (.int .i64 0)])
 (.cond (.t 23)
 (.reg [mv 24 6,
 ii 25 (.un .neg) [.t 24],
 mt 6 25])
 .skip))
 (.seq
 (.reg [mv 26 6,
 ii 27 (.call 193) [.t 26],
 mt 7 27])
 (.seq
 (.reg [mv 28 7,
 ii 29 (.bin .add) [.c (.p (.int .i64 1)), .t 28],
 ii 30 .stk [],
 mv 31 6,
 ii 32 (.call 194) [.t 30, .t 31]])
 (.seq
 (.seq
 (.reg [mv 33 0,
 b1 34 .lss 33 (.int .i64 0)])
 (.cond (.t 34)
 (.seq
 (.reg [ii 35 .stk [],
 ⟨none, none, .store 1, [.t 35, .c (.p (.int .u8 45))]⟩])
 (.seq
 (.reg [mv 36 7,
 ii 37 (.bin .add) [.c (.p (.int .i64 1)), .t 36],
 ii 38 .stk [],
 ii 39 .stk [],
 mt 4 39])
 .ret))
 .skip))
 (.seq
 (.reg [mv 40 7,
 ii 41 (.bin .add) [.c (.p (.int .i64 1)), .t 40],
 ii 42 .stk [],
 ii 43 .stk [],
 mt 4 43])
 .ret))))))))
 .skip))
 (.seq
 (.reg [mv 45 0,
 ii 46 (.conv .u64) [.t 45],
 mv 47 1,
 mv 48 0,
 b1 49 .lss 48 (.int .i64 0),
 ii 50 (.call 195) [.c (.ow 1 true []), .t 46, .t 47, .t 49, .c (.p (.bool false))],
 mv 44 50,
 ii 51 (.ext 0) [.t 44],
 ii 52 (.ext 1) [.t 44],
 mt 8 51,
 mt 9 52])
 (.seq
 (.reg [mv 53 9,
 mt 4 53])
 .ret))))⟩
theorem k169 : chkF Tryz.prog 169 F169 = true := by kernel_rfl
def F173 : Fn := ⟨34, 0, [.tmp 4],
 (.seq
 (.reg [mc 4 (.int .i64 0)])
 (.seq
 (.seq
 (.reg [mv 7 1,
 ii 8 .slen [.t 7],
 b1 9 .eql 8 (.int .i64 0)])
 (.cond (.t 9)
 (.seq
 (.reg [mv 10 0,
 ii 11 (.call 198) [.t 10],
 b1 12 .add 11 (.int .i64 1),
 mt 4 12])
 .ret)
 .skip))
 (.seq
 (.seq
 (.reg [mv 13 1,
 ii 14 .slen [.t 13],
 b1 15 .eql 14 (.int .i64 1)])
 (.cond (.t 15)
 (.seq
 (.reg [mv 16 0,
 mv 17 1,
 ii 18 .sidx [.t 17, .c (.p (.int .i64 0))],
 ii 19 (.call 200) [.t 16, .t 18],
 mt 4 19])
 .ret)
 .skip))
 (.seq
 (.reg [mc 5 (.int .i64 0)])
 (.block 0
 (.loop [4, 6, 7, 8, 9, 10, 11, 12, 13, 14, 15, 16, 17, 18, 19, 20, 21, 22, 23, 24, 25, 26, 27, 28, 29, 30, 31, 32, 33] []
 (.block 1
 (.seq
 (.reg [mv 20 0,
 mv 21 1,
 ii 22 (.call 174) [.t 20, .t 21],
 mt 6 22])
 (.seq
 (.seq
 (.reg [mv 23 6,
 b1 24 .eql 23 (.int .i64 (-1))])
 (.cond (.t 24)
 (.seq
 (.reg [mv 25 5,
 mt 4 25])
 .ret)
 .skip))
 (.seq
 (.reg [mv 26 5,
 b1 27 .add 26 (.int .i64 1),
 mt 5 27])
 (.reg [mv 28 0,
 mv 29 6,
 mv 30 1,
 ii 31 .slen [.t 30],
 b2 32 .add 29 31,
 ii 33 (.ssl true false) [.t 28, .t 32],
 mt 0 33])))))))))))⟩
theorem k173 : chkF Tryz.prog 173 F173 = true := by kernel_rfl
def F174 : Fn := ⟨8, 0, [.tmp 4],
 (.seq
 (.reg [mc 4 (.int .i64 0)])
 (.seq
 (.reg [mv 5 0,
 mv 6 1,
 ii 7 (.call 177) [.t 5, .t 6],
 mt 4 7])
 .ret))⟩
theorem k174 : chkF Tryz.prog 174 F174 = true := by kernel_rfl
def F175 : Fn := ⟨73, 0, [.tmp 6, .tmp 7],
 (.seq
 (.reg [mc 6 (.int .i64 0),
 mc 7 (.atom .nilIface)])
 (.seq
 (.seq
 (.reg [mv 12 0,
 ⟨some 13, none, .bin .eql, [.t 12, .c (.p (.str ⟨#[]⟩))]⟩])
 (.cond (.t 13)
 (.seq
 (.reg [ii 14 .stk [],
 mc 6 (.int .i64 0),
 mt 7 14])
 .ret)
 .skip))
 (.seq
 (.reg [mc 8 (.bool false)])
 (.seq
 (.seq
 (.reg [mv 15 0,
 ii 16 .sidx [.t 15, .c (.p (.int .i64 0))]])
 (.block 0
 (.seq
 (.reg [b1 18 .eql 16 (.int .u8 43),
 mt 17 18])
 (.cond (.t 17)
 (.reg [mv 19 0,
 ii 20 (.ssl true false) [.t 19, .c (.p (.int .i64 1))],
 mt 0 20])
 (.seq
 (.reg [b1 22 .eql 16 (.int .u8 45),
 mt 21 22])
 (.cond (.t 21)
 (.seq
 (.reg [mv 23 0,
 ii 24 (.ssl true false) [.t 23, .c (.p (.int .i64 1))],
 mt 0 24])
 (.reg [mc 8 (.bool true)]))
 .skip))))))
 (.seq
 (.reg [mc 9 (.int .u64 0)])
 (.seq
 (.reg [mv 26 0,
 mv 27 1,
 mv 28 2,
 ii 29 (.call 201) [.t 26, .t 27, .t 28],
 mv 25 29,
 ii 30 (.ext 0) [.t 25],
 ii 31 (.ext 1) [.t 25],
 mt 9 30,
 mt 7 31])
 (.seq
 (.seq
 (.reg [mv 32 7,
 ii 33 (.eqat true) [.t 32, .c (.p (.atom .nilIface))],
 mv 34 33,
 gt 35 34 (.mov false) [.t 7],
 gt 36 34 .stk [],
 gt 37 34 .stk [],
 ii 38 .pick [.t 34, .t 37, .c (.p (.bool false))]])
 (.cond (.t 38)
 (.seq
 (.reg [mv 39 7,
 mc 6 (.int .i64 0),
 mt 7 39])
 .ret)
 .skip))
 (.seq
 (.seq
 (.reg [mv 40 2,
 b1 41 .eql 40 (.int .i64 0)])
 (.cond (.t 41)
 (.reg [mc 2 (.int .i64 64)])
 .skip))
 (.seq
 (.reg [mv 42 2,
 b1 43 .sub 42 (.int .i64 1),
 ii 44 (.conv .u64) [.t 43],
 ii 45 (.bin .shl) [.c (.p (.int .u64 1)), .t 44],
 mt 10 45])
 (.seq
 (.seq
 (.reg [mv 46 8,
 ii 47 (.un .not) [.t 46],
 mv 48 47,
 gt 49 48 (.mov false) [.t 9],
 gt 50 48 (.mov false) [.t 10],
 gt 51 48 (.bin .geq) [.t 49, .t 50],
 ii 52 .pick [.t 48, .t 51, .c (.p (.bool false))]])
 (.cond (.t 52)
 (.seq
 (.reg [mv 53 10,
 b1 54 .sub 53 (.int .u64 1),
 ii 55 (.conv .i64) [.t 54],
 ii 56 .stk [],
 mt 6 55,
 mt 7 56])
 .ret)
 .skip))
 (.seq
 (.seq
 (.reg [mv 57 8,
 mv 58 57,
 gt 59 58 (.mov false) [.t 9],
 gt 60 58 (.mov false) [.t 10],
 gt 61 58 (.bin .gtr) [.t 59, .t 60],
 ii 62 .pick [.t 58, .t 61, .c (.p (.bool false))]])
 (.cond (.t 62)
 (.seq
 (.reg [mv 63 10,
 ii 64 (.conv .i64) [.t 63],
 ii 65 (.un .neg) [.t 64],
 ii 66 .stk [],
 mt 6 65,
 mt 7 66])
 .ret)
 .skip))
 (.seq
 (.reg [mv 67 9,
 ii 68 (.conv .i64) [.t 67],
 mt 11 68])
 (.seq
 (.seq
 (.reg [mv 69 8])
 (.cond (.t 69)
 (.reg [mv 70 11,
 ii 71 (.un .neg) [.t 70],
 mt 11 71])
 .skip))
 (.seq
 (.reg [mv 72 11,
 mt 6 72,
 mc 7 (.atom .nilIface)])
 .ret))))))))))))))⟩
theorem k175 : chkF Tryz.prog 175 F175 = true := by kernel_rfl
def F177 : Fn := ⟨143, 0, [.tmp 4],
 (.seq
 (.reg [mc 4 (.int .i64 0)])
 (.seq
 (.reg [mv 14 1,
 ii 15 .slen [.t 14],
 mt 5 15])
 (.seq
 (.block 0
 (.seq
 (.reg [mv 17 5,
 b1 18 .eql 17 (.int .i64 0),
 mv 19 18,
 gf 20 19 (.mov false) [.t 1],
 gf 21 19 (.mov false) [.t 0],
 gf 22 19 (.bin .eql) [.t 20, .t 21],
 ii 23 .pick [.t 19, .c (.p (.bool true)), .t 22],
 mt 16 23])
 (.cond (.t 16)
 (.seq
 (.reg [mc 4 (.int .i64 0)])
 .ret)
 (.seq
 (.reg [mv 25 5,
 b1 26 .eql 25 (.int .i64 1),
 mt 24 26])
 (.cond (.t 24)
 (.seq
 (.reg [mv 27 0,
 mv 28 1,
 ii 29 .sidx [.t 28, .c (.p (.int .i64 0))],
 ii 30 (.call 206) [.t 27, .t 29],
 mt 4 30])
 .ret)
 (.seq
 (.reg [mv 32 5,
 mv 33 0,
 ii 34 .slen [.t 33],
 b2 35 .geq 32 34,
 mt 31 35])
 (.cond (.t 31)
 (.seq
 (.reg [mc 4 (.int .i64 (-1))])
 .ret)
 (.seq
 (.reg [mv 37 5,
 ii 38 (.load 1 false false) [.c .top],
 b2 39 .leq 37 38,
 mv 40 39,
 gt 41 40 (.mov false) [.t 0],
 gt 42 40 .slen [.t 41],
 gt 43 40 (.bin .leq) [.t 42, .c (.p (.int .i64 64))],
 ii 44 .pick [.t 40, .t 43, .c (.p (.bool false))],
 mt 36 44])
 (.cond (.t 36)
 (.seq
 (.reg [mv 45 0,
 mv 46 1,
 ii 47 (.call 207) [.t 45, .t 46],
 mt 4 47])
 .ret)
 .skip)))))))))
 (.seq
 (.reg [mv 48 1,
 ii 49 .sidx [.t 48, .c (.p (.int .i64 0))],
 mt 6 49])
 (.seq
 (.reg [mv 50 1,
 ii 51 .sidx [.t 50, .c (.p (.int .i64 1))],
 mt 7 51])
 (.seq
 (.reg [mc 8 (.int .i64 0)])
 (.seq
 (.reg [mv 52 0,
 ii 53 .slen [.t 52],
 mv 54 5,
 b2 55 .sub 53 54,
 b1 56 .add 55 (.int .i64 1),
 mt 9 56])
 (.seq
 (.reg [mc 10 (.int .i64 0)])
 (.seq
 (.block 1
 (.loop [4, 11, 12, 13, 14, 15, 16, 17, 18, 19, 20, 21, 22, 23, 24, 25, 26, 27, 28, 29, 30, 31, 32, 33, 34, 35, 36, 37, 38, 39, 40, 41, 42, 43, 44, 45, 46, 47, 48, 49, 50, 51, 52, 53, 54, 55, 56, 57, 58, 59, 60, 61, 62, 63, 64, 65, 66, 67, 68, 69, 70, 71, 72, 73, 74, 75, 76, 77, 78, 79, 80, 81, 82, 83, 84, 85, 86, 87, 88, 89, 90, 91, 92, 93, 94, 95, 96, 97, 98, 99, 100, 101, 102, 103, 104, 105, 106, 107, 108, 109, 110, 111, 112, 113, 114, 115, 116, 117, 118, 119, 120, 121, 122, 123, 124, 125, 126, 127, 128, 129, 130, 131, 132, 133, 134, 135, 136, 137, 138, 139, 140, 141, 142] []
 (.seq
 (.seq
 (.reg [mv 57 8,
 mv 58 9,
 b2 59 .lss 57 58])
 (.cond (.t 59)
 .skip
 (.exit 1)))
 (.block 2
 (.seq
 (.seq
 (.reg [mv 60 0,
 mv 61 8,
 ii 62 .sidx [.t 60, .t 61],
 mv 63 6,
 b2 64 .neq 62 63])
 (.cond (.t 64)
 (.seq
 (.reg [mv 65 0,
 mv 66 8,
 b1 67 .add 66 (.int .i64 1),
 mv 68 9,
 ii 69 (.ssl true true) [.t 65, .t 67, .t 68],
 mv 70 6,
 ii 71 (.call 206) [.t 69, .t 70],
 mt 11 71])
 (.seq
 (.seq
 (.reg [mv 72 11,
 b1 73 .lss 72 (.int .i64 0)])
 (.cond (.t 73)
 (.seq
 (.reg [mc 4 (.int .i64 (-1))])
 .ret)
 .skip))
 (.reg [mv 74 8,
 mv 75 11,
 b1 76 .add 75 (.int .i64 1),
 b2 77 .add 74 76,
 mt 8 77])))
 .skip))
 (.seq
 (.seq
 (.reg [mv 78 0,
 mv 79 8,
 b1 80 .add 79 (.int .i64 1),
 ii 81 .sidx [.t 78, .t 80],
 mv 82 7,
 b2 83 .eql 81 82,
 mv 84 83,
 gt 85 84 (.mov false) [.t 0],
 gt 86 84 (.mov false) [.t 8],
 gt 87 84 (.mov false) [.t 8],
 gt 88 84 (.mov false) [.t 5],
 gt 89 84 (.bin .add) [.t 87, .t 88],
 gt 90 84 (.ssl true true) [.t 85, .t 86, .t 89],
 gt 91 84 (.mov false) [.t 1],
 gt 92 84 (.bin .eql) [.t 90, .t 91],
 ii 93 .pick [.t 84, .t 92, .c (.p (.bool false))]])
 (.cond (.t 93)
 (.seq
 (.reg [mv 94 8,
 mt 4 94])
 .ret)
 .skip))
 (.seq
 (.reg [mv 95 8,
 b1 96 .add 95 (.int .i64 1),
 mt 8 96])
 (.seq
 (.reg [mv 97 10,
 b1 98 .add 97 (.int .i64 1),
 mt 10 98])
 (.seq
 (.reg [mv 99 5,
 ii 100 (.load 1 false false) [.c .top],
 b2 101 .leq 99 100,
 mv 102 101,
 gt 103 102 (.mov false) [.t 10],
 gt 104 102 (.mov false) [.t 8],
 gt 105 102 (.call 208) [.t 104],
 gt 106 102 (.bin .gtr) [.t 103, .t 105],
 ii 107 .pick [.t 102, .t 106, .c (.p (.bool false))]])
 (.cond (.t 107)
 (.seq
 (.reg [mv 108 0,
 mv 109 8,
 ii 110 (.ssl true false) [.t 108, .t 109],
 mv 111 1,
 ii 112 (.call 207) [.t 110, .t 111],
 mt 12 112])
 (.seq
 (.seq
 (.reg [mv 113 12,
 b1 114 .geq 113 (.int .i64 0)])
 (.cond (.t 114)
 (.seq
 (.reg [mv 115 12,
 mv 116 8,
 b2 117 .add 115 116,
 mt 4 117])
 .ret)
 .skip))
 (.seq
 (.reg [mc 4 (.int .i64 (-1))])
 .ret)))
 (.seq
 (.reg [mv 118 5,
 ii 119 (.load 1 false false) [.c .top],
 b2 120 .gtr 118 119,
 mv 121 120,
 gt 122 121 (.mov false) [.t 10],
 gt 123 121 (.mov false) [.t 8],
 gt 124 121 (.bin .shr) [.t 123, .c (.p (.int .u64 4))],
 gt 125 121 (.bin .add) [.c (.p (.int .i64 4)), .t 124],
 gt 126 121 (.bin .geq) [.t 122, .t 125],
 ii 127 .pick [.t 121, .t 126, .c (.p (.bool false))],
 mv 128 127,
 gt 129 128 (.mov false) [.t 8],
 gt 130 128 (.mov false) [.t 9],
 gt 131 128 (.bin .lss) [.t 129, .t 130],
 ii 132 .pick [.t 128, .t 131, .c (.p (.bool false))]])
 (.cond (.t 132)
 (.seq
 (.reg [mv 133 0,
 mv 134 8,
 ii 135 (.ssl true false) [.t 133, .t 134],
 mv 136 1,
 ii 137 (.call 209) [.t 135, .t 136],
 mt 13 137])
 (.seq
 (.seq
 (.reg [mv 138 13,
 b1 139 .lss 138 (.int .i64 0)])
 (.cond (.t 139)
 (.seq
 (.reg [mc 4 (.int .i64 (-1))])
 .ret)
 .skip))
 (.seq
 (.reg [mv 140 8,
 mv 141 13,
 b2 142 .add 140 141,
 mt 4 142])
 .ret)))
 .skip))))))))))))
 (.seq
 (.reg [mc 4 (.int .i64 (-1))])
 .ret))))))))))⟩
theorem k177 : chkF Tryz.prog 177 F177 = true := by kernel_rfl
def F178 : Fn := ⟨8, 1, [.cell 2 2],
 (.seq
 (.reg [⟨some 2, none, .alloc 0 2 [.p (.int .i64 0), .p (.int .u64 0)], []⟩])
 (.seq
 (.reg [mv 3 0,
 b1 4 .shr 3 (.int .u64 63),
 mv 5 0,
 ii 6 (.conv .u64) [.t 5],
 ⟨some 7, none, .build [.int .i64 0, .int .u64 0] [(0, 1), (1, 1)], [.t 4, .t 6]⟩,
 ⟨none, none, .store 2, [.t 2, .t 7]⟩])
 .ret))⟩
theorem k178 : chkF Tryz.prog 178 F178 = true := by kernel_rfl
def F179 : Fn := ⟨25, 3, [.cell 4 2],
 (.seq
 (.reg [ii 2 (.box 0 2) [.t 0],
 ii 3 (.box 1 2) [.t 1],
 ⟨some 4, none, .alloc 2 2 [.p (.int .i64 0), .p (.int .u64 0)], []⟩])
 (.seq
 (.reg [fa 8 1 2,
 ld 9 8,
 fa 10 1 3,
 ld 11 10,
 ii 12 (.call 210) [.t 9, .t 11, .c (.p (.int .u64 0))],
 mv 7 12,
 ii 13 (.ext 0) [.t 7],
 ii 14 (.ext 1) [.t 7],
 mt 5 13,
 mt 6 14])
 (.seq
 (.reg [fa 15 0 2,
 ld 16 15,
 fa 17 0 3,
 ld 18 17,
 b2 19 .add 16 18,
 mv 20 6,
 ii 21 (.conv .i64) [.t 20],
 b2 22 .add 19 21,
 mv 23 5,
 ⟨some 24, none, .build [.int .i64 0, .int .u64 0] [(0, 1), (1, 1)], [.t 22, .t 23]⟩,
 ⟨none, none, .store 2, [.t 4, .t 24]⟩])
 .ret)))⟩
theorem k179 : chkF Tryz.prog 179 F179 = true := by kernel_rfl
def F180 : Fn := ⟨13, 1, [.tmp 2, .tmp 3],
 (.seq
 (.reg [ii 1 (.box 0 2) [.t 0],
 mc 2 (.int .i64 0),
 mc 3 (.bool false)])
 (.seq
 (.reg [fa 5 1 1,
 ld 6 5,
 ii 7 (.conv .i64) [.t 6],
 mt 4 7])
 (.seq
 (.seq
 (.regd [ii 8 (.at 0 (.load 2 true false)) [.t 1],
 mv 9 4,
 ii 10 (.pl (.call 178)) [.t 9],
 ii 11 (.eqs 2 true) [.t 8, .t 10]])
 (.cond (.t 11)
 (.seq
 (.reg [mc 2 (.int .i64 0),
 mc 3 (.bool false)])
 .ret)
 .skip))
 (.seq
 (.reg [mv 12 4,
 mt 2 12,
 mc 3 (.bool true)])
 .ret))))⟩
theorem k180 : chkF Tryz.prog 180 F180 = true := by kernel_rfl
def F181 : Fn := ⟨31, 1, [.cell 4 2],
 (.seq
 (.reg [⟨some 4, none, .alloc 0 2 [.p (.int .i64 0), .p (.int .u64 0)], []⟩])
 (.seq
 (.reg [mv 9 0,
 ii 10 (.conv .u64) [.t 9],
 mv 11 1,
 ii 12 (.conv .u64) [.t 11],
 ii 13 (.call 211) [.t 10, .t 12],
 mv 8 13,
 ii 14 (.ext 0) [.t 8],
 ii 15 (.ext 1) [.t 8],
 mt 5 14,
 mt 6 15])
 (.seq
 (.reg [mv 16 5,
 ii 17 (.conv .i64) [.t 16],
 mt 7 17])
 (.seq
 (.seq
 (.reg [mv 18 0,
 b1 19 .lss 18 (.int .i64 0)])
 (.cond (.t 19)
 (.reg [mv 20 7,
 mv 21 1,
 b2 22 .sub 20 21,
 mt 7 22])
 .skip))
 (.seq
 (.seq
 (.reg [mv 23 1,
 b1 24 .lss 23 (.int .i64 0)])
 (.cond (.t 24)
 (.reg [mv 25 7,
 mv 26 0,
 b2 27 .sub 25 26,
 mt 7 27])
 .skip))
 (.seq
 (.reg [mv 28 7,
 mv 29 6,
 ⟨some 30, none, .build [.int .i64 0, .int .u64 0] [(0, 1), (1, 1)], [.t 28, .t 29]⟩,
 ⟨none, none, .store 2, [.t 4, .t 30]⟩])
 .ret))))))⟩
theorem k181 : chkF Tryz.prog 181 F181 = true := by kernel_rfl
def F182 : Fn := ⟨24, 2, [.tmp 4],
 (.seq
 (.reg [ii 2 (.box 0 2) [.t 0],
 ii 3 (.box 1 2) [.t 1],
 mc 4 (.bool false)])
 (.seq
 (.reg [fa 5 0 2,
 ld 6 5,
 fa 7 0 3,
 ld 8 7,
 b2 9 .lss 6 8,
 mv 10 9,
 gf 11 10 (.fad 0) [.t 2],
 gf 12 10 (.load 1 false false) [.t 11],
 gf 13 10 (.fad 0) [.t 3],
 gf 14 10 (.load 1 false false) [.t 13],
 gf 15 10 (.bin .eql) [.t 12, .t 14],
 gf 16 10 (.mov false) [.t 15],
 gt 17 16 (.fad 1) [.t 2],
 gt 18 16 (.load 1 false false) [.t 17],
 gt 19 16 (.fad 1) [.t 3],
 gt 20 16 (.load 1 false false) [.t 19],
 gt 21 16 (.bin .lss) [.t 18, .t 20],
 gf 22 10 .pick [.t 16, .t 21, .c (.p (.bool false))],
 ii 23 .pick [.t 10, .c (.p (.bool true)), .t 22],
 mt 4 23])
 .ret))⟩
theorem k182 : chkF Tryz.prog 182 F182 = true := by kernel_rfl
def F183 : Fn := ⟨49, 0, [],
 (.seq
 (.reg [mv 8 1,
 b1 9 .add 8 (.int .i64 1),
 mt 6 9])
 (.block 0
 (.loop [7, 8, 9, 10, 11, 12, 13, 14, 15, 16, 17, 18, 19, 20, 21, 22, 23, 24, 25, 26, 27, 28, 29, 30, 31, 32, 33, 34, 35, 36, 37, 38, 39, 40, 41, 42, 43, 44, 45, 46, 47, 48] []
 (.seq
 (.seq
 (.reg [mv 10 6,
 mv 11 2,
 b2 12 .lss 10 11])
 (.cond (.t 12)
 .skip
 (.exit 0)))
 (.seq
 (.block 1
 (.seq
 (.reg [mv 15 6,
 mt 7 15])
 (.block 2
 (.loop [8, 9, 10, 11, 12, 13, 14, 15, 16, 17, 18, 19, 20, 21, 22, 23, 24, 25, 26, 27, 28, 29, 30, 31, 32, 33, 34, 35, 36, 37, 38, 39, 40, 41, 42, 43, 44, 45, 46, 47, 48] []
 (.seq
 (.seq
 (.regd [mv 16 7,
 mv 17 1,
 b2 18 .gtr 16 17,
 mv 19 18,
 gt 20 19 (.mov false) [.t 0],
 gt 21 19 (.mov false) [.t 7],
 gt 22 19 (.iad 1) [.t 20, .t 21],
 gt 23 19 (.at 0 (.load 1 false false)) [.t 22],
 gt 24 19 (.mov false) [.t 0],
 gt 25 19 (.mov false) [.t 7],
 gt 26 19 (.bin .sub) [.t 25, .c (.p (.int .i64 1))],
 gt 27 19 (.iad 1) [.t 24, .t 26],
 gt 28 19 (.at 0 (.load 1 false false)) [.t 27],
 gt 29 19 (.pl (.call 189)) [.t 23, .t 28],
 ii 30 .pick [.t 19, .t 29, .c (.p (.bool false))]])
 (.cond (.t 30)
 .skip
 (.exit 2)))
 (.seq
 (.block 3
 (.regd [mv 33 0,
 mv 34 7,
 mv 35 0,
 mv 36 7,
 b1 37 .sub 36 (.int .i64 1),
 mv 38 0,
 mv 39 7,
 b1 40 .sub 39 (.int .i64 1),
 ii 41 (.iad 1) [.t 38, .t 40],
 ii 42 (.at 0 (.load 1 false false)) [.t 41],
 mv 43 0,
 mv 44 7,
 ii 45 (.iad 1) [.t 43, .t 44],
 ii 46 (.at 0 (.load 1 false false)) [.t 45],
 ii 47 (.iad 1) [.t 33, .t 34],
 ⟨none, none, .at 0 (.store 1), [.t 47, .t 42]⟩,
 ii 48 (.iad 1) [.t 35, .t 37],
 ⟨none, none, .at 0 (.store 1), [.t 48, .t 46]⟩]))
 (.reg [mv 31 7,
 b1 32 .sub 31 (.int .i64 1),
 mt 7 32])))))))
 (.reg [mv 13 6,
 b1 14 .add 13 (.int .i64 1),
 mt 6 14]))))))⟩
theorem k183 : chkF Tryz.prog 183 F183 = true := by kernel_rfl
def F189 : Fn := ⟨17, 0, [.tmp 4],
 (.seq
 (.reg [mc 4 (.bool false)])
 (.seq
 (.reg [mv 5 0,
 ii 6 (.call 97) [.t 5],
 mv 7 6,
 gt 8 7 (.mov false) [.t 1],
 gt 9 7 (.call 97) [.t 8],
 gt 10 7 (.un .not) [.t 9],
 ii 11 .pick [.t 7, .t 10, .c (.p (.bool false))],
 mv 12 11,
 gf 13 12 (.mov false) [.t 0],
 gf 14 12 (.mov false) [.t 1],
 gf 15 12 (.bin .lss) [.t 13, .t 14],
 ii 16 .pick [.t 12, .c (.p (.bool true)), .t 15],
 mt 4 16])
 .ret))⟩
theorem k189 : chkF Tryz.prog 189 F189 = true := by kernel_rfl
def F192 : Fn := ⟨15, 0, [.tmp 2],
 (.seq
 (.reg [⟨some 2, none, .mov true, [.c (.p (.str ⟨#[]⟩))]⟩])
 (.seq
 (.seq
 (.reg [mv 3 0,
 b1 4 .lss 3 (.int .i64 10)])
 (.cond (.t 4)
 (.seq
 (.reg [mv 5 0,
 mv 6 0,
 b1 7 .add 6 (.int .i64 1),
 ⟨some 8, none, .ssl true true, [.c (.p (.str ⟨#[48, 49, 50, 51, 52, 53, 54, 55, 56, 57, 97, 98, 99, 100, 101, 102, 103, 104, 105, 106, 107, 108, 109, 110, 111, 112, 113, 114, 115, 116, 117, 118, 119, 120, 121, 122]⟩)), .t 5, .t 7]⟩,
 mt 2 8])
 .ret)
 .skip))
 (.seq
 (.reg [mv 9 0,
 b1 10 .mul 9 (.int .i64 2),
 mv 11 0,
 b1 12 .mul 11 (.int .i64 2),
 b1 13 .add 12 (.int .i64 2),
 ⟨some 14, none, .ssl true true, [.c (.p (.str ⟨#[48, 48, 48, 49, 48, 50, 48, 51, 48, 52, 48, 53, 48, 54, 48, 55, 48, 56, 48, 57, 49, 48, 49, 49, 49, 50, 49, 51, 49, 52, 49, 53, 49, 54, 49, 55, 49, 56, 49, 57, 50, 48, 50, 49, 50, 50, 50, 51, 50, 52, 50, 53, 50, 54, 50, 55, 50, 56, 50, 57, 51, 48, 51, 49, 51, 50, 51, 51, 51, 52, 51, 53, 51, 54, 51, 55, 51, 56, 51, 57, 52, 48, 52, 49, 52, 50, 52, 51, 52, 52, 52, 53, 52, 54, 52, 55, 52, 56, 52, 57, 53, 48, 53, 49, 53, 50, 53, 51, 53, 52, 53, 53, 53, 54, 53, 55, 53, 56, 53, 57, 54, 48, 54, 49, 54, 50, 54, 51, 54, 52, 54, 53, 54, 54, 54, 55, 54, 56, 54, 57, 55, 48, 55, 49, 55, 50, 55, 51, 55, 52, 55, 53, 55, 54, 55, 55, 55, 56, 55, 57, 56, 48, 56, 49, 56, 50, 56, 51, 56, 52, 56, 53, 56, 54, 56, 55, 56, 56, 56, 57, 57, 48, 57, 49, 57, 50, 57, 51, 57, 52, 57, 53, 57, 54, 57, 55, 57, 56, 57, 57]⟩)), .t 10, .t 13]⟩,
 mt 2 14])
 .ret)))⟩
theorem k192 : chkF Tryz.prog 192 F192 = true := by kernel_rfl
def F201 : Fn := ⟨172, 0, [.tmp 6, .tmp 7],
 (.seq
 (.reg [mc 6 (.int .u64 0),
 mc 7 (.atom .nilIface)])
 (.seq
 (.seq
 (.reg [mv 18 0,
 ⟨some 19, none, .bin .eql, [.t 18, .c (.p (.str ⟨#[]⟩))]⟩])
 (.cond (.t 19)
 (.seq
 (.reg [ii 20 .stk [],
 mc 6 (.int .u64 0),
 mt 7 20])
 .ret)
 .skip))
 (.seq
 (.reg [mv 21 1,
 b1 22 .eql 21 (.int .i64 0),
 mt 8 22])
 (.seq
 (.reg [mv 23 0,
 mt 9 23])
 (.seq
 (.block 0
 (.seq
 (.reg [mv 26 1,
 ii 27 (.bin .leq) [.c (.p (.int .i64 2)), .t 26],
 mv 28 27,
 gt 29 28 (.mov false) [.t 1],
 gt 30 28 (.bin .leq) [.t 29, .c (.p (.int .i64 36))],
 ii 31 .pick [.t 28, .t 30, .c (.p (.bool false))],
 mt 25 31])
 (.cond (.t 25)
 .skip
 (.seq
 (.reg [mv 33 1,
 b1 34 .eql 33 (.int .i64 0),
 mt 32 34])
 (.cond (.t 32)
 (.seq
 (.reg [mc 1 (.int .i64 10)])
 (.seq
 (.reg [mv 35 0,
 ii 36 .sidx [.t 35, .c (.p (.int .i64 0))],
 b1 37 .eql 36 (.int .u8 48)])
 (.cond (.t 37)
 (.block 1
 (.seq
 (.reg [mv 41 0,
 ii 42 .slen [.t 41],
 b1 43 .geq 42 (.int .i64 3),
 mv 44 43,
 gt 45 44 (.mov false) [.t 0],
 gt 46 44 .sidx [.t 45, .c (.p (.int .i64 1))],
 gt 47 44 (.call 220) [.t 46],
 gt 48 44 (.bin .eql) [.t 47, .c (.p (.int .u8 98))],
 ii 49 .pick [.t 44, .t 48, .c (.p (.bool false))],
 mt 40 49])
 (.cond (.t 40)
 (.seq
 (.reg [mc 1 (.int .i64 2)])
 (.reg [mv 50 0,
 ii 51 (.ssl true false) [.t 50, .c (.p (.int .i64 2))],
 mt 0 51]))
 (.seq
 (.reg [mv 53 0,
 ii 54 .slen [.t 53],
 b1 55 .geq 54 (.int .i64 3),
 mv 56 55,
 gt 57 56 (.mov false) [.t 0],
 gt 58 56 .sidx [.t 57, .c (.p (.int .i64 1))],
 gt 59 56 (.call 220) [.t 58],
 gt 60 56 (.bin .eql) [.t 59, .c (.p (.int .u8 111))],
 ii 61 .pick [.t 56, .t 60, .c (.p (.bool false))],
 mt 52 61])
 (.cond (.t 52)
 (.seq
 (.reg [mc 1 (.int .i64 8)])
 (.reg [mv 62 0,
 ii 63 (.ssl true false) [.t 62, .c (.p (.int .i64 2))],
 mt 0 63]))
 (.seq
 (.reg [mv 65 0,
 ii 66 .slen [.t 65],
 b1 67 .geq 66 (.int .i64 3),
 mv 68 67,
 gt 69 68 (.mov false) [.t 0],
 gt 70 68 .sidx [.t 69, .c (.p (.int .i64 1))],
 gt 71 68 (.call 220) [.t 70],
 gt 72 68 (.bin .eql) [.t 71, .c (.p (.int .u8 120))],
 ii 73 .pick [.t 68, .t 72, .c (.p (.bool false))],
 mt 64 73])
 (.cond (.t 64)
 (.seq
 (.reg [mc 1 (.int .i64 16)])
 (.reg [mv 74 0,
 ii 75 (.ssl true false) [.t 74, .c (.p (.int .i64 2))],
 mt 0 75]))
 (.seq
 (.reg [mc 1 (.int .i64 8)])
 (.reg [mv 38 0,
 ii 39 (.ssl true false) [.t 38, .c (.p (.int .i64 1))],
 mt 0 39])))))))))
 .skip)))
 (.seq
 (.reg [ii 24 .stk [],
 mc 6 (.int .u64 0),
 mt 7 24])
 .ret))))))
 (.seq
 (.seq
 (.reg [mv 76 2,
 b1 77 .eql 76 (.int .i64 0)])
 (.cond (.t 77)
 (.reg [mc 2 (.int .i64 64)])
 (.seq
 (.reg [mv 78 2,
 b1 79 .lss 78 (.int .i64 0),
 mv 80 79,
 gf 81 80 (.mov false) [.t 2],
 gf 82 80 (.bin .gtr) [.t 81, .c (.p (.int .i64 64))],
 ii 83 .pick [.t 80, .c (.p (.bool true)), .t 82]])
 (.cond (.t 83)
 (.seq
 (.reg [ii 84 .stk [],
 mc 6 (.int .u64 0),
 mt 7 84])
 .ret)
 .skip))))
 (.seq
 (.reg [mc 10 (.int .u64 0)])
 (.seq
 (.seq
 (.reg [mv 85 1])
 (.block 2
 (.seq
 (.reg [b1 91 .eql 85 (.int .i64 10),
 mt 90 91])
 (.cond (.t 90)
 (.reg [mc 10 (.int .u64 1844674407370955162)])
 (.seq
 (.reg [b1 93 .eql 85 (.int .i64 16),
 mt 92 93])
 (.cond (.t 92)
 (.reg [mc 10 (.int .u64 1152921504606846976)])
 (.reg [mv 86 1,
 ii 87 (.conv .u64) [.t 86],
 ii 88 (.bin .quo) [.c (.p (.int .u64 18446744073709551615)), .t 87],
 b1 89 .add 88 (.int .u64 1),
 mt 10 89])))))))
 (.seq
 (.reg [mv 94 2,
 ii 95 (.conv .u64) [.t 94],
 ii 96 (.bin .shl) [.c (.p (.int .u64 1)), .t 95],
 b1 97 .sub 96 (.int .u64 1),
 mt 11 97])
 (.seq
 (.reg [mc 12 (.bool false)])
 (.seq
 (.reg [mc 13 (.int .u64 0)])
 (.seq
 (.seq
 (.reg [mv 98 0,
 ii 99 .s2b [.t 98],
 ii 100 .len [.t 99],
 ii 101 (.mov false) [.c (.p (.int .i64 0))]])
 (.block 3
 (.loop [0, 2, 6, 7, 15, 16, 17, 18, 19, 20, 21, 22, 23, 24, 25, 26, 27, 28, 29, 30, 31, 32, 33, 34, 35, 36, 37, 38, 39, 40, 41, 42, 43, 44, 45, 46, 47, 48, 49, 50, 51, 52, 53, 54, 55, 56, 57, 58, 59, 60, 61, 62, 63, 64, 65, 66, 67, 68, 69, 70, 71, 72, 73, 74, 75, 76, 77, 78, 79, 80, 81, 82, 83, 84, 85, 86, 87, 88, 89, 90, 91, 92, 93, 94, 95, 96, 97, 98, 102, 103, 104, 105, 106, 107, 108, 109, 110, 111, 112, 113, 114, 115, 116, 117, 118, 119, 120, 121, 122, 123, 124, 125, 126, 127, 128, 129, 130, 131, 132, 133, 134, 135, 136, 137, 138, 139, 140, 141, 142, 143, 144, 145, 146, 147, 148, 149, 150, 151, 152, 153, 154, 155, 156, 157, 158, 159, 160, 161, 162, 163, 164, 165, 166, 167, 168, 169, 170, 171] []
 (.seq
 (.reg [b2 102 .lss 101 100])
 (.seq
 (.cond (.t 102)
 .skip
 (.exit 3))
 (.seq
 (.block 4
 (.seq
 (.reg [ii 103 (.iad 1) [.t 99, .t 101],
 ld 104 103,
 mt 15 104])
 (.seq
 (.reg [mc 16 (.int .u8 0)])
 (.seq
 (.block 5
 (.seq
 (.reg [mv 107 15,
 b1 108 .eql 107 (.int .u8 95),
 mv 109 108,
 gt 110 109 (.mov false) [.t 8],
 ii 111 .pick [.t 109, .t 110, .c (.p (.bool false))],
 mt 106 111])
 (.cond (.t 106)
 (.seq
 (.reg [mc 12 (.bool true)])
 (.exit 4))
 (.seq
 (.reg [mv 113 15,
 ii 114 (.bin .leq) [.c (.p (.int .u8 48)), .t 113],
 mv 115 114,
 gt 116 115 (.mov false) [.t 15],
 gt 117 115 (.bin .leq) [.t 116, .c (.p (.int .u8 57))],
 ii 118 .pick [.t 115, .t 117, .c (.p (.bool false))],
 mt 112 118])
 (.cond (.t 112)
 (.reg [mv 119 15,
 b1 120 .sub 119 (.int .u8 48),
 mt 16 120])
 (.seq
 (.reg [mv 122 15,
 ii 123 (.call 220) [.t 122],
 ii 124 (.bin .leq) [.c (.p (.int .u8 97)), .t 123],
 mv 125 124,
 gt 126 125 (.mov false) [.t 15],
 gt 127 125 (.call 220) [.t 126],
 gt 128 125 (.bin .leq) [.t 127, .c (.p (.int .u8 122))],
 ii 129 .pick [.t 125, .t 128, .c (.p (.bool false))],
 mt 121 129])
 (.cond (.t 121)
 (.reg [mv 130 15,
 ii 131 (.call 220) [.t 130],
 b1 132 .sub 131 (.int .u8 97),
 b1 133 .add 132 (.int .u8 10),
 mt 16 133])
 (.seq
 (.reg [ii 105 .stk [],
 mc 6 (.int .u64 0),
 mt 7 105])
 .ret))))))))
 (.seq
 (.seq
 (.reg [mv 134 16,
 mv 135 1,
 ii 136 (.conv .u8) [.t 135],
 b2 137 .geq 134 136])
 (.cond (.t 137)
 (.seq
 (.reg [ii 138 .stk [],
 mc 6 (.int .u64 0),
 mt 7 138])
 .ret)
 .skip))
 (.seq
 (.seq
 (.reg [mv 139 13,
 mv 140 10,
 b2 141 .geq 139 140])
 (.cond (.t 141)
 (.seq
 (.reg [mv 142 11,
 ii 143 .stk [],
 mt 6 142,
 mt 7 143])
 .ret)
 .skip))
 (.seq
 (.reg [mv 144 13,
 mv 145 1,
 ii 146 (.conv .u64) [.t 145],
 b2 147 .mul 144 146,
 mt 13 147])
 (.seq
 (.reg [mv 148 13,
 mv 149 16,
 ii 150 (.conv .u64) [.t 149],
 b2 151 .add 148 150,
 mt 17 151])
 (.seq
 (.seq
 (.reg [mv 152 17,
 mv 153 13,
 b2 154 .lss 152 153,
 mv 155 154,
 gf 156 155 (.mov false) [.t 17],
 gf 157 155 (.mov false) [.t 11],
 gf 158 155 (.bin .gtr) [.t 156, .t 157],
 ii 159 .pick [.t 155, .c (.p (.bool true)), .t 158]])
 (.cond (.t 159)
 (.seq
 (.reg [mv 160 11,
 ii 161 .stk [],
 mt 6 160,
 mt 7 161])
 .ret)
 .skip))
 (.reg [mv 162 17,
 mt 13 162]))))))))))
 (.reg [b1 163 .add 101 (.int .i64 1),
 mv 101 163])))))))
 (.seq
 (.seq
 (.reg [mv 164 12,
 mv 165 164,
 gt 166 165 (.mov false) [.t 9],
 gt 167 165 (.call 221) [.t 166],
 gt 168 165 (.un .not) [.t 167],
 ii 169 .pick [.t 165, .t 168, .c (.p (.bool false))]])
 (.cond (.t 169)
 (.seq
 (.reg [ii 170 .stk [],
 mc 6 (.int .u64 0),
 mt 7 170])
 .ret)
 .skip))
 (.seq
 (.reg [mv 171 13,
 mt 6 171,
 mc 7 (.atom .nilIface)])
 .ret))))))))))))))⟩
theorem k201 : chkF Tryz.prog 201 F201 = true := by kernel_rfl
def F206 : Fn := ⟨8, 0, [.tmp 4],
 (.seq
 (.reg [mc 4 (.int .i64 0)])
 (.seq
 (.reg [mv 5 0,
 mv 6 1,
 ii 7 (.call 225) [.t 5, .t 6],
 mt 4 7])
 .ret))⟩
theorem k206 : chkF Tryz.prog 206 F206 = true := by kernel_rfl
def F211 : Fn := ⟨51, 0, [.tmp 4, .tmp 5],
 (.seq
 (.reg [mc 4 (.int .u64 0),
 mc 5 (.int .u64 0)])
 (.seq
 (.reg [mv 14 0,
 b1 15 .and 14 (.int .u64 4294967295),
 mt 6 15])
 (.seq
 (.reg [mv 16 0,
 b1 17 .shr 16 (.int .u64 32),
 mt 7 17])
 (.seq
 (.reg [mv 18 1,
 b1 19 .and 18 (.int .u64 4294967295),
 mt 8 19])
 (.seq
 (.reg [mv 20 1,
 b1 21 .shr 20 (.int .u64 32),
 mt 9 21])
 (.seq
 (.reg [mv 22 6,
 mv 23 8,
 b2 24 .mul 22 23,
 mt 10 24])
 (.seq
 (.reg [mv 25 7,
 mv 26 8,
 b2 27 .mul 25 26,
 mv 28 10,
 b1 29 .shr 28 (.int .u64 32),
 b2 30 .add 27 29,
 mt 11 30])
 (.seq
 (.reg [mv 31 11,
 b1 32 .and 31 (.int .u64 4294967295),
 mt 12 32])
 (.seq
 (.reg [mv 33 11,
 b1 34 .shr 33 (.int .u64 32),
 mt 13 34])
 (.seq
 (.reg [mv 35 12,
 mv 36 6,
 mv 37 9,
 b2 38 .mul 36 37,
 b2 39 .add 35 38,
 mt 12 39])
 (.seq
 (.reg [mv 40 7,
 mv 41 9,
 b2 42 .mul 40 41,
 mv 43 13,
 b2 44 .add 42 43,
 mv 45 12,
 b1 46 .shr 45 (.int .u64 32),
 b2 47 .add 44 46,
 mt 4 47])
 (.seq
 (.reg [mv 48 0,
 mv 49 1,
 b2 50 .mul 48 49,
 mt 5 50])
 .ret))))))))))))⟩
theorem k211 : chkF Tryz.prog 211 F211 = true := by kernel_rfl
def F220 : Fn := ⟨5, 0, [.tmp 2],
 (.seq
 (.reg [mc 2 (.int .u8 0)])
 (.seq
 (.reg [mv 3 0,
 b1 4 .or 3 (.int .u8 32),
 mt 2 4])
 .ret))⟩
theorem k220 : chkF Tryz.prog 220 F220 = true := by kernel_rfl
end Go.Proofs.YtkjghcbnmipgfaaGreatDoor.Vc
namespace Go.Proofs.YtkjghcbnmipgfaaGreatDoor.Vc
open Go.RowKit
def F119 : Fn := ⟨25, 0, [.tmp 2],
 (.seq
 (.reg [mc 2 (.int .i64 0)])
 (.seq
 (.seq
 (.reg [mv 3 0,
 b1 4 .geq 3 (.int .u64 4294967296)])
 (.cond (.t 4)
 (.seq
 (.reg [mv 5 0,
 b1 6 .shr 5 (.int .u64 32),
 mt 0 6])
 (.reg [mc 2 (.int .i64 32)]))
 .skip))
 (.seq
 (.seq
 (.reg [mv 7 0,
 b1 8 .geq 7 (.int .u64 65536)])
 (.cond (.t 8)
 (.seq
 (.reg [mv 9 0,
 b1 10 .shr 9 (.int .u64 16),
 mt 0 10])
 (.reg [mv 11 2,
 b1 12 .add 11 (.int .i64 16),
 mt 2 12]))
 .skip))
 (.seq
 (.seq
 (.reg [mv 13 0,
 b1 14 .geq 13 (.int .u64 256)])
 (.cond (.t 14)
 (.seq
 (.reg [mv 15 0,
 b1 16 .shr 15 (.int .u64 8),
 mt 0 16])
 (.reg [mv 17 2,
 b1 18 .add 17 (.int .i64 8),
 mt 2 18]))
 .skip))
 (.seq
 (.reg [mv 19 2,
 mv 20 0,
 ii 21 (.conv .u8) [.t 20],
 ⟨some 22, none, .sidx, [.c (.p (.str ⟨#[0, 1, 2, 2, 3, 3, 3, 3, 4, 4, 4, 4, 4, 4, 4, 4, 5, 5, 5, 5, 5, 5, 5, 5, 5, 5, 5, 5, 5, 5, 5, 5, 6, 6, 6, 6, 6, 6, 6, 6, 6, 6, 6, 6, 6, 6, 6, 6, 6, 6, 6, 6, 6, 6, 6, 6, 6, 6, 6, 6, 6, 6, 6, 6, 7, 7, 7, 7, 7, 7, 7, 7, 7, 7, 7, 7, 7, 7, 7, 7, 7, 7, 7, 7, 7, 7, 7, 7, 7, 7, 7, 7, 7, 7, 7, 7, 7, 7, 7, 7, 7, 7, 7, 7, 7, 7, 7, 7, 7, 7, 7, 7, 7, 7, 7, 7, 7, 7, 7, 7, 7, 7, 7, 7, 7, 7, 7, 7, 8, 8, 8, 8, 8, 8, 8, 8, 8, 8, 8, 8, 8, 8, 8, 8, 8, 8, 8, 8, 8, 8, 8, 8, 8, 8, 8, 8, 8, 8, 8, 8, 8, 8, 8, 8, 8, 8, 8, 8, 8, 8, 8, 8, 8, 8, 8, 8, 8, 8, 8, 8, 8, 8, 8, 8, 8, 8, 8, 8, 8, 8, 8, 8, 8, 8, 8, 8, 8, 8, 8, 8, 8, 8, 8, 8, 8, 8, 8, 8, 8, 8, 8, 8, 8, 8, 8, 8, 8, 8, 8, 8, 8, 8, 8, 8, 8, 8, 8, 8, 8, 8, 8, 8, 8, 8, 8, 8, 8, 8, 8, 8, 8, 8, 8, 8, 8, 8, 8, 8, 8, 8, 8, 8, 8, 8, 8, 8]⟩)), .t 21]⟩,
 ii 23 (.conv .i64) [.t 22],
 b2 24 .add 19 23,
 mt 2 24])
 .ret)))))⟩
theorem k119 : chkF Tryz.prog 119 F119 = true := by kernel_rfl
end Go.Proofs.YtkjghcbnmipgfaaGreatDoor.Vc
