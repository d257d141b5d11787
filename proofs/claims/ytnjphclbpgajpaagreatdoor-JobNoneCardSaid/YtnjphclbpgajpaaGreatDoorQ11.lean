/- Part of a proof over a Go program: Fn2, Fn3, MaLoad. No condition. -/
import Derived.Test.YtnjphclbpgajpaaGreatDoorQ10
import Derived.Test.YtnjphclbpgajpaaGreatDoorProg
set_option linter.unnecessarySimpa false
set_option linter.unusedSectionVars false
set_option linter.unusedSimpArgs false
set_option linter.unusedVariables false
namespace Go.Proofs.YtnjphclbpgajpaaGreatDoor.Vc
open Go.RowKit
def F185 : Fn := ⟨89, 3, [.tmp 6],
 (.seq
 (.reg [ii 3 (.box 0 5) [.t 0],
 ii 4 (.box 1 4) [.t 1],
 ii 5 (.box 2 2) [.t 2],
 mc 6 (.bool false)])
 (.seq
 (.seq
 (.reg [ii 8 (.load 5 true false) [.t 3],
 ii 9 (.call 80) [.t 8],
 ii 10 (.un .not) [.t 9],
 mv 11 10,
 gf 12 11 (.load 5 true false) [.t 3],
 gf 13 11 (.load 4 true false) [.t 4],
 gf 14 11 (.call 81) [.t 12, .t 13],
 gf 15 11 (.un .not) [.t 14],
 ii 16 .pick [.t 11, .c (.p (.bool true)), .t 15],
 mv 17 16,
 gf 18 17 (.load 5 true false) [.t 3],
 gf 19 17 (.load 2 true false) [.t 5],
 gf 20 17 (.call 218) [.t 18, .t 19],
 gf 21 17 (.un .not) [.t 20],
 ii 22 .pick [.t 17, .c (.p (.bool true)), .t 21]])
 (.cond (.t 22)
 (.seq
 (.reg [mc 6 (.bool false)])
 .ret)
 .skip))
 (.seq
 (.reg [fa 23 1 5,
 ld 24 23,
 ii 25 .len [.t 24],
 mt 7 25])
 (.seq
 (.seq
 (.reg [fa 26 0 5,
 ld 27 26])
 (.block 0
 (.seq
 (.reg [b1 29 .eql 27 (.int .i64 1),
 mt 28 29])
 (.cond (.t 28)
 (.seq
 (.regd [mv 30 7,
 b1 31 .eql 30 (.int .i64 1),
 mv 32 31,
 gt 33 32 (.fad 1) [.t 5],
 gt 34 32 (.at 2 (.load 1 false false)) [.t 33],
 gt 35 32 (.iad 4) [.t 34, .c (.p (.int .i64 0))],
 gt 36 32 (.fad 1) [.t 35],
 gt 37 32 (.loadp 1 false) [.t 36],
 gt 38 32 (.bin .eql) [.t 37, .c (.p (.int .i64 0))],
 ii 39 .pick [.t 32, .t 38, .c (.p (.bool false))],
 mv 40 39,
 gt 41 40 (.fad 1) [.t 5],
 gt 42 40 (.at 2 (.load 1 false false)) [.t 41],
 gt 43 40 (.iad 4) [.t 42, .c (.p (.int .i64 0))],
 gt 44 40 (.fad 2) [.t 43],
 gt 45 40 (.loadp 1 false) [.t 44],
 gt 46 40 (.fad 1) [.t 4],
 gt 47 40 (.at 1 (.load 1 false false)) [.t 46],
 gt 48 40 (.bin .eql) [.t 45, .t 47],
 ii 49 .pick [.t 40, .t 48, .c (.p (.bool false))],
 mv 50 49,
 gt 51 50 (.fad 1) [.t 5],
 gt 52 50 (.at 2 (.load 1 false false)) [.t 51],
 gt 53 50 (.iad 4) [.t 52, .c (.p (.int .i64 0))],
 gt 54 50 (.fad 3) [.t 53],
 gt 55 50 (.loadp 1 false) [.t 54],
 gt 56 50 (.fad 0) [.t 4],
 gt 57 50 (.at 1 (.load 1 false false)) [.t 56],
 gt 58 50 (.bin .eql) [.t 55, .t 57],
 ii 59 .pick [.t 50, .t 58, .c (.p (.bool false))],
 mt 6 59])
 .ret)
 (.seq
 (.reg [b1 61 .eql 27 (.int .i64 2),
 mt 60 61])
 (.cond (.t 60)
 (.seq
 (.reg [ii 62 (.load 5 true false) [.t 3],
 ii 63 (.load 4 true false) [.t 4],
 ii 64 (.load 2 true false) [.t 5],
 ii 65 (.call 219) [.t 62, .t 63, .t 64],
 mt 6 65])
 .ret)
 (.seq
 (.reg [b1 67 .eql 27 (.int .i64 3),
 mt 66 67])
 (.cond (.t 66)
 (.seq
 (.regd [ii 68 (.at 0 (.load 5 true false)) [.t 3],
 ii 69 (.at 1 (.load 4 true false)) [.t 4],
 ii 70 (.at 2 (.load 2 true false)) [.t 5],
 ii 71 (.pl (.call 219)) [.t 68, .t 69, .t 70],
 mv 72 71,
 gt 73 72 (.mov false) [.t 7],
 gt 74 72 (.bin .eql) [.t 73, .c (.p (.int .i64 2))],
 ii 75 .pick [.t 72, .t 74, .c (.p (.bool false))],
 mv 76 75,
 gt 77 76 (.fad 1) [.t 5],
 gt 78 76 (.at 2 (.load 1 false false)) [.t 77],
 gt 79 76 (.iad 4) [.t 78, .c (.p (.int .i64 0))],
 gt 80 76 (.fad 2) [.t 79],
 gt 81 76 (.loadp 1 false) [.t 80],
 gt 82 76 (.fad 1) [.t 5],
 gt 83 76 (.at 2 (.load 1 false false)) [.t 82],
 gt 84 76 (.iad 4) [.t 83, .c (.p (.int .i64 0))],
 gt 85 76 (.fad 3) [.t 84],
 gt 86 76 (.loadp 1 false) [.t 85],
 gt 87 76 (.bin .eql) [.t 81, .t 86],
 ii 88 .pick [.t 76, .t 87, .c (.p (.bool false))],
 mt 6 88])
 .ret)
 .skip))))))))
 (.seq
 (.reg [mc 6 (.bool false)])
 .ret)))))⟩
theorem k185 : chkF Tryz.prog 185 F185 = true := by kernel_rfl
def F50 : Fn := ⟨64, 3, [.cell 6 2, .tmp 7],
 (.seq
 (.reg [ii 3 (.box 0 5) [.t 0],
 ii 5 (.box 1 4) [.t 2],
 ⟨some 6, none, .alloc 2 2 [.p (.int .i64 0), .ow 4 true []], []⟩,
 mc 7 (.bool false)])
 (.seq
 (.seq
 (.reg [ii 12 (.load 5 true false) [.t 3],
 ii 13 (.call 80) [.t 12],
 ii 14 (.un .not) [.t 13],
 mv 15 14,
 gf 16 15 (.load 5 true false) [.t 3],
 gf 17 15 (.load 4 true false) [.t 5],
 gf 18 15 (.call 81) [.t 16, .t 17],
 gf 19 15 (.un .not) [.t 18],
 ii 20 .pick [.t 15, .c (.p (.bool true)), .t 19],
 mv 21 20,
 gf 22 21 (.fad 3) [.t 5],
 gf 23 21 (.load 1 false false) [.t 22],
 gf 24 21 .len [.t 23],
 gf 25 21 (.bin .gtr) [.t 24, .c (.p (.int .i64 0))],
 ii 26 .pick [.t 21, .c (.p (.bool true)), .t 25],
 mv 27 26,
 gf 28 27 (.mov false) [.t 1],
 gf 29 27 .len [.t 28],
 gf 30 27 (.fad 0) [.t 3],
 gf 31 27 (.load 1 false false) [.t 30],
 gf 32 27 (.bin .neq) [.t 29, .t 31],
 ii 33 .pick [.t 27, .c (.p (.bool true)), .t 32]])
 (.cond (.t 33)
 (.seq
 (.gp (.reg [⟨some 34, none, .build [.int .i64 0, .sl 4 true []] [], []⟩,
 ⟨none, none, .store 2, [.t 6, .t 34]⟩,
 mc 7 (.bool false)]) (.lay 2 2))
 .ret)
 .skip))
 (.seq
 (.seq
 (.reg [mc 8 (.int .i64 2)])
 (.block 0
 (.loop [0, 2, 7, 9, 10, 11, 12, 13, 14, 15, 16, 17, 18, 19, 20, 21, 22, 23, 24, 25, 26, 27, 28, 29, 30, 31, 32, 33, 34, 35, 36, 37, 38, 39, 40, 41, 42, 43, 44, 45, 46, 47, 48, 49, 50, 51, 52, 53, 54, 55, 56, 57, 58, 59, 60, 61, 62, 63] []
 (.seq
 (.seq
 (.reg [mv 35 8,
 fa 36 0 3,
 ld 37 36,
 b2 38 .leq 35 37])
 (.cond (.t 38)
 .skip
 (.exit 0)))
 (.seq
 (.block 1
 (.seq
 (.reg [ii 41 (.load 5 true false) [.t 3],
 ii 42 (.load 4 true false) [.t 5],
 mv 43 8,
 ii 44 (.call 82) [.t 41, .t 42, .t 43],
 mt 9 44])
 (.seq
 (.seq
 (.reg [mv 45 9,
 b1 46 .eql 45 (.int .i64 0)])
 (.cond (.t 46)
 (.exit 0)
 .skip))
 (.seq
 (.regd [ii 48 (.at 0 (.load 5 true false)) [.t 3],
 ii 49 (.at 1 (.load 4 true false)) [.t 5],
 mv 50 9,
 ii 51 (.at 0 (.load 5 true false)) [.t 3],
 mv 52 1,
 ii 53 (.at 1 (.load 4 true false)) [.t 5],
 mv 54 8,
 mv 55 9,
 ii 56 (.pl (.call 84)) [.t 51, .t 52, .t 53, .t 54, .t 55],
 ii 57 (.pl (.call 83)) [.t 48, .t 49, .t 50, .t 56],
 mv 47 57,
 ii 58 (.extp 0) [.t 47],
 ii 59 (.extp 1) [.t 47],
 mt 10 58,
 mt 11 59])
 (.seq
 (.reg [mv 60 11])
 (.cond (.t 60)
 (.seq
 (.gp (.reg [mv 61 10,
 ⟨some 62, none, .build [.int .i64 0, .sl 4 true []] [(0, 1), (1, 1)], [.c (.p (.int .i64 2)), .t 61]⟩,
 ⟨none, none, .store 2, [.t 6, .t 62]⟩,
 mc 7 (.bool true)]) (.lay 2 2))
 .ret)
 .skip))))))
 (.reg [mv 39 8,
 b1 40 .add 39 (.int .i64 1),
 mt 8 40]))))))
 (.seq
 (.gp (.reg [⟨some 63, none, .build [.int .i64 0, .sl 4 true []] [], []⟩,
 ⟨none, none, .store 2, [.t 6, .t 63]⟩,
 mc 7 (.bool false)]) (.lay 2 2))
 .ret))))⟩
theorem k50 : chkF Tryz.prog 50 F50 = true := by kernel_rfl
def F82 : Fn := ⟨20, 2, [.tmp 6],
 (.seq
 (.reg [ii 3 (.box 0 5) [.t 0],
 ii 4 (.box 1 4) [.t 1],
 mc 6 (.int .i64 0)])
 (.seq
 (.seq
 (.reg [mv 7 2,
 b1 8 .lss 7 (.int .i64 1)])
 (.cond (.t 8)
 (.seq
 (.reg [mc 6 (.int .i64 0)])
 .ret)
 .skip))
 (.seq
 (.reg [fa 9 1 4,
 ld 10 9,
 mv 11 2,
 b1 12 .sub 11 (.int .i64 1),
 fa 13 2 3,
 ld 14 13,
 b2 15 .mul 12 14,
 b2 16 .sub 10 15,
 mv 17 2,
 ii 18 (.call 129) [.t 16, .t 17],
 ii 19 .mx [.t 18, .c (.p (.int .i64 0))],
 mt 6 19])
 .ret)))⟩
theorem k82 : chkF Tryz.prog 82 F82 = true := by kernel_rfl
def F51 : Fn := ⟨62, 4, [.cell 6 2, .tmp 7],
 (.seq
 (.reg [ii 3 (.box 0 5) [.t 0],
 ii 5 (.box 1 4) [.t 2],
 ⟨some 6, none, .alloc 2 2 [.p (.int .i64 0), .ow 4 true []], []⟩,
 mc 7 (.bool false)])
 (.seq
 (.seq
 (.reg [ii 12 (.load 5 true false) [.t 3],
 ii 13 (.call 80) [.t 12],
 ii 14 (.un .not) [.t 13],
 mv 15 14,
 gf 16 15 (.load 5 true false) [.t 3],
 gf 17 15 (.load 4 true false) [.t 5],
 gf 18 15 (.call 81) [.t 16, .t 17],
 gf 19 15 (.un .not) [.t 18],
 ii 20 .pick [.t 15, .c (.p (.bool true)), .t 19],
 mv 21 20,
 gf 22 21 (.fad 3) [.t 5],
 gf 23 21 (.load 1 false false) [.t 22],
 gf 24 21 .len [.t 23],
 gf 25 21 (.bin .gtr) [.t 24, .c (.p (.int .i64 0))],
 ii 26 .pick [.t 21, .c (.p (.bool true)), .t 25],
 mv 27 26,
 gf 28 27 (.mov false) [.t 1],
 gf 29 27 .len [.t 28],
 gf 30 27 (.fad 0) [.t 3],
 gf 31 27 (.load 1 false false) [.t 30],
 gf 32 27 (.bin .neq) [.t 29, .t 31],
 ii 33 .pick [.t 27, .c (.p (.bool true)), .t 32]])
 (.cond (.t 33)
 (.seq
 (.gp (.reg [⟨some 34, none, .build [.int .i64 0, .sl 4 true []] [], []⟩,
 ⟨none, none, .store 2, [.t 6, .t 34]⟩,
 mc 7 (.bool false)]) (.lay 2 2))
 .ret)
 .skip))
 (.seq
 (.seq
 (.reg [mv 35 1,
 ii 36 .len [.t 35],
 ii 37 (.mov false) [.c (.p (.int .i64 0))]])
 (.block 0
 (.loop [0, 2, 7, 8, 9, 10, 11, 12, 13, 14, 15, 16, 17, 18, 19, 20, 21, 22, 23, 24, 25, 26, 27, 28, 29, 30, 31, 32, 33, 34, 35, 38, 39, 40, 41, 42, 43, 44, 45, 46, 47, 48, 49, 50, 51, 52, 53, 54, 55, 56, 57, 58, 59, 60, 61] [3]
 (.seq
 (.reg [b2 38 .lss 37 36])
 (.seq
 (.cond (.t 38)
 .skip
 (.exit 0))
 (.seq
 (.block 1
 (.seq
 (.reg [mv 39 37,
 mt 8 39])
 (.seq
 (.reg [mv 40 1,
 ii 41 .len [.t 40],
 ii 42 (.mov false) [.c (.p (.int .i64 0))]])
 (.block 2
 (.loop [0, 2, 7, 9, 10, 11, 12, 13, 14, 15, 16, 17, 18, 19, 20, 21, 22, 23, 24, 25, 26, 27, 28, 29, 30, 31, 32, 33, 34, 35, 38, 39, 40, 43, 44, 45, 46, 47, 48, 49, 50, 51, 52, 53, 54, 55, 56, 57, 58, 59, 60, 61] [3]
 (.seq
 (.reg [b2 43 .lss 42 41])
 (.seq
 (.cond (.t 43)
 .skip
 (.exit 2))
 (.seq
 (.block 3
 (.seq
 (.reg [mv 44 42,
 mt 9 44])
 (.seq
 (.seq
 (.reg [mv 45 8,
 mv 46 9,
 b2 47 .eql 45 46])
 (.cond (.t 47)
 (.exit 3)
 .skip))
 (.seq
 (.gp (.reg [ii 49 (.load 5 true false) [.t 3],
 mv 50 1,
 ii 51 (.load 4 true false) [.t 5],
 mv 52 8,
 mv 53 9,
 ii 54 (.call 85) [.t 49, .t 50, .t 51, .t 52, .t 53],
 mv 48 54,
 ii 55 (.ext 0) [.t 48],
 ii 56 (.ext 1) [.t 48],
 ⟨some 10, none, .alloc 3 2 [.p (.int .i64 0), .ow 4 true []], []⟩,
 ⟨none, none, .store 2, [.t 10, .t 55]⟩,
 mt 11 56]) (.lay 3 2))
 (.seq
 (.reg [mv 57 11])
 (.cond (.t 57)
 (.seq
 (.gp (.reg [ii 58 (.load 2 true false) [.t 10],
 ⟨none, none, .store 2, [.t 6, .t 58]⟩,
 mc 7 (.bool true)]) (.lay 2 2))
 .ret)
 .skip))))))
 (.reg [b1 59 .add 42 (.int .i64 1),
 mv 42 59])))))))))
 (.reg [b1 60 .add 37 (.int .i64 1),
 mv 37 60])))))))
 (.seq
 (.gp (.reg [⟨some 61, none, .build [.int .i64 0, .sl 4 true []] [], []⟩,
 ⟨none, none, .store 2, [.t 6, .t 61]⟩,
 mc 7 (.bool false)]) (.lay 2 2))
 .ret))))⟩
theorem k51 : chkF Tryz.prog 51 F51 = true := by kernel_rfl
def F186 : Fn := ⟨19, 2, [.tmp 2],
 (.seq
 (.reg [ii 1 (.box 0 2) [.t 0],
 mc 2 (.int .i64 0)])
 (.seq
 (.reg [mc 3 (.int .i64 0)])
 (.seq
 (.seq
 (.reg [fa 6 1 1,
 ld 7 6,
 ii 8 .len [.t 7],
 ii 9 (.mov false) [.c (.p (.int .i64 0))]])
 (.block 0
 (.loop [0, 1, 2, 5, 6, 10, 11, 12, 13, 14, 15, 16, 17, 18] [1]
 (.seq
 (.reg [b2 10 .lss 9 8])
 (.seq
 (.cond (.t 10)
 .skip
 (.exit 0))
 (.seq
 (.block 1
 (.seq
 (.gp (.reg [ii 11 (.iad 4) [.t 7, .t 9],
 ii 12 (.load 4 true false) [.t 11],
 ⟨some 5, none, .alloc 1 4 [.p (.int .i64 0), .p (.int .i64 0), .p (.int .i64 0), .p (.int .i64 0)], []⟩,
 ⟨none, none, .store 4, [.t 5, .t 12]⟩]) (.lay 1 4))
 (.reg [mv 13 3,
 fa 14 3 5,
 ld 15 14,
 b2 16 .add 13 15,
 mt 3 16])))
 (.reg [b1 17 .add 9 (.int .i64 1),
 mv 9 17])))))))
 (.seq
 (.reg [mv 18 3,
 mt 2 18])
 .ret))))⟩
theorem k186 : chkF Tryz.prog 186 F186 = true := by kernel_rfl
def F187 : Fn := ⟨17, 2, [.tmp 4],
 (.seq
 (.reg [ii 2 (.box 0 2) [.t 0],
 ii 3 (.box 1 2) [.t 1],
 mc 4 (.bool false)])
 (.seq
 (.reg [fa 5 0 2,
 ld 6 5,
 fa 7 0 3,
 ld 8 7,
 b2 9 .eql 6 8,
 mv 10 9,
 gt 11 10 (.fad 1) [.t 2],
 gt 12 10 (.load 1 false false) [.t 11],
 gt 13 10 (.fad 1) [.t 3],
 gt 14 10 (.load 1 false false) [.t 13],
 gt 15 10 (.call 220) [.t 12, .t 14],
 ii 16 .pick [.t 10, .t 15, .c (.p (.bool false))],
 mt 4 16])
 .ret))⟩
theorem k187 : chkF Tryz.prog 187 F187 = true := by kernel_rfl
def F26 : Fn := ⟨31, 1, [.tmp 6],
 (.seq
 (.reg [ii 3 (.box 0 2) [.t 0],
 mc 6 (.int .i64 0)])
 (.seq
 (.seq
 (.reg [mv 7 1,
 b1 8 .lss 7 (.int .i64 0),
 mv 9 8,
 gf 10 9 (.mov false) [.t 1],
 gf 11 9 (.fad 1) [.t 3],
 gf 12 9 (.load 1 false false) [.t 11],
 gf 13 9 .len [.t 12],
 gf 14 9 (.bin .geq) [.t 10, .t 13],
 ii 15 .pick [.t 9, .c (.p (.bool true)), .t 14]])
 (.cond (.t 15)
 (.seq
 (.reg [mc 6 (.int .i64 0)])
 .ret)
 .skip))
 (.seq
 (.regd [mv 16 2,
 fa 17 1 3,
 ii 18 (.at 0 (.load 1 false false)) [.t 17],
 mv 19 1,
 ii 20 (.iad 4) [.t 18, .t 19],
 fa 21 1 20,
 ii 22 (.loadp 1 false) [.t 21],
 b2 23 .add 16 22,
 fa 24 1 3,
 ii 25 (.at 0 (.load 1 false false)) [.t 24],
 mv 26 1,
 ii 27 (.iad 4) [.t 25, .t 26],
 fa 28 2 27,
 ii 29 (.loadp 1 false) [.t 28],
 b2 30 .add 23 29,
 mt 6 30])
 .ret)))⟩
theorem k26 : chkF Tryz.prog 26 F26 = true := by kernel_rfl
def F184 : Fn := ⟨2, 0, [.tmp 0],
 (.seq
 (.reg [mc 0 (.bool false)])
 (.seq
 (.reg [ii 1 (.call 217) [],
 mt 0 1])
 .ret))⟩
theorem k184 : chkF Tryz.prog 184 F184 = true := by kernel_rfl
def F138 : Fn := ⟨19, 0, [.tmp 4],
 (.seq
 (.reg [mc 4 (.int .i64 0)])
 (.seq
 (.seq
 (.reg [mv 6 0,
 ii 7 .len [.t 6],
 ii 8 (.mov false) [.c (.p (.int .i64 0))]])
 (.block 0
 (.loop [4, 5, 6, 9, 10, 11, 12, 13, 14, 15, 16, 17, 18] []
 (.seq
 (.reg [b2 9 .lss 8 7])
 (.seq
 (.cond (.t 9)
 .skip
 (.exit 0))
 (.seq
 (.block 1
 (.seq
 (.reg [mv 10 8,
 mt 5 10])
 (.seq
 (.reg [mv 11 1,
 mv 12 0,
 mv 13 5,
 ii 14 (.iad 1) [.t 12, .t 13],
 ld 15 14,
 ii 16 .callv [.t 11, .t 15]])
 (.cond (.t 16)
 (.seq
 (.reg [mv 17 5,
 mt 4 17])
 .ret)
 .skip))))
 (.reg [b1 18 .add 8 (.int .i64 1),
 mv 8 18])))))))
 (.seq
 (.reg [mc 4 (.int .i64 (-1))])
 .ret)))⟩
theorem k138 : chkF Tryz.prog 138 F138 = true := by kernel_rfl
def F139 : Fn := ⟨10, 0, [.tmp 3],
 (.seq
 (.reg [mc 3 (.bool false)])
 (.seq
 (.regd [mv 4 0,
 ii 5 (.pl (.call 137)) [.t 4],
 ii 6 (.loadp 3 true) [.t 1],
 ii 7 (.bsl 3 1) [.t 6],
 ii 8 (.pl (.app 3 24)) [.t 5, .t 7],
 ii 9 (.pl (.call 136)) [.t 8],
 mt 3 9])
 .ret))⟩
theorem k139 : chkF Tryz.prog 139 F139 = true := by kernel_rfl
def F136 : Fn := ⟨22, 0, [.tmp 2],
 (.seq
 (.reg [mc 2 (.bool false)])
 (.seq
 (.reg [mv 8 0,
 ii 9 (.call 174) [.t 8],
 mv 7 9,
 ii 10 (.ext 0) [.t 7],
 ii 11 (.ext 1) [.t 7],
 mt 3 10,
 mt 4 11])
 (.seq
 (.reg [mv 13 0,
 ii 14 (.call 175) [.t 13],
 mv 12 14,
 ii 15 (.ext 0) [.t 12],
 ii 16 (.ext 1) [.t 12],
 mt 5 15,
 mt 6 16])
 (.seq
 (.reg [mv 17 4,
 mv 18 17,
 gt 19 18 (.mov false) [.t 6],
 gt 20 18 (.un .not) [.t 19],
 ii 21 .pick [.t 18, .t 20, .c (.p (.bool false))],
 mt 2 21])
 .ret))))⟩
theorem k136 : chkF Tryz.prog 136 F136 = true := by kernel_rfl
def F137 : Fn := ⟨8, 0, [.tmp 2],
 (.seq
 (.reg [ii 2 (.mov true) [.c (.ow 3 true [])]])
 (.seq
 (.seq
 (.reg [mv 3 0,
 ii 4 (.eqnil false) [.t 3, .c (.ow 3 true [])]])
 (.cond (.t 4)
 (.seq
 (.reg [ii 2 (.mov true) [.c (.ow 3 true [])]])
 .ret)
 .skip))
 (.seq
 (.reg [ii 5 (.bsl 3 0) [],
 mv 6 0,
 ii 7 (.app 3 24) [.t 5, .t 6],
 mt 2 7])
 .ret)))⟩
theorem k137 : chkF Tryz.prog 137 F137 = true := by kernel_rfl
def F80 : Fn := ⟨38, 1, [.tmp 2],
 (.seq
 (.reg [ii 1 (.box 0 5) [.t 0],
 mc 2 (.bool false)])
 (.seq
 (.seq
 (.reg [fa 4 0 1,
 ld 5 4,
 ii 6 (.call 126) [.t 5, .c (.p (.int .i64 1)), .c (.p (.int .i64 6))],
 ii 7 (.un .not) [.t 6],
 mv 8 7,
 gf 9 8 (.fad 1) [.t 1],
 gf 10 8 (.load 1 false false) [.t 9],
 gf 11 8 (.call 126) [.t 10, .c (.p (.int .i64 0)), .c (.p (.int .i64 3))],
 gf 12 8 (.un .not) [.t 11],
 ii 13 .pick [.t 8, .c (.p (.bool true)), .t 12],
 mv 14 13,
 gf 15 14 (.fad 2) [.t 1],
 gf 16 14 (.load 1 false false) [.t 15],
 gf 17 14 (.call 126) [.t 16, .c (.p (.int .i64 0)), .c (.p (.int .i64 5))],
 gf 18 14 (.un .not) [.t 17],
 ii 19 .pick [.t 14, .c (.p (.bool true)), .t 18],
 mv 20 19,
 gf 21 20 (.fad 3) [.t 1],
 gf 22 20 (.load 1 false false) [.t 21],
 gf 23 20 (.call 126) [.t 22, .c (.p (.int .i64 0)), .c (.p (.int .i64 5))],
 gf 24 20 (.un .not) [.t 23],
 ii 25 .pick [.t 20, .c (.p (.bool true)), .t 24]])
 (.cond (.t 25)
 (.seq
 (.reg [mc 2 (.bool false)])
 .ret)
 .skip))
 (.seq
 (.pre [] [0] [] (.reg [ii 26 (.mkfn 127) [.t 1],
 mt 3 26]))
 (.seq
 (.reg [fa 27 4 1,
 ld 28 27,
 ii 29 .len [.t 28],
 b1 30 .leq 29 (.int .i64 6),
 mv 31 30,
 gt 32 31 (.fad 4) [.t 1],
 gt 33 31 (.load 1 false false) [.t 32],
 gt 34 31 (.mov false) [.t 3],
 gt 35 31 (.call 128) [.t 33, .t 34],
 gt 36 31 (.un .not) [.t 35],
 ii 37 .pick [.t 31, .t 36, .c (.p (.bool false))],
 mt 2 37])
 .ret))))⟩
theorem k80 : chkF Tryz.prog 80 F80 = true := by kernel_rfl
def F81 : Fn := ⟨76, 3, [.tmp 4],
 (.seq
 (.reg [ii 2 (.box 0 5) [.t 0],
 ii 3 (.box 1 4) [.t 1],
 mc 4 (.bool false)])
 (.seq
 (.seq
 (.reg [fa 8 0 3,
 ld 9 8,
 b1 10 .lss 9 (.int .i64 1),
 mv 11 10,
 gf 12 11 (.fad 0) [.t 3],
 gf 13 11 (.load 1 false false) [.t 12],
 gf 14 11 (.fad 1) [.t 3],
 gf 15 11 (.load 1 false false) [.t 14],
 gf 16 11 (.bin .gtr) [.t 13, .t 15],
 ii 17 .pick [.t 11, .c (.p (.bool true)), .t 16],
 mv 18 17,
 gf 19 18 (.fad 1) [.t 3],
 gf 20 18 (.load 1 false false) [.t 19],
 gf 21 18 (.fad 2) [.t 3],
 gf 22 18 (.load 1 false false) [.t 21],
 gf 23 18 (.bin .gtr) [.t 20, .t 22],
 ii 24 .pick [.t 18, .c (.p (.bool true)), .t 23],
 mv 25 24,
 gf 26 25 (.fad 2) [.t 3],
 gf 27 25 (.load 1 false false) [.t 26],
 gf 28 25 (.bin .gtr) [.t 27, .c (.p (.int .i64 200))],
 ii 29 .pick [.t 25, .c (.p (.bool true)), .t 28],
 mv 30 29,
 gf 31 30 (.fad 3) [.t 3],
 gf 32 30 (.load 1 false false) [.t 31],
 gf 33 30 .len [.t 32],
 gf 34 30 (.bin .gtr) [.t 33, .c (.p (.int .i64 2))],
 ii 35 .pick [.t 30, .c (.p (.bool true)), .t 34]])
 (.cond (.t 35)
 (.seq
 (.reg [mc 4 (.bool false)])
 .ret)
 .skip))
 (.seq
 (.reg [mc 5 (.int .i64 0)])
 (.seq
 (.seq
 (.reg [fa 36 3 3,
 ld 37 36,
 ii 38 .len [.t 37],
 ii 39 (.mov false) [.c (.p (.int .i64 0))]])
 (.block 0
 (.loop [0, 1, 4, 7, 8, 9, 10, 11, 12, 13, 14, 15, 16, 17, 18, 19, 20, 21, 22, 23, 24, 25, 26, 27, 28, 29, 30, 31, 32, 33, 34, 35, 36, 40, 41, 42, 43, 44, 45, 46, 47, 48, 49, 50, 51, 52, 53, 54, 55, 56, 57, 58, 59, 60, 61, 62, 63, 64, 65, 66, 67, 68, 69, 70, 71, 72, 73, 74, 75] [2]
 (.seq
 (.reg [b2 40 .lss 39 38])
 (.seq
 (.cond (.t 40)
 .skip
 (.exit 0))
 (.seq
 (.block 1
 (.seq
 (.gp (.reg [ii 41 (.iad 3) [.t 37, .t 39],
 ii 42 (.load 3 true false) [.t 41],
 ⟨some 7, none, .alloc 2 3 [.p (.int .i64 0), .p (.int .i64 0), .p (.int .i64 0)], []⟩,
 ⟨none, none, .store 3, [.t 7, .t 42]⟩]) (.lay 2 3))
 (.seq
 (.seq
 (.reg [fa 43 0 7,
 ld 44 43,
 b1 45 .lss 44 (.int .i64 0),
 mv 46 45,
 gf 47 46 (.fad 0) [.t 7],
 gf 48 46 (.load 1 false false) [.t 47],
 gf 49 46 (.fad 4) [.t 2],
 gf 50 46 (.load 1 false false) [.t 49],
 gf 51 46 .len [.t 50],
 gf 52 46 (.bin .geq) [.t 48, .t 51],
 ii 53 .pick [.t 46, .c (.p (.bool true)), .t 52],
 mv 54 53,
 gf 55 54 (.fad 2) [.t 7],
 gf 56 54 (.load 1 false false) [.t 55],
 gf 57 54 (.call 126) [.t 56, .c (.p (.int .i64 1)), .c (.p (.int .i64 200))],
 gf 58 54 (.un .not) [.t 57],
 ii 59 .pick [.t 54, .c (.p (.bool true)), .t 58],
 mv 60 59,
 gf 61 60 (.fad 1) [.t 7],
 gf 62 60 (.load 1 false false) [.t 61],
 gf 63 60 (.mov false) [.t 5],
 gf 64 60 (.bin .leq) [.t 62, .t 63],
 ii 65 .pick [.t 60, .c (.p (.bool true)), .t 64],
 mv 66 65,
 gf 67 66 (.fad 1) [.t 7],
 gf 68 66 (.load 1 false false) [.t 67],
 gf 69 66 (.fad 0) [.t 3],
 gf 70 66 (.load 1 false false) [.t 69],
 gf 71 66 (.bin .geq) [.t 68, .t 70],
 ii 72 .pick [.t 66, .c (.p (.bool true)), .t 71]])
 (.cond (.t 72)
 (.seq
 (.reg [mc 4 (.bool false)])
 .ret)
 .skip))
 (.reg [fa 73 1 7,
 ld 74 73,
 mt 5 74]))))
 (.reg [b1 75 .add 39 (.int .i64 1),
 mv 39 75])))))))
 (.seq
 (.reg [mc 4 (.bool true)])
 .ret)))))⟩
theorem k81 : chkF Tryz.prog 81 F81 = true := by kernel_rfl
def F218 : Fn := ⟨30, 4, [.tmp 4],
 (.seq
 (.reg [ii 2 (.box 0 5) [.t 0],
 ii 3 (.box 1 2) [.t 1],
 mc 4 (.bool false)])
 (.seq
 (.reg [ii 8 (.mkmap 2) [],
 mt 5 8])
 (.seq
 (.seq
 (.reg [fa 9 1 3,
 ld 10 9,
 ii 11 .len [.t 10],
 ii 12 (.mov false) [.c (.p (.int .i64 0))]])
 (.block 0
 (.loop [0, 1, 3, 4, 7, 8, 9, 13, 14, 15, 16, 17, 18, 19, 20, 21, 22, 23, 24, 25, 26, 27, 28, 29] [3]
 (.seq
 (.reg [b2 13 .lss 12 11])
 (.seq
 (.cond (.t 13)
 .skip
 (.exit 0))
 (.seq
 (.block 1
 (.seq
 (.gp (.reg [ii 14 (.iad 4) [.t 10, .t 12],
 ii 15 (.load 4 true false) [.t 14],
 ⟨some 7, none, .alloc 3 4 [.p (.int .i64 0), .p (.int .i64 0), .p (.int .i64 0), .p (.int .i64 0)], []⟩,
 ⟨none, none, .store 4, [.t 7, .t 15]⟩]) (.lay 3 4))
 (.seq
 (.seq
 (.reg [ii 16 (.load 5 true false) [.t 2],
 ii 17 (.load 4 true false) [.t 7],
 ii 18 (.call 242) [.t 16, .t 17],
 ii 19 (.un .not) [.t 18],
 mv 20 19,
 gf 21 20 (.mov false) [.t 5],
 gf 22 20 (.fad 0) [.t 7],
 gf 23 20 (.load 1 false false) [.t 22],
 gf 24 20 (.look .i64 (.bool false)) [.t 21, .t 23],
 ii 25 .pick [.t 20, .c (.p (.bool true)), .t 24]])
 (.cond (.t 25)
 (.seq
 (.reg [mc 4 (.bool false)])
 .ret)
 .skip))
 (.reg [mv 26 5,
 fa 27 0 7,
 ld 28 27,
 ⟨none, none, .mupd .i64, [.t 26, .t 28, .c (.p (.bool true))]⟩]))))
 (.reg [b1 29 .add 12 (.int .i64 1),
 mv 12 29])))))))
 (.seq
 (.reg [mc 4 (.bool true)])
 .ret))))⟩
theorem k218 : chkF Tryz.prog 218 F218 = true := by kernel_rfl
def F219 : Fn := ⟨92, 6, [.tmp 6],
 (.seq
 (.reg [ii 3 (.box 0 5) [.t 0],
 ii 4 (.box 1 4) [.t 1],
 ii 5 (.box 2 2) [.t 2],
 mc 6 (.bool false)])
 (.seq
 (.reg [fa 12 1 5,
 ld 13 12,
 ii 14 .len [.t 13],
 mt 7 14])
 (.seq
 (.seq
 (.reg [fa 15 3 4,
 ld 16 15,
 ii 17 .len [.t 16],
 b1 18 .gtr 17 (.int .i64 0),
 mv 19 18,
 gf 20 19 (.mov false) [.t 7],
 gf 21 19 (.bin .lss) [.t 20, .c (.p (.int .i64 2))],
 ii 22 .pick [.t 19, .c (.p (.bool true)), .t 21],
 mv 23 22,
 gf 24 23 (.fad 1) [.t 5],
 gf 25 23 (.load 1 false false) [.t 24],
 gf 26 23 (.iad 4) [.t 25, .c (.p (.int .i64 0))],
 gf 27 23 (.fad 1) [.t 26],
 gf 28 23 (.load 1 false false) [.t 27],
 gf 29 23 (.bin .neq) [.t 28, .c (.p (.int .i64 0))],
 ii 30 .pick [.t 23, .c (.p (.bool true)), .t 29]])
 (.cond (.t 30)
 (.seq
 (.reg [mc 6 (.bool false)])
 .ret)
 .skip))
 (.seq
 (.seq
 (.reg [mc 8 (.int .i64 1)])
 (.block 0
 (.loop [0, 1, 2, 6, 9, 10, 11, 12, 13, 14, 15, 16, 17, 18, 19, 20, 21, 22, 23, 24, 25, 26, 27, 28, 29, 30, 31, 32, 33, 34, 35, 36, 37, 38, 39, 40, 41, 42, 43, 44, 45, 46, 47, 48, 49, 50, 51, 52, 53, 54, 55, 56, 57, 58, 59, 60, 61, 62, 63, 64, 65, 66, 67, 68, 69, 70, 71, 72, 73, 74, 75, 76, 77, 78, 79, 80, 81, 82, 83, 84, 85, 86, 87, 88, 89, 90, 91] [3, 4]
 (.seq
 (.seq
 (.reg [mv 31 8,
 mv 32 7,
 b2 33 .lss 31 32])
 (.cond (.t 33)
 .skip
 (.exit 0)))
 (.seq
 (.block 1
 (.seq
 (.gp (.gp (.pre [9, 10, 47, 49, 51, 59] [] [3, 4] (.rega [fa 36 1 5,
 ii 37 (.at 2 (.load 1 false false)) [.t 36],
 mv 38 8,
 b1 39 .sub 38 (.int .i64 1),
 ii 40 (.iad 4) [.t 37, .t 39],
 ii 41 (.loadp 4 true) [.t 40],
 fa 42 1 5,
 ii 43 (.at 2 (.load 1 false false)) [.t 42],
 mv 44 8,
 ii 45 (.iad 4) [.t 43, .t 44],
 ii 46 (.loadp 4 true) [.t 45],
 ⟨some 9, none, .alloc 3 4 [.p (.int .i64 0), .p (.int .i64 0), .p (.int .i64 0), .p (.int .i64 0)], []⟩,
 ⟨some 10, none, .alloc 4 4 [.p (.int .i64 0), .p (.int .i64 0), .p (.int .i64 0), .p (.int .i64 0)], []⟩,
 ⟨none, none, .at 3 (.store 4), [.t 9, .t 41]⟩,
 ⟨none, none, .at 4 (.store 4), [.t 10, .t 46]⟩])) (.lay 3 4)) (.lay 4 4))
 (.seq
 (.reg [fa 47 1 10,
 ld 48 47,
 fa 49 1 9,
 ld 50 49,
 fa 51 2 9,
 ld 52 51,
 b2 53 .add 50 52,
 fa 54 2 3,
 ld 55 54,
 b2 56 .add 53 55,
 b2 57 .lss 48 56,
 mv 58 57,
 gf 59 58 (.fad 3) [.t 10],
 gf 60 58 (.load 1 false false) [.t 59],
 gf 61 58 (.fad 3) [.t 3],
 gf 62 58 (.load 1 false false) [.t 61],
 gf 63 58 (.bin .leq) [.t 60, .t 62],
 ii 64 .pick [.t 58, .c (.p (.bool true)), .t 63]])
 (.cond (.t 64)
 (.seq
 (.reg [mc 6 (.bool false)])
 .ret)
 .skip))))
 (.reg [mv 34 8,
 b1 35 .add 34 (.int .i64 1),
 mt 8 35]))))))
 (.seq
 (.gp (.reg [fa 65 1 5,
 ld 66 65,
 mv 67 7,
 b1 68 .sub 67 (.int .i64 1),
 ii 69 (.iad 4) [.t 66, .t 68],
 ii 70 (.load 4 true false) [.t 69],
 ⟨some 11, none, .alloc 5 4 [.p (.int .i64 0), .p (.int .i64 0), .p (.int .i64 0), .p (.int .i64 0)], []⟩,
 ⟨none, none, .store 4, [.t 11, .t 70]⟩]) (.lay 5 4))
 (.seq
 (.regd [fa 71 1 11,
 ii 72 (.at 5 (.load 1 false false)) [.t 71],
 fa 73 2 11,
 ii 74 (.at 5 (.load 1 false false)) [.t 73],
 b2 75 .add 72 74,
 fa 76 1 4,
 ii 77 (.at 1 (.load 1 false false)) [.t 76],
 b2 78 .leq 75 77,
 mv 79 78,
 gt 80 79 (.at 2 (.load 2 true false)) [.t 5],
 gt 81 79 (.pl (.call 186)) [.t 80],
 gt 82 79 (.fad 0) [.t 4],
 gt 83 79 (.at 1 (.load 1 false false)) [.t 82],
 gt 84 79 (.mov false) [.t 7],
 gt 85 79 (.bin .sub) [.t 84, .c (.p (.int .i64 1))],
 gt 86 79 (.fad 3) [.t 3],
 gt 87 79 (.at 0 (.load 1 false false)) [.t 86],
 gt 88 79 (.bin .mul) [.t 85, .t 87],
 gt 89 79 (.bin .add) [.t 83, .t 88],
 gt 90 79 (.bin .eql) [.t 81, .t 89],
 ii 91 .pick [.t 79, .t 90, .c (.p (.bool false))],
 mt 6 91])
 .ret))))))⟩
theorem k219 : chkF Tryz.prog 219 F219 = true := by kernel_rfl
def F83 : Fn := ⟨65, 3, [.tmp 8, .tmp 9],
 (.seq
 (.reg [ii 4 (.box 0 5) [.t 0],
 ii 5 (.box 1 4) [.t 1],
 ii 8 (.mov true) [.c (.ow 4 true [])],
 mc 9 (.bool false)])
 (.seq
 (.reg [ii 10 (.mov true) [.c (.ow 4 true [])]])
 (.seq
 (.reg [fa 16 0 5,
 ld 17 16,
 mt 11 17])
 (.seq
 (.seq
 (.reg [mv 18 3,
 ii 19 .len [.t 18],
 ii 20 (.mov false) [.c (.p (.int .i64 0))]])
 (.block 0
 (.loop [0, 1, 3, 5, 8, 9, 12, 13, 14, 15, 16, 17, 21, 22, 23, 24, 25, 26, 27, 28, 29, 30, 31, 32, 33, 34, 35, 36, 37, 38, 39, 40, 41, 42, 43, 44, 45, 46, 47, 48, 49, 50, 51, 52, 53, 54, 55, 56, 57, 58, 59, 60, 61, 62, 63, 64] [2]
 (.seq
 (.reg [b2 21 .lss 20 19])
 (.seq
 (.cond (.t 21)
 .skip
 (.exit 0))
 (.seq
 (.block 1
 (.seq
 (.gp (.reg [mv 22 20,
 ii 23 (.iad 2) [.t 18, .t 20],
 ii 24 (.load 2 true false) [.t 23],
 ⟨some 13, none, .alloc 2 2 [.p (.int .i64 0), .p (.int .i64 0)], []⟩,
 mt 12 22,
 ⟨none, none, .store 2, [.t 13, .t 24]⟩]) (.lay 2 2))
 (.seq
 (.seq
 (.reg [mv 25 11,
 b1 26 .eql 25 (.int .i64 0)])
 (.cond (.t 26)
 (.exit 0)
 .skip))
 (.seq
 (.reg [fa 27 3 4,
 ld 28 27,
 mt 14 28])
 (.seq
 (.seq
 (.reg [mv 29 12,
 b1 30 .eql 29 (.int .i64 0)])
 (.cond (.t 30)
 (.reg [mc 14 (.int .i64 0)])
 .skip))
 (.seq
 (.reg [fa 31 1 13,
 ld 32 31,
 mv 33 14,
 b2 34 .sub 32 33,
 mv 35 11,
 ii 36 .mn [.t 34, .t 35],
 mt 15 36])
 (.seq
 (.reg [mt 37 10,
 fa 38 0 13,
 ld 39 38,
 mv 40 12,
 mv 41 2,
 fa 42 2 4,
 ld 43 42,
 b2 44 .add 41 43,
 b2 45 .mul 40 44,
 mv 46 2,
 mv 47 14,
 mv 48 15,
 b2 49 .add 47 48,
 ⟨some 50, none, .build [.int .i64 0, .int .i64 0, .int .i64 0, .int .i64 0] [(0, 1), (1, 1), (2, 1), (3, 1)], [.t 39, .t 45, .t 46, .t 49]⟩,
 ii 51 (.bsl 4 1) [.t 50],
 ii 52 (.app 4 32) [.t 37, .t 51],
 mt 10 52])
 (.reg [mv 53 11,
 mv 54 15,
 b2 55 .sub 53 54,
 mt 11 55]))))))))
 (.reg [b1 56 .add 20 (.int .i64 1),
 mv 20 56])))))))
 (.seq
 (.reg [mv 57 10,
 mv 58 11,
 b1 59 .eql 58 (.int .i64 0),
 mv 60 59,
 gt 61 60 (.mov false) [.t 10],
 gt 62 60 .len [.t 61],
 gt 63 60 (.bin .gtr) [.t 62, .c (.p (.int .i64 1))],
 ii 64 .pick [.t 60, .t 63, .c (.p (.bool false))],
 mt 8 57,
 mt 9 64])
 .ret)))))⟩
theorem k83 : chkF Tryz.prog 83 F83 = true := by kernel_rfl
def F84 : Fn := ⟨51, 3, [.tmp 10],
 (.seq
 (.reg [ii 5 (.box 0 5) [.t 0],
 ii 7 (.box 1 4) [.t 2],
 ii 10 (.mov true) [.c (.ow 2 true [])]])
 (.seq
 (.reg [ii 11 (.mov true) [.c (.ow 2 true [])]])
 (.seq
 (.seq
 (.reg [mv 15 1,
 ii 16 .len [.t 15],
 ii 17 (.mov false) [.c (.p (.int .i64 0))]])
 (.block 0
 (.loop [0, 1, 2, 10, 12, 13, 14, 18, 19, 20, 21, 22, 23, 24, 25, 26, 27, 28, 29, 30, 31, 32, 33, 34, 35, 36, 37, 38, 39, 40, 41, 42, 43, 44, 45, 46, 47, 48, 49, 50] []
 (.seq
 (.reg [b2 18 .lss 17 16])
 (.seq
 (.cond (.t 18)
 .skip
 (.exit 0))
 (.seq
 (.block 1
 (.seq
 (.reg [mv 19 17,
 ii 20 (.iad 1) [.t 15, .t 17],
 ld 21 20,
 mt 12 19,
 mt 13 21])
 (.seq
 (.reg [mv 22 13,
 mv 23 4,
 fa 24 2 7,
 ld 25 24,
 mv 26 4,
 ii 27 (.call 130) [.t 22, .t 23, .t 25, .t 26],
 mt 14 27])
 (.seq
 (.reg [mv 28 14,
 fa 29 3 5,
 ld 30 29,
 b2 31 .gtr 28 30])
 (.cond (.t 31)
 (.reg [mt 32 11,
 mv 33 12,
 mv 34 14,
 ⟨some 35, none, .build [.int .i64 0, .int .i64 0] [(0, 1), (1, 1)], [.t 33, .t 34]⟩,
 ii 36 (.bsl 2 1) [.t 35],
 ii 37 (.app 2 16) [.t 32, .t 36],
 mt 11 37])
 .skip)))))
 (.reg [b1 38 .add 17 (.int .i64 1),
 mv 17 38])))))))
 (.seq
 (.seq
 (.reg [mv 39 11,
 ii 40 .len [.t 39],
 mv 41 3,
 b2 42 .lss 40 41])
 (.cond (.t 42)
 (.seq
 (.reg [ii 10 (.mov true) [.c (.ow 2 true [])]])
 .ret)
 .skip))
 (.seq
 (.pre [0, 1, 2, 4, 5, 7, 10, 12, 13, 14, 15, 16, 17, 18, 19, 20, 21, 22, 23, 24, 25, 26, 27, 28, 29, 30, 31, 32, 33, 34, 35, 36, 37, 38, 39, 40, 41, 42, 43, 44, 45, 46, 47, 48, 49, 50] [] [0, 1] (.own 11 2 true (.reg [mv 43 11,
 ii 44 (.callm 131 2) [.t 43, .c (.p (.fn 132 []))]])))
 (.seq
 (.reg [mv 45 11,
 mv 46 3,
 ii 47 (.slb 2 2) [.t 45, .t 46],
 mt 11 47])
 (.seq
 (.reg [mv 48 11,
 ii 49 (.callm 133 2) [.t 48, .c (.p (.fn 134 []))]])
 (.seq
 (.reg [mv 50 11,
 mt 10 50])
 (.pre [] [2] [] .ret)))))))))⟩
theorem k84 : chkF Tryz.prog 84 F84 = true := by kernel_rfl
def F129 : Fn := ⟨18, 0, [.tmp 4],
 (.seq
 (.reg [mc 4 (.int .i64 0)])
 (.seq
 (.seq
 (.reg [mv 6 1,
 b1 7 .leq 6 (.int .i64 0)])
 (.cond (.t 7)
 (.seq
 (.reg [mc 4 (.int .i64 0)])
 .ret)
 .skip))
 (.seq
 (.reg [mv 8 0,
 mv 9 1,
 b2 10 .quo 8 9,
 mt 5 10])
 (.seq
 (.seq
 (.reg [mv 11 0,
 mv 12 1,
 b2 13 .rem 11 12,
 b1 14 .lss 13 (.int .i64 0)])
 (.cond (.t 14)
 (.reg [mv 15 5,
 b1 16 .sub 15 (.int .i64 1),
 mt 5 16])
 .skip))
 (.seq
 (.reg [mv 17 5,
 mt 4 17])
 .ret)))))⟩
theorem k129 : chkF Tryz.prog 129 F129 = true := by kernel_rfl
def F85 : Fn := ⟨77, 3, [.cell 10 2, .tmp 11],
 (.seq
 (.reg [ii 5 (.box 0 5) [.t 0],
 ii 7 (.box 1 4) [.t 2],
 ⟨some 10, none, .alloc 2 2 [.p (.int .i64 0), .ow 4 true []], []⟩,
 mc 11 (.bool false)])
 (.seq
 (.regd [mv 15 1,
 mv 16 3,
 ii 17 (.iad 1) [.t 15, .t 16],
 ii 18 (.loadp 1 false) [.t 17],
 fa 19 2 7,
 ii 20 (.at 1 (.load 1 false false)) [.t 19],
 fa 21 0 7,
 ii 22 (.at 1 (.load 1 false false)) [.t 21],
 b1 23 .sub 22 (.int .i64 1),
 ii 24 (.pl (.call 135)) [.t 18, .t 20, .t 23],
 mt 12 24])
 (.seq
 (.regd [fa 25 0 7,
 ii 26 (.at 1 (.load 1 false false)) [.t 25],
 mv 27 12,
 b2 28 .sub 26 27,
 fa 29 3 5,
 ii 30 (.at 0 (.load 1 false false)) [.t 29],
 b2 31 .add 28 30,
 fa 32 1 7,
 ii 33 (.at 1 (.load 1 false false)) [.t 32],
 mv 34 12,
 b2 35 .sub 33 34,
 fa 36 2 5,
 ii 37 (.at 0 (.load 1 false false)) [.t 36],
 b2 38 .sub 35 37,
 mt 13 31,
 mt 14 38])
 (.seq
 (.seq
 (.regd [mv 39 12,
 b1 40 .lss 39 (.int .i64 1),
 mv 41 40,
 gf 42 41 (.mov false) [.t 13],
 gf 43 41 (.mov false) [.t 14],
 gf 44 41 (.bin .gtr) [.t 42, .t 43],
 ii 45 .pick [.t 41, .c (.p (.bool true)), .t 44],
 mv 46 45,
 gf 47 46 (.mov false) [.t 1],
 gf 48 46 (.mov false) [.t 4],
 gf 49 46 (.iad 1) [.t 47, .t 48],
 gf 50 46 (.loadp 1 false) [.t 49],
 gf 51 46 (.pl (.call 137)) [.t 50],
 gf 52 46 (.mov false) [.t 13],
 gf 53 46 (.mov false) [.t 14],
 gf 54 46 (.fad 2) [.t 7],
 gf 55 46 (.at 1 (.load 1 false false)) [.t 54],
 ⟨some 56, (some (46, false)), .build [.int .i64 0, .int .i64 0, .int .i64 0] [(0, 1), (1, 1), (2, 1)], [.t 52, .t 53, .t 55]⟩,
 gf 57 46 (.bsl 3 1) [.t 56],
 gf 58 46 (.pl (.app 3 24)) [.t 51, .t 57],
 gf 59 46 (.pl (.call 136)) [.t 58],
 gf 60 46 (.un .not) [.t 59],
 ii 61 .pick [.t 46, .c (.p (.bool true)), .t 60]])
 (.cond (.t 61)
 (.seq
 (.gp (.reg [⟨some 62, none, .build [.int .i64 0, .sl 4 true []] [], []⟩,
 ⟨none, none, .store 2, [.t 10, .t 62]⟩,
 mc 11 (.bool false)]) (.lay 2 2))
 .ret)
 .skip))
 (.seq
 (.gp (.reg [mv 63 3,
 mv 64 12,
 mv 65 12,
 ⟨some 66, none, .build [.int .i64 0, .int .i64 0, .int .i64 0, .int .i64 0] [(0, 1), (2, 1), (3, 1)], [.t 63, .t 64, .t 65]⟩,
 mv 67 4,
 mv 68 12,
 fa 69 2 5,
 ld 70 69,
 b2 71 .add 68 70,
 mv 72 14,
 mv 73 13,
 ⟨some 74, none, .build [.int .i64 0, .int .i64 0, .int .i64 0, .int .i64 0] [(0, 1), (1, 1), (2, 1), (3, 1)], [.t 67, .t 71, .t 72, .t 73]⟩,
 ii 75 (.bsl 4 2) [.t 66, .t 74],
 ⟨some 76, none, .build [.int .i64 0, .sl 4 true []] [(0, 1), (1, 1)], [.c (.p (.int .i64 3)), .t 75]⟩,
 ⟨none, none, .store 2, [.t 10, .t 76]⟩,
 mc 11 (.bool true)]) (.lay 2 2))
 .ret)))))⟩
theorem k85 : chkF Tryz.prog 85 F85 = true := by kernel_rfl
def F220 : Fn := ⟨26, 0, [.tmp 4],
 (.seq
 (.reg [mc 4 (.bool false)])
 (.seq
 (.seq
 (.reg [mv 6 0,
 ii 7 .len [.t 6],
 mv 8 1,
 ii 9 .len [.t 8],
 b2 10 .neq 7 9])
 (.cond (.t 10)
 (.seq
 (.reg [mc 4 (.bool false)])
 .ret)
 .skip))
 (.seq
 (.seq
 (.reg [mv 11 0,
 ii 12 .len [.t 11],
 ii 13 (.mov false) [.c (.p (.int .i64 0))]])
 (.block 0
 (.loop [4, 5, 6, 7, 8, 9, 10, 11, 14, 15, 16, 17, 18, 19, 20, 21, 22, 23, 24, 25] []
 (.seq
 (.reg [b2 14 .lss 13 12])
 (.seq
 (.cond (.t 14)
 .skip
 (.exit 0))
 (.seq
 (.block 1
 (.seq
 (.reg [mv 15 13,
 mt 5 15])
 (.seq
 (.regd [mv 16 0,
 mv 17 5,
 ii 18 (.iad 4) [.t 16, .t 17],
 ii 19 (.loadp 4 true) [.t 18],
 mv 20 1,
 mv 21 5,
 ii 22 (.iad 4) [.t 20, .t 21],
 ii 23 (.loadp 4 true) [.t 22],
 ii 24 (.eqs 4 true) [.t 19, .t 23]])
 (.cond (.t 24)
 (.seq
 (.reg [mc 4 (.bool false)])
 .ret)
 .skip))))
 (.reg [b1 25 .add 13 (.int .i64 1),
 mv 13 25])))))))
 (.seq
 (.reg [mc 4 (.bool true)])
 .ret))))⟩
theorem k220 : chkF Tryz.prog 220 F220 = true := by kernel_rfl
end Go.Proofs.YtnjphclbpgajpaaGreatDoor.Vc
namespace Go.Proofs.YtnjphclbpgajpaaGreatDoor.Vc
open Go.RowKit
def F217 : Fn := ⟨83, 4, [.tmp 0],
 (.seq
 (.reg [mc 0 (.bool false)])
 (.seq
 (.gp (.reg [ii 6 (.bsl 1 1) [.c (.p (.int .i64 0))],
 ⟨some 7, none, .build [.int .i64 0, .int .i64 0, .int .i64 0, .int .i64 0, .sl 1 true []] [(0, 1), (1, 1), (2, 1), (4, 1)], [.c (.p (.int .i64 2)), .c (.p (.int .i64 1)), .c (.p (.int .i64 1)), .t 6]⟩,
 ⟨some 1, none, .alloc 0 5 [.p (.int .i64 0), .p (.int .i64 0), .p (.int .i64 0), .p (.int .i64 0), .ow 1 true []], []⟩,
 ⟨none, none, .store 5, [.t 1, .t 7]⟩]) (.lay 0 5))
 (.seq
 (.gp (.reg [⟨some 8, none, .build [.int .i64 0, .int .i64 0, .int .i64 0] [(1, 1), (2, 1)], [.c (.p (.int .i64 1)), .c (.p (.int .i64 2))]⟩,
 ii 9 (.bsl 3 1) [.t 8],
 ⟨some 10, none, .build [.int .i64 0, .int .i64 0, .int .i64 0, .sl 3 true []] [(0, 1), (1, 1), (2, 1), (3, 1)], [.c (.p (.int .i64 3)), .c (.p (.int .i64 20)), .c (.p (.int .i64 20)), .t 9]⟩,
 ⟨some 2, none, .alloc 1 4 [.p (.int .i64 0), .p (.int .i64 0), .p (.int .i64 0), .ow 3 true []], []⟩,
 ⟨none, none, .store 4, [.t 2, .t 10]⟩]) (.lay 1 4))
 (.seq
 (.gp (.reg [⟨some 11, none, .build [.int .i64 0, .int .i64 0, .int .i64 0] [(1, 1), (2, 1)], [.c (.p (.int .i64 1)), .c (.p (.int .i64 4))]⟩,
 ii 12 (.bsl 3 1) [.t 11],
 ⟨some 13, none, .build [.int .i64 0, .int .i64 0, .int .i64 0, .sl 3 true []] [(0, 1), (1, 1), (2, 1), (3, 1)], [.c (.p (.int .i64 3)), .c (.p (.int .i64 20)), .c (.p (.int .i64 30)), .t 12]⟩,
 ⟨some 3, none, .alloc 2 4 [.p (.int .i64 0), .p (.int .i64 0), .p (.int .i64 0), .ow 3 true []], []⟩,
 ⟨none, none, .store 4, [.t 3, .t 13]⟩]) (.lay 2 4))
 (.seq
 (.gp (.reg [⟨some 14, none, .build [.int .i64 0, .int .i64 0, .int .i64 0, .int .i64 0] [(0, 1), (2, 1), (3, 1)], [.c (.p (.int .i64 1)), .c (.p (.int .i64 20)), .c (.p (.int .i64 3))]⟩,
 ii 15 (.bsl 4 1) [.t 14],
 ⟨some 16, none, .build [.int .i64 0, .sl 4 true []] [(0, 1), (1, 1)], [.c (.p (.int .i64 1)), .t 15]⟩,
 ⟨some 4, none, .alloc 3 2 [.p (.int .i64 0), .ow 4 true []], []⟩,
 ⟨none, none, .store 2, [.t 4, .t 16]⟩]) (.lay 3 2))
 (.seq
 (.reg [ii 17 (.load 5 true false) [.t 1],
 ii 18 (.load 4 true false) [.t 2],
 ii 19 (.load 4 true false) [.t 3],
 ii 20 (.bsl 4 2) [.t 18, .t 19],
 ii 21 (.load 2 true false) [.t 4],
 ii 22 (.load 2 true false) [.t 4],
 ii 23 (.bsl 2 2) [.t 21, .t 22],
 ii 24 (.call 154) [.t 17, .t 20, .t 23],
 mt 5 24])
 (.seq
 (.reg [ii 25 (.call 240) [],
 mv 26 25,
 gt 27 26 (.load 5 true false) [.t 1],
 gt 28 26 (.load 4 true false) [.t 3],
 gt 29 26 (.call 188) [.t 27, .t 28, .c (.p (.int .i64 0))],
 gt 30 26 (.bin .eql) [.t 29, .c (.p (.int .i64 4))],
 ii 31 .pick [.t 26, .t 30, .c (.p (.bool false))],
 mv 32 31,
 gt 33 32 (.load 5 true false) [.t 1],
 gt 34 32 (.load 4 true false) [.t 2],
 gt 35 32 (.load 4 true false) [.t 3],
 gt 36 32 (.bsl 4 2) [.t 34, .t 35],
 gt 37 32 (.call 158) [.t 33, .t 36, .c (.p (.int .i64 0)), .c (.p (.int .i64 0))],
 gt 38 32 (.bin .eql) [.t 37, .c (.p (.int .i64 8))],
 ii 39 .pick [.t 32, .t 38, .c (.p (.bool false))],
 mv 40 39,
 gt 41 40 (.load 5 true false) [.t 1],
 gt 42 40 (.load 4 true false) [.t 2],
 gt 43 40 (.load 4 true false) [.t 3],
 gt 44 40 (.bsl 4 2) [.t 42, .t 43],
 gt 45 40 (.call 149) [.t 41, .t 44, .c (.p (.int .i64 1))],
 gt 46 40 (.bin .eql) [.t 45, .c (.p (.int .i64 8))],
 ii 47 .pick [.t 40, .t 46, .c (.p (.bool false))],
 mv 48 47,
 gt 49 48 (.mov false) [.t 5],
 gt 50 48 .len [.t 49],
 gt 51 48 (.bin .eql) [.t 50, .c (.p (.int .i64 2))],
 ii 52 .pick [.t 48, .t 51, .c (.p (.bool false))],
 mv 53 52,
 gt 54 53 (.mov false) [.t 5],
 gt 55 53 (.iad 1) [.t 54, .c (.p (.int .i64 0))],
 gt 56 53 (.load 1 false false) [.t 55],
 gt 57 53 .len [.t 56],
 gt 58 53 (.bin .eql) [.t 57, .c (.p (.int .i64 0))],
 ii 59 .pick [.t 53, .t 58, .c (.p (.bool false))],
 mv 60 59,
 gt 61 60 (.mov false) [.t 5],
 gt 62 60 (.iad 1) [.t 61, .c (.p (.int .i64 1))],
 gt 63 60 (.load 1 false false) [.t 62],
 gt 64 60 .len [.t 63],
 gt 65 60 (.bin .eql) [.t 64, .c (.p (.int .i64 2))],
 ii 66 .pick [.t 60, .t 65, .c (.p (.bool false))],
 mv 67 66,
 gt 68 67 (.mov false) [.t 5],
 gt 69 67 (.iad 1) [.t 68, .c (.p (.int .i64 1))],
 gt 70 67 (.load 1 false false) [.t 69],
 gt 71 67 (.iad 3) [.t 70, .c (.p (.int .i64 0))],
 gt 72 67 (.fad 0) [.t 71],
 gt 73 67 (.load 1 false false) [.t 72],
 gt 74 67 (.bin .eql) [.t 73, .c (.p (.int .i64 11))],
 ii 75 .pick [.t 67, .t 74, .c (.p (.bool false))],
 mv 76 75,
 gt 77 76 (.mov false) [.t 5],
 gt 78 76 (.iad 1) [.t 77, .c (.p (.int .i64 1))],
 gt 79 76 (.load 1 false false) [.t 78],
 gt 80 76 (.call 241) [.t 79],
 gt 81 76 (.bin .eql) [.t 80, .c (.p (.int .i64 9167))],
 ii 82 .pick [.t 76, .t 81, .c (.p (.bool false))],
 mt 0 82])
 .ret)))))))⟩
theorem k217 : chkF Tryz.prog 217 F217 = true := by kernel_rfl
def F77 : Fn := ⟨15, 0, [.tmp 6],
 (.seq
 (.reg [mc 6 (.bool false)])
 (.seq
 (.reg [mv 7 0,
 mv 8 1,
 b2 9 .geq 7 8,
 mv 10 9,
 gt 11 10 (.mov false) [.t 0],
 gt 12 10 (.mov false) [.t 2],
 gt 13 10 (.bin .leq) [.t 11, .t 12],
 ii 14 .pick [.t 10, .t 13, .c (.p (.bool false))],
 mt 6 14])
 .ret))⟩
theorem k77 : chkF Tryz.prog 77 F77 = true := by kernel_rfl
def F174 : Fn := ⟨22, 0, [.tmp 2, .tmp 3],
 (.seq
 (.reg [mc 2 (.int .i64 0),
 mc 3 (.bool false)])
 (.seq
 (.seq
 (.reg [mv 6 0,
 ii 7 (.call 209) [.t 6],
 ii 8 (.un .not) [.t 7]])
 (.cond (.t 8)
 (.seq
 (.reg [mc 2 (.int .i64 0),
 mc 3 (.bool false)])
 .ret)
 .skip))
 (.seq
 (.seq
 (.reg [mv 9 0,
 ii 10 .len [.t 9],
 b1 11 .eql 10 (.int .i64 0)])
 (.cond (.t 11)
 (.seq
 (.reg [mc 2 (.int .i64 0),
 mc 3 (.bool true)])
 .ret)
 .skip))
 (.seq
 (.seq
 (.reg [mc 4 (.int .i64 1)])
 (.block 0
 (.loop [2, 3, 5, 6, 7, 8, 9, 10, 11, 12, 13, 14, 15, 16, 17, 18, 19, 20, 21] []
 (.seq
 (.seq
 (.reg [mv 12 4,
 b1 13 .leq 12 (.int .i64 20000)])
 (.cond (.t 13)
 .skip
 (.exit 0)))
 (.block 1
 (.seq
 (.reg [mv 14 0,
 mv 15 4,
 ii 16 (.call 210) [.t 14, .t 15],
 mt 5 16])
 (.seq
 (.seq
 (.reg [mv 17 5,
 mv 18 4,
 b2 19 .eql 17 18])
 (.cond (.t 19)
 (.seq
 (.reg [mv 20 4,
 mt 2 20,
 mc 3 (.bool true)])
 .ret)
 .skip))
 (.reg [mv 21 5,
 mt 4 21]))))))))
 (.seq
 (.reg [mc 2 (.int .i64 0),
 mc 3 (.bool false)])
 .ret)))))⟩
theorem k174 : chkF Tryz.prog 174 F174 = true := by kernel_rfl
def F175 : Fn := ⟨45, 1, [.tmp 2, .tmp 3],
 (.seq
 (.reg [mc 2 (.int .i64 0),
 mc 3 (.bool false)])
 (.seq
 (.reg [mv 11 0,
 ii 12 (.call 174) [.t 11],
 mv 10 12,
 ii 13 (.ext 0) [.t 10],
 ii 14 (.ext 1) [.t 10],
 mt 4 13,
 mt 5 14])
 (.seq
 (.seq
 (.reg [mv 15 5,
 ii 16 (.un .not) [.t 15]])
 (.cond (.t 16)
 (.seq
 (.reg [mc 2 (.int .i64 0),
 mc 3 (.bool false)])
 .ret)
 .skip))
 (.seq
 (.reg [mv 17 4,
 b1 18 .add 17 (.int .i64 1),
 mt 6 18])
 (.seq
 (.seq
 (.reg [mv 19 0,
 ii 20 .len [.t 19],
 ii 21 (.mov false) [.c (.p (.int .i64 0))]])
 (.block 0
 (.loop [2, 3, 5, 8, 9, 10, 11, 12, 13, 14, 15, 16, 17, 18, 22, 23, 24, 25, 26, 27, 28, 29, 30, 31, 32, 33, 34, 35, 36, 37, 38, 39, 40, 41, 42, 43, 44] [0]
 (.seq
 (.reg [b2 22 .lss 21 20])
 (.seq
 (.cond (.t 22)
 .skip
 (.exit 0))
 (.seq
 (.block 1
 (.seq
 (.gp (.reg [ii 23 (.iad 3) [.t 19, .t 21],
 ii 24 (.load 3 true false) [.t 23],
 ⟨some 8, none, .alloc 0 3 [.p (.int .i64 0), .p (.int .i64 0), .p (.int .i64 0)], []⟩,
 ⟨none, none, .store 3, [.t 8, .t 24]⟩]) (.lay 0 3))
 (.seq
 (.reg [fa 25 1 8,
 ld 26 25,
 mt 9 26])
 (.block 2
 (.loop [2, 3, 5, 10, 11, 12, 13, 14, 15, 16, 17, 18, 22, 23, 24, 25, 26, 27, 28, 29, 30, 31, 32, 33, 34, 35, 36, 37, 38, 39, 40, 41, 42, 43, 44] []
 (.seq
 (.seq
 (.reg [mv 27 9,
 mv 28 6,
 b2 29 .lss 27 28])
 (.cond (.t 29)
 .skip
 (.exit 2)))
 (.seq
 (.block 3
 (.seq
 (.reg [mv 34 0,
 mv 35 9,
 ii 36 (.call 211) [.t 34, .t 35],
 mv 37 9,
 b2 38 .gtr 36 37])
 (.cond (.t 38)
 (.reg [mv 39 9,
 mt 6 39])
 .skip)))
 (.reg [mv 30 9,
 fa 31 2 8,
 ld 32 31,
 b2 33 .add 30 32,
 mt 9 33]))))))))
 (.reg [b1 40 .add 21 (.int .i64 1),
 mv 21 40])))))))
 (.seq
 (.seq
 (.reg [mv 41 6,
 mv 42 4,
 b2 43 .gtr 41 42])
 (.cond (.t 43)
 (.seq
 (.reg [mc 2 (.int .i64 0),
 mc 3 (.bool false)])
 .ret)
 .skip))
 (.seq
 (.reg [mv 44 6,
 mt 2 44,
 mc 3 (.bool true)])
 .ret)))))))⟩
theorem k175 : chkF Tryz.prog 175 F175 = true := by kernel_rfl
def F126 : Fn := ⟨15, 0, [.tmp 6],
 (.seq
 (.reg [mc 6 (.bool false)])
 (.seq
 (.reg [mv 7 0,
 mv 8 1,
 b2 9 .geq 7 8,
 mv 10 9,
 gt 11 10 (.mov false) [.t 0],
 gt 12 10 (.mov false) [.t 2],
 gt 13 10 (.bin .leq) [.t 11, .t 12],
 ii 14 .pick [.t 10, .t 13, .c (.p (.bool false))],
 mt 6 14])
 .ret))⟩
theorem k126 : chkF Tryz.prog 126 F126 = true := by kernel_rfl
def F127 : Fn := ⟨12, 0, [.tmp 3],
 (.seq
 (.reg [mc 3 (.bool false)])
 (.seq
 (.reg [mv 4 0,
 b1 5 .lss 4 (.int .i64 0),
 mv 6 5,
 gf 7 6 (.mov false) [.t 0],
 gf 8 6 (.fad 1) [.t 1],
 gf 9 6 (.load 1 false false) [.t 8],
 gf 10 6 (.bin .geq) [.t 7, .t 9],
 ii 11 .pick [.t 6, .c (.p (.bool true)), .t 10],
 mt 3 11])
 .ret))⟩
theorem k127 : chkF Tryz.prog 127 F127 = true := by kernel_rfl
def F128 : Fn := ⟨9, 0, [.tmp 4],
 (.seq
 (.reg [mc 4 (.bool false)])
 (.seq
 (.reg [mv 5 0,
 mv 6 1,
 ii 7 (.call 168) [.t 5, .t 6],
 b1 8 .geq 7 (.int .i64 0),
 mt 4 8])
 .ret))⟩
theorem k128 : chkF Tryz.prog 128 F128 = true := by kernel_rfl
def F242 : Fn := ⟨47, 2, [.tmp 4],
 (.seq
 (.reg [ii 2 (.box 0 5) [.t 0],
 ii 3 (.box 1 4) [.t 1],
 mc 4 (.bool false)])
 (.seq
 (.reg [fa 6 0 3,
 ld 7 6,
 b1 8 .geq 7 (.int .i64 0),
 mv 9 8,
 gt 10 9 (.fad 0) [.t 3],
 gt 11 9 (.load 1 false false) [.t 10],
 gt 12 9 (.fad 0) [.t 2],
 gt 13 9 (.load 1 false false) [.t 12],
 gt 14 9 (.bin .lss) [.t 11, .t 13],
 ii 15 .pick [.t 9, .t 14, .c (.p (.bool false))],
 mv 16 15,
 gt 17 16 (.fad 1) [.t 3],
 gt 18 16 (.load 1 false false) [.t 17],
 gt 19 16 (.call 126) [.t 18, .c (.p (.int .i64 0)), .c (.p (.int .i64 200))],
 ii 20 .pick [.t 16, .t 19, .c (.p (.bool false))],
 mt 5 20])
 (.seq
 (.reg [mv 21 5,
 mv 22 21,
 gt 23 22 (.fad 3) [.t 3],
 gt 24 22 (.load 1 false false) [.t 23],
 gt 25 22 (.bin .geq) [.t 24, .c (.p (.int .i64 1))],
 ii 26 .pick [.t 22, .t 25, .c (.p (.bool false))],
 mv 27 26,
 gt 28 27 (.fad 3) [.t 3],
 gt 29 27 (.load 1 false false) [.t 28],
 gt 30 27 (.fad 2) [.t 3],
 gt 31 27 (.load 1 false false) [.t 30],
 gt 32 27 (.bin .leq) [.t 29, .t 31],
 ii 33 .pick [.t 27, .t 32, .c (.p (.bool false))],
 mv 34 33,
 gt 35 34 (.fad 2) [.t 3],
 gt 36 34 (.load 1 false false) [.t 35],
 gt 37 34 (.bin .leq) [.t 36, .c (.p (.int .i64 200))],
 ii 38 .pick [.t 34, .t 37, .c (.p (.bool false))],
 mv 39 38,
 gt 40 39 (.fad 1) [.t 3],
 gt 41 39 (.load 1 false false) [.t 40],
 gt 42 39 (.fad 2) [.t 3],
 gt 43 39 (.load 1 false false) [.t 42],
 gt 44 39 (.bin .add) [.t 41, .t 43],
 gt 45 39 (.bin .leq) [.t 44, .c (.p (.int .i64 200))],
 ii 46 .pick [.t 39, .t 45, .c (.p (.bool false))],
 mt 4 46])
 .ret)))⟩
theorem k242 : chkF Tryz.prog 242 F242 = true := by kernel_rfl
def F130 : Fn := ⟨40, 0, [.tmp 8],
 (.seq
 (.reg [mc 8 (.int .i64 0)])
 (.seq
 (.seq
 (.reg [mv 12 0,
 mv 13 1,
 mv 14 2,
 ii 15 (.call 169) [.t 12, .t 13, .t 14],
 ii 16 (.un .not) [.t 15]])
 (.cond (.t 16)
 (.seq
 (.reg [mc 8 (.int .i64 0)])
 .ret)
 .skip))
 (.seq
 (.reg [mv 17 3,
 mv 18 1,
 ii 19 .mn [.t 17, .t 18],
 mc 9 (.int .i64 0),
 mt 10 19])
 (.seq
 (.block 0
 (.loop [3, 8, 11, 12, 13, 14, 15, 16, 17, 18, 19, 20, 21, 22, 23, 24, 25, 26, 27, 28, 29, 30, 31, 32, 33, 34, 35, 36, 37, 38, 39] []
 (.seq
 (.seq
 (.reg [mv 20 9,
 mv 21 10,
 b2 22 .lss 20 21])
 (.cond (.t 22)
 .skip
 (.exit 0)))
 (.block 1
 (.seq
 (.reg [mv 23 9,
 mv 24 10,
 mv 25 9,
 b2 26 .sub 24 25,
 b1 27 .add 26 (.int .i64 1),
 b1 28 .quo 27 (.int .i64 2),
 b2 29 .add 23 28,
 mt 11 29])
 (.seq
 (.reg [mv 30 0,
 mv 31 11,
 mv 32 1,
 mv 33 2,
 ⟨some 34, none, .build [.int .i64 0, .int .i64 0, .int .i64 0] [(0, 1), (1, 1), (2, 1)], [.t 31, .t 32, .t 33]⟩,
 ii 35 (.call 170) [.t 30, .t 34]])
 (.cond (.t 35)
 (.reg [mv 36 11,
 mt 9 36])
 (.reg [mv 37 11,
 b1 38 .sub 37 (.int .i64 1),
 mt 10 38]))))))))
 (.seq
 (.reg [mv 39 9,
 mt 8 39])
 .ret)))))⟩
theorem k130 : chkF Tryz.prog 130 F130 = true := by kernel_rfl
def F131 : Fn := ⟨9, 0, [],
 (.reg [mv 4 0,
 mv 5 0,
 ii 6 .len [.t 5],
 mv 7 1,
 ii 8 (.callm 171 0) [.t 4, .t 6, .t 7]])⟩
theorem k131 : chkF Tryz.prog 131 F131 = true := by kernel_rfl
def F132 : Fn := ⟨10, 2, [.tmp 4],
 (.seq
 (.reg [ii 2 (.box 0 2) [.t 0],
 ii 3 (.box 1 2) [.t 1],
 mc 4 (.int .i64 0)])
 (.seq
 (.reg [fa 5 1 3,
 ld 6 5,
 fa 7 1 2,
 ld 8 7,
 ii 9 (.call 67) [.t 6, .t 8],
 mt 4 9])
 .ret))⟩
theorem k132 : chkF Tryz.prog 132 F132 = true := by kernel_rfl
def F67 : Fn := ⟨20, 0, [.tmp 4],
 (.seq
 (.reg [mc 4 (.int .i64 0)])
 (.seq
 (.reg [mv 7 0,
 ii 8 (.call 97) [.t 7],
 mt 5 8])
 (.seq
 (.reg [mv 9 1,
 ii 10 (.call 97) [.t 9],
 mt 6 10])
 (.seq
 (.seq
 (.reg [mv 11 5])
 (.cond (.t 11)
 (.seq
 (.seq
 (.reg [mv 12 6])
 (.cond (.t 12)
 (.seq
 (.reg [mc 4 (.int .i64 0)])
 .ret)
 .skip))
 (.seq
 (.reg [mc 4 (.int .i64 (-1))])
 .ret))
 .skip))
 (.seq
 (.seq
 (.reg [mv 13 6])
 (.cond (.t 13)
 (.seq
 (.reg [mc 4 (.int .i64 1)])
 .ret)
 .skip))
 (.seq
 (.seq
 (.reg [mv 14 0,
 mv 15 1,
 b2 16 .lss 14 15])
 (.cond (.t 16)
 (.seq
 (.reg [mc 4 (.int .i64 (-1))])
 .ret)
 .skip))
 (.seq
 (.seq
 (.reg [mv 17 0,
 mv 18 1,
 b2 19 .gtr 17 18])
 (.cond (.t 19)
 (.seq
 (.reg [mc 4 (.int .i64 1)])
 .ret)
 .skip))
 (.seq
 (.reg [mc 4 (.int .i64 0)])
 .ret))))))))⟩
theorem k67 : chkF Tryz.prog 67 F67 = true := by kernel_rfl
def F133 : Fn := ⟨14, 0, [],
 (.seq
 (.reg [mv 5 0,
 ii 6 .len [.t 5],
 mt 4 6])
 (.reg [mv 7 0,
 mv 8 4,
 mv 9 4,
 ii 10 (.conv .u64) [.t 9],
 ii 11 (.call 173) [.t 10],
 mv 12 1,
 ii 13 (.callm 172 0) [.t 7, .c (.p (.int .i64 0)), .t 8, .t 11, .t 12]]))⟩
theorem k133 : chkF Tryz.prog 133 F133 = true := by kernel_rfl
def F134 : Fn := ⟨10, 2, [.tmp 4],
 (.seq
 (.reg [ii 2 (.box 0 2) [.t 0],
 ii 3 (.box 1 2) [.t 1],
 mc 4 (.int .i64 0)])
 (.seq
 (.reg [fa 5 0 2,
 ld 6 5,
 fa 7 0 3,
 ld 8 7,
 ii 9 (.call 68) [.t 6, .t 8],
 mt 4 9])
 .ret))⟩
theorem k134 : chkF Tryz.prog 134 F134 = true := by kernel_rfl
def F68 : Fn := ⟨20, 0, [.tmp 4],
 (.seq
 (.reg [mc 4 (.int .i64 0)])
 (.seq
 (.reg [mv 7 0,
 ii 8 (.call 98) [.t 7],
 mt 5 8])
 (.seq
 (.reg [mv 9 1,
 ii 10 (.call 98) [.t 9],
 mt 6 10])
 (.seq
 (.seq
 (.reg [mv 11 5])
 (.cond (.t 11)
 (.seq
 (.seq
 (.reg [mv 12 6])
 (.cond (.t 12)
 (.seq
 (.reg [mc 4 (.int .i64 0)])
 .ret)
 .skip))
 (.seq
 (.reg [mc 4 (.int .i64 (-1))])
 .ret))
 .skip))
 (.seq
 (.seq
 (.reg [mv 13 6])
 (.cond (.t 13)
 (.seq
 (.reg [mc 4 (.int .i64 1)])
 .ret)
 .skip))
 (.seq
 (.seq
 (.reg [mv 14 0,
 mv 15 1,
 b2 16 .lss 14 15])
 (.cond (.t 16)
 (.seq
 (.reg [mc 4 (.int .i64 (-1))])
 .ret)
 .skip))
 (.seq
 (.seq
 (.reg [mv 17 0,
 mv 18 1,
 b2 19 .gtr 17 18])
 (.cond (.t 19)
 (.seq
 (.reg [mc 4 (.int .i64 1)])
 .ret)
 .skip))
 (.seq
 (.reg [mc 4 (.int .i64 0)])
 .ret))))))))⟩
theorem k68 : chkF Tryz.prog 68 F68 = true := by kernel_rfl
def F135 : Fn := ⟨31, 0, [.tmp 6],
 (.seq
 (.reg [mc 6 (.int .i64 0)])
 (.seq
 (.seq
 (.reg [mv 8 0,
 mv 9 1,
 mv 10 1,
 ii 11 (.call 169) [.t 8, .t 9, .t 10],
 ii 12 (.un .not) [.t 11]])
 (.cond (.t 12)
 (.seq
 (.reg [mc 6 (.int .i64 0)])
 .ret)
 .skip))
 (.seq
 (.reg [mc 7 (.int .i64 0)])
 (.seq
 (.block 0
 (.loop [6, 8, 9, 10, 11, 12, 13, 14, 15, 16, 17, 18, 19, 20, 21, 22, 23, 24, 25, 26, 27, 28, 29, 30] []
 (.seq
 (.seq
 (.reg [mv 13 7,
 mv 14 2,
 mv 15 1,
 ii 16 .mn [.t 14, .t 15],
 b2 17 .lss 13 16,
 mv 18 17,
 gt 19 18 (.mov false) [.t 0],
 gt 20 18 (.mov false) [.t 7],
 gt 21 18 (.bin .add) [.t 20, .c (.p (.int .i64 1))],
 gt 22 18 (.mov false) [.t 7],
 gt 23 18 (.bin .add) [.t 22, .c (.p (.int .i64 1))],
 gt 24 18 (.mov false) [.t 1],
 ⟨some 25, (some (18, true)), .build [.int .i64 0, .int .i64 0, .int .i64 0] [(0, 1), (1, 1), (2, 1)], [.t 21, .t 23, .t 24]⟩,
 gt 26 18 (.call 170) [.t 19, .t 25],
 ii 27 .pick [.t 18, .t 26, .c (.p (.bool false))]])
 (.cond (.t 27)
 .skip
 (.exit 0)))
 (.block 1
 (.reg [mv 28 7,
 b1 29 .add 28 (.int .i64 1),
 mt 7 29])))))
 (.seq
 (.reg [mv 30 7,
 mt 6 30])
 .ret)))))⟩
theorem k135 : chkF Tryz.prog 135 F135 = true := by kernel_rfl
def F154 : Fn := ⟨60, 3, [.tmp 6],
 (.seq
 (.reg [ii 3 (.box 0 5) [.t 0],
 ii 6 (.mov true) [.c (.ow 1 true [])]])
 (.seq
 (.seq
 (.reg [ii 13 (.load 5 true false) [.t 3],
 mv 14 1,
 ii 15 (.call 183) [.t 13, .t 14],
 ii 16 (.un .not) [.t 15],
 mv 17 16,
 gf 18 17 (.mov false) [.t 2],
 gf 19 17 .len [.t 18],
 gf 20 17 (.mov false) [.t 1],
 gf 21 17 .len [.t 20],
 gf 22 17 (.bin .neq) [.t 19, .t 21],
 ii 23 .pick [.t 17, .c (.p (.bool true)), .t 22]])
 (.cond (.t 23)
 (.seq
 (.reg [ii 6 (.mov true) [.c (.ow 1 true [])]])
 .ret)
 .skip))
 (.seq
 (.reg [fa 24 0 3,
 ld 25 24,
 ⟨some 26, none, .mksl 1 1 24 false [.ow 3 true []], [.t 25, .t 25]⟩,
 mt 7 26])
 (.seq
 (.seq
 (.reg [mv 27 2,
 ii 28 .len [.t 27],
 ii 29 (.mov false) [.c (.p (.int .i64 0))]])
 (.block 0
 (.loop [0, 2, 6, 8, 9, 10, 11, 12, 13, 14, 15, 16, 17, 18, 19, 20, 21, 22, 23, 24, 25, 26, 30, 31, 32, 33, 34, 35, 36, 37, 38, 39, 40, 41, 42, 43, 44, 45, 46, 47, 48, 49, 50, 51, 52, 53, 54, 55, 56, 57, 58, 59] [2]
 (.seq
 (.reg [b2 30 .lss 29 28])
 (.seq
 (.cond (.t 30)
 .skip
 (.exit 0))
 (.seq
 (.block 1
 (.seq
 (.gp (.reg [mv 31 29,
 ii 32 (.iad 2) [.t 27, .t 29],
 ii 33 (.load 2 true false) [.t 32],
 ⟨some 9, none, .alloc 2 2 [.p (.int .i64 0), .ow 4 true []], []⟩,
 mt 8 31,
 ⟨none, none, .store 2, [.t 9, .t 33]⟩]) (.lay 2 2))
 (.seq
 (.reg [ii 34 (.load 5 true false) [.t 3],
 mv 35 1,
 mv 36 8,
 ii 37 (.load 2 true false) [.t 9],
 ii 38 (.call 177) [.t 34, .t 35, .t 36, .t 37],
 mt 10 38])
 (.seq
 (.seq
 (.reg [mv 39 10,
 ii 40 (.eqnil false) [.t 39, .c (.ow 1 true [])]])
 (.cond (.t 40)
 (.seq
 (.reg [ii 6 (.mov true) [.c (.ow 1 true [])]])
 (.pre [] [1] [] .ret))
 .skip))
 (.seq
 (.reg [mv 41 10,
 ii 42 .len [.t 41],
 ii 43 (.mov false) [.c (.p (.int .i64 0))]])
 (.block 2
 (.loop [0, 2, 6, 8, 9, 10, 11, 12, 13, 14, 15, 16, 17, 18, 19, 20, 21, 22, 23, 24, 25, 26, 30, 31, 32, 33, 34, 35, 36, 37, 38, 39, 40, 44, 45, 46, 47, 48, 49, 50, 51, 52, 53, 54, 55, 56, 57, 58, 59] []
 (.seq
 (.reg [b2 44 .lss 43 42])
 (.seq
 (.cond (.t 44)
 .skip
 (.exit 2))
 (.seq
 (.block 3
 (.seq
 (.reg [mv 45 43,
 ii 46 (.iad 1) [.t 41, .t 43],
 ld 47 46,
 mt 11 45,
 mt 12 47])
 (.reg [mv 48 7,
 mv 49 11,
 mv 50 7,
 mv 51 11,
 ii 52 (.iad 1) [.t 50, .t 51],
 ii 53 (.load 1 false true) [.t 52],
 mv 54 12,
 ii 55 (.app 3 24) [.t 53, .t 54],
 ii 56 (.iad 1) [.t 48, .t 49],
 ⟨none, none, .store 1, [.t 56, .t 55]⟩])))
 (.reg [b1 57 .add 43 (.int .i64 1),
 mv 43 57])))))))))))
 (.reg [b1 58 .add 29 (.int .i64 1),
 mv 29 58])))))))
 (.seq
 (.reg [mv 59 7,
 mt 6 59])
 (.pre [] [1] [] .ret))))))⟩
theorem k154 : chkF Tryz.prog 154 F154 = true := by kernel_rfl
def F240 : Fn := ⟨2, 0, [.tmp 0],
 (.seq
 (.reg [mc 0 (.bool false)])
 (.seq
 (.reg [ii 1 (.call 249) [],
 mt 0 1])
 .ret))⟩
theorem k240 : chkF Tryz.prog 240 F240 = true := by kernel_rfl
def F188 : Fn := ⟨40, 3, [.tmp 6],
 (.seq
 (.reg [ii 3 (.box 0 5) [.t 0],
 ii 4 (.box 1 4) [.t 1],
 mc 6 (.int .i64 0)])
 (.seq
 (.seq
 (.reg [ii 10 (.load 5 true false) [.t 3],
 ii 11 (.call 80) [.t 10],
 ii 12 (.un .not) [.t 11],
 mv 13 12,
 gf 14 13 (.load 5 true false) [.t 3],
 gf 15 13 (.load 4 true false) [.t 4],
 gf 16 13 (.call 81) [.t 14, .t 15],
 gf 17 13 (.un .not) [.t 16],
 ii 18 .pick [.t 13, .c (.p (.bool true)), .t 17]])
 (.cond (.t 18)
 (.seq
 (.reg [mc 6 (.int .i64 0)])
 .ret)
 .skip))
 (.seq
 (.reg [mc 7 (.int .i64 0)])
 (.seq
 (.seq
 (.reg [fa 19 3 4,
 ld 20 19,
 ii 21 .len [.t 20],
 ii 22 (.mov false) [.c (.p (.int .i64 0))]])
 (.block 0
 (.loop [0, 1, 4, 6, 9, 10, 11, 12, 13, 14, 15, 16, 17, 18, 19, 23, 24, 25, 26, 27, 28, 29, 30, 31, 32, 33, 34, 35, 36, 37, 38, 39] [2]
 (.seq
 (.reg [b2 23 .lss 22 21])
 (.seq
 (.cond (.t 23)
 .skip
 (.exit 0))
 (.seq
 (.block 1
 (.seq
 (.gp (.reg [ii 24 (.iad 3) [.t 20, .t 22],
 ii 25 (.load 3 true false) [.t 24],
 ⟨some 9, none, .alloc 2 3 [.p (.int .i64 0), .p (.int .i64 0), .p (.int .i64 0)], []⟩,
 ⟨none, none, .store 3, [.t 9, .t 25]⟩]) (.lay 2 3))
 (.seq
 (.reg [fa 26 4 3,
 ld 27 26,
 fa 28 0 9,
 ld 29 28,
 ii 30 (.iad 1) [.t 27, .t 29],
 ld 31 30,
 mv 32 2,
 b2 33 .eql 31 32])
 (.cond (.t 33)
 (.reg [mv 34 7,
 fa 35 2 9,
 ld 36 35,
 ii 37 .mx [.t 34, .t 36],
 mt 7 37])
 .skip))))
 (.reg [b1 38 .add 22 (.int .i64 1),
 mv 22 38])))))))
 (.seq
 (.reg [mv 39 7,
 mt 6 39])
 .ret)))))⟩
theorem k188 : chkF Tryz.prog 188 F188 = true := by kernel_rfl
def F158 : Fn := ⟨69, 3, [.tmp 8],
 (.seq
 (.reg [ii 4 (.box 0 5) [.t 0],
 mc 8 (.int .i64 0)])
 (.seq
 (.seq
 (.reg [ii 13 (.load 5 true false) [.t 4],
 mv 14 1,
 mv 15 2,
 ii 16 (.call 180) [.t 13, .t 14, .t 15],
 ii 17 (.un .not) [.t 16],
 mv 18 17,
 gf 19 18 (.mov false) [.t 3],
 gf 20 18 (.bin .lss) [.t 19, .c (.p (.int .i64 0))],
 ii 21 .pick [.t 18, .c (.p (.bool true)), .t 20],
 mv 22 21,
 gf 23 22 (.mov false) [.t 3],
 gf 24 22 (.mov false) [.t 1],
 gf 25 22 (.mov false) [.t 2],
 gf 26 22 (.iad 4) [.t 24, .t 25],
 gf 27 22 (.fad 3) [.t 26],
 gf 28 22 (.load 1 false false) [.t 27],
 gf 29 22 .len [.t 28],
 gf 30 22 (.bin .geq) [.t 23, .t 29],
 ii 31 .pick [.t 22, .c (.p (.bool true)), .t 30]])
 (.cond (.t 31)
 (.seq
 (.reg [mc 8 (.int .i64 0)])
 .ret)
 .skip))
 (.seq
 (.gp (.reg [mv 32 1,
 mv 33 2,
 ii 34 (.iad 4) [.t 32, .t 33],
 fa 35 3 34,
 ld 36 35,
 mv 37 3,
 ii 38 (.iad 3) [.t 36, .t 37],
 ii 39 (.load 3 true false) [.t 38],
 ⟨some 9, none, .alloc 1 3 [.p (.int .i64 0), .p (.int .i64 0), .p (.int .i64 0)], []⟩,
 ⟨none, none, .store 3, [.t 9, .t 39]⟩]) (.lay 1 3))
 (.seq
 (.reg [fa 40 2 4,
 ld 41 40,
 ii 42 (.bin .mul) [.c (.p (.int .i64 2)), .t 41],
 fa 43 2 9,
 ld 44 43,
 b2 45 .add 42 44,
 mt 10 45])
 (.seq
 (.seq
 (.reg [mv 46 1,
 ii 47 .len [.t 46],
 ii 48 (.mov false) [.c (.p (.int .i64 0))]])
 (.block 0
 (.loop [0, 1, 3, 8, 11, 12, 13, 14, 15, 16, 17, 18, 19, 20, 21, 22, 23, 24, 25, 26, 27, 28, 29, 30, 31, 32, 33, 34, 35, 36, 37, 38, 39, 40, 41, 42, 43, 44, 45, 49, 50, 51, 52, 53, 54, 55, 56, 57, 58, 59, 60, 61, 62, 63, 64, 65, 66, 67, 68] [2]
 (.seq
 (.reg [b2 49 .lss 48 47])
 (.seq
 (.cond (.t 49)
 .skip
 (.exit 0))
 (.seq
 (.block 1
 (.seq
 (.gp (.reg [mv 50 48,
 ii 51 (.iad 4) [.t 46, .t 48],
 ii 52 (.load 4 true false) [.t 51],
 ⟨some 12, none, .alloc 2 4 [.p (.int .i64 0), .p (.int .i64 0), .p (.int .i64 0), .ow 3 true []], []⟩,
 mt 11 50,
 ⟨none, none, .store 4, [.t 12, .t 52]⟩]) (.lay 2 4))
 (.seq
 (.reg [mv 53 11,
 mv 54 2,
 b2 55 .neq 53 54])
 (.cond (.t 55)
 (.regd [mv 56 10,
 ii 57 (.at 0 (.load 5 true false)) [.t 4],
 ii 58 (.at 2 (.load 4 true false)) [.t 12],
 fa 59 4 4,
 ii 60 (.at 0 (.load 1 false false)) [.t 59],
 fa 61 0 9,
 ii 62 (.at 1 (.load 1 false false)) [.t 61],
 ii 63 (.iad 1) [.t 60, .t 62],
 ii 64 (.loadp 1 false) [.t 63],
 ii 65 (.pl (.call 188)) [.t 57, .t 58, .t 64],
 b2 66 .add 56 65,
 mt 10 66])
 .skip))))
 (.reg [b1 67 .add 48 (.int .i64 1),
 mv 48 67])))))))
 (.seq
 (.reg [mv 68 10,
 mt 8 68])
 .ret))))))⟩
theorem k158 : chkF Tryz.prog 158 F158 = true := by kernel_rfl
def F149 : Fn := ⟨32, 1, [.tmp 6],
 (.seq
 (.reg [ii 3 (.box 0 5) [.t 0],
 mc 6 (.int .i64 0)])
 (.seq
 (.seq
 (.reg [ii 9 (.load 5 true false) [.t 3],
 mv 10 1,
 mv 11 2,
 ii 12 (.call 180) [.t 9, .t 10, .t 11],
 ii 13 (.un .not) [.t 12]])
 (.cond (.t 13)
 (.seq
 (.reg [mc 6 (.int .i64 0)])
 .ret)
 .skip))
 (.seq
 (.reg [mc 7 (.int .i64 0)])
 (.seq
 (.seq
 (.reg [mv 14 1,
 mv 15 2,
 ii 16 (.iad 4) [.t 14, .t 15],
 fa 17 3 16,
 ld 18 17,
 ii 19 .len [.t 18],
 ii 20 (.mov false) [.c (.p (.int .i64 0))]])
 (.block 0
 (.loop [0, 6, 8, 9, 10, 11, 12, 13, 14, 15, 16, 17, 18, 21, 22, 23, 24, 25, 26, 27, 28, 29, 30, 31] []
 (.seq
 (.reg [b2 21 .lss 20 19])
 (.seq
 (.cond (.t 21)
 .skip
 (.exit 0))
 (.seq
 (.block 1
 (.seq
 (.reg [mv 22 20,
 mt 8 22])
 (.reg [mv 23 7,
 ii 24 (.load 5 true false) [.t 3],
 mv 25 1,
 mv 26 2,
 mv 27 8,
 ii 28 (.call 158) [.t 24, .t 25, .t 26, .t 27],
 b2 29 .add 23 28,
 mt 7 29])))
 (.reg [b1 30 .add 20 (.int .i64 1),
 mv 20 30])))))))
 (.seq
 (.reg [mv 31 7,
 mt 6 31])
 .ret)))))⟩
theorem k149 : chkF Tryz.prog 149 F149 = true := by kernel_rfl
def F241 : Fn := ⟨22, 1, [.tmp 2],
 (.seq
 (.reg [mc 2 (.int .i64 0)])
 (.seq
 (.reg [mc 3 (.int .i64 0)])
 (.seq
 (.seq
 (.reg [mv 6 0,
 ii 7 .len [.t 6],
 ii 8 (.mov false) [.c (.p (.int .i64 0))]])
 (.block 0
 (.loop [0, 2, 5, 9, 10, 11, 12, 13, 14, 15, 16, 17, 18, 19, 20, 21] [0]
 (.seq
 (.reg [b2 9 .lss 8 7])
 (.seq
 (.cond (.t 9)
 .skip
 (.exit 0))
 (.seq
 (.block 1
 (.seq
 (.gp (.reg [ii 10 (.iad 3) [.t 6, .t 8],
 ii 11 (.load 3 true false) [.t 10],
 ⟨some 5, none, .alloc 0 3 [.p (.int .i64 0), .p (.int .i64 0), .p (.int .i64 0)], []⟩,
 ⟨none, none, .store 3, [.t 5, .t 11]⟩]) (.lay 0 3))
 (.reg [mv 12 3,
 fa 13 0 5,
 ld 14 13,
 b1 15 .mul 14 (.int .i64 10000),
 fa 16 2 5,
 ld 17 16,
 ii 18 (.call 196) [.t 15, .t 17],
 b2 19 .add 12 18,
 mt 3 19])))
 (.reg [b1 20 .add 8 (.int .i64 1),
 mv 8 20])))))))
 (.seq
 (.reg [mv 21 3,
 mt 2 21])
 .ret))))⟩
theorem k241 : chkF Tryz.prog 241 F241 = true := by kernel_rfl
def F209 : Fn := ⟨11, 0, [.tmp 2],
 (.seq
 (.reg [mc 2 (.bool false)])
 (.seq
 (.reg [mv 3 0,
 ii 4 .len [.t 3],
 b1 5 .leq 4 (.int .i64 24),
 mv 6 5,
 gt 7 6 (.mov false) [.t 0],
 gt 8 6 (.call 232) [.t 7, .c (.p (.fn 233 []))],
 gt 9 6 (.un .not) [.t 8],
 ii 10 .pick [.t 6, .t 9, .c (.p (.bool false))],
 mt 2 10])
 .ret))⟩
theorem k209 : chkF Tryz.prog 209 F209 = true := by kernel_rfl
def F210 : Fn := ⟨36, 1, [.tmp 4],
 (.seq
 (.reg [mc 4 (.int .i64 0)])
 (.seq
 (.seq
 (.reg [mv 8 0,
 ii 9 (.call 209) [.t 8],
 ii 10 (.un .not) [.t 9],
 mv 11 10,
 gf 12 11 (.mov false) [.t 1],
 gf 13 11 (.bin .lss) [.t 12, .c (.p (.int .i64 0))],
 ii 14 .pick [.t 11, .c (.p (.bool true)), .t 13],
 mv 15 14,
 gf 16 15 (.mov false) [.t 1],
 gf 17 15 (.bin .gtr) [.t 16, .c (.p (.int .i64 20000))],
 ii 18 .pick [.t 15, .c (.p (.bool true)), .t 17]])
 (.cond (.t 18)
 (.seq
 (.reg [mc 4 (.int .i64 0)])
 .ret)
 .skip))
 (.seq
 (.reg [mc 5 (.int .i64 0)])
 (.seq
 (.seq
 (.reg [mv 19 0,
 ii 20 .len [.t 19],
 ii 21 (.mov false) [.c (.p (.int .i64 0))]])
 (.block 0
 (.loop [0, 4, 7, 8, 9, 10, 11, 12, 13, 14, 15, 16, 17, 18, 22, 23, 24, 25, 26, 27, 28, 29, 30, 31, 32, 33, 34, 35] [0]
 (.seq
 (.reg [b2 22 .lss 21 20])
 (.seq
 (.cond (.t 22)
 .skip
 (.exit 0))
 (.seq
 (.block 1
 (.seq
 (.gp (.reg [ii 23 (.iad 3) [.t 19, .t 21],
 ii 24 (.load 3 true false) [.t 23],
 ⟨some 7, none, .alloc 0 3 [.p (.int .i64 0), .p (.int .i64 0), .p (.int .i64 0)], []⟩,
 ⟨none, none, .store 3, [.t 7, .t 24]⟩]) (.lay 0 3))
 (.regd [mv 25 5,
 fa 26 0 7,
 ii 27 (.at 0 (.load 1 false false)) [.t 26],
 mv 28 1,
 fa 29 2 7,
 ii 30 (.at 0 (.load 1 false false)) [.t 29],
 ii 31 (.pl (.call 196)) [.t 28, .t 30],
 b2 32 .mul 27 31,
 b2 33 .add 25 32,
 mt 5 33])))
 (.reg [b1 34 .add 21 (.int .i64 1),
 mv 21 34])))))))
 (.seq
 (.reg [mv 35 5,
 mt 4 35])
 .ret)))))⟩
theorem k210 : chkF Tryz.prog 210 F210 = true := by kernel_rfl
def F211 : Fn := ⟨38, 1, [.tmp 4],
 (.seq
 (.reg [mc 4 (.int .i64 0)])
 (.seq
 (.reg [mv 9 0,
 ii 10 (.call 232) [.t 9, .c (.p (.fn 235 []))],
 mt 5 10])
 (.seq
 (.seq
 (.reg [mv 11 5,
 mv 12 11,
 gf 13 12 (.mov false) [.t 0],
 gf 14 12 .len [.t 13],
 gf 15 12 (.bin .gtr) [.t 14, .c (.p (.int .i64 24))],
 ii 16 .pick [.t 12, .c (.p (.bool true)), .t 15],
 mv 17 16,
 gf 18 17 (.mov false) [.t 1],
 gf 19 17 (.bin .lss) [.t 18, .c (.p (.int .i64 0))],
 ii 20 .pick [.t 17, .c (.p (.bool true)), .t 19],
 mv 21 20,
 gf 22 21 (.mov false) [.t 1],
 gf 23 21 (.bin .gtr) [.t 22, .c (.p (.int .i64 20000))],
 ii 24 .pick [.t 21, .c (.p (.bool true)), .t 23]])
 (.cond (.t 24)
 (.seq
 (.reg [mc 4 (.int .i64 0)])
 .ret)
 .skip))
 (.seq
 (.reg [mc 6 (.int .i64 0)])
 (.seq
 (.seq
 (.reg [mv 25 0,
 ii 26 .len [.t 25],
 ii 27 (.mov false) [.c (.p (.int .i64 0))]])
 (.block 0
 (.loop [0, 4, 5, 8, 9, 10, 11, 12, 13, 14, 15, 16, 17, 18, 19, 20, 21, 22, 23, 24, 28, 29, 30, 31, 32, 33, 34, 35, 36, 37] [0]
 (.seq
 (.reg [b2 28 .lss 27 26])
 (.seq
 (.cond (.t 28)
 .skip
 (.exit 0))
 (.seq
 (.block 1
 (.seq
 (.gp (.reg [ii 29 (.iad 3) [.t 25, .t 27],
 ii 30 (.load 3 true false) [.t 29],
 ⟨some 8, none, .alloc 0 3 [.p (.int .i64 0), .p (.int .i64 0), .p (.int .i64 0)], []⟩,
 ⟨none, none, .store 3, [.t 8, .t 30]⟩]) (.lay 0 3))
 (.reg [mv 31 6,
 ii 32 (.load 3 true false) [.t 8],
 mv 33 1,
 ii 34 (.call 236) [.t 32, .t 33],
 b2 35 .add 31 34,
 mt 6 35])))
 (.reg [b1 36 .add 27 (.int .i64 1),
 mv 27 36])))))))
 (.seq
 (.reg [mv 37 6,
 mt 4 37])
 .ret))))))⟩
theorem k211 : chkF Tryz.prog 211 F211 = true := by kernel_rfl
def F168 : Fn := ⟨19, 0, [.tmp 4],
 (.seq
 (.reg [mc 4 (.int .i64 0)])
 (.seq
 (.seq
 (.reg [mv 6 0,
 ii 7 .len [.t 6],
 ii 8 (.mov false) [.c (.p (.int .i64 0))]])
 (.block 0
 (.loop [4, 5, 6, 9, 10, 11, 12, 13, 14, 15, 16, 17, 18] []
 (.seq
 (.reg [b2 9 .lss 8 7])
 (.seq
 (.cond (.t 9)
 .skip
 (.exit 0))
 (.seq
 (.block 1
 (.seq
 (.reg [mv 10 8,
 mt 5 10])
 (.seq
 (.reg [mv 11 1,
 mv 12 0,
 mv 13 5,
 ii 14 (.iad 1) [.t 12, .t 13],
 ld 15 14,
 ii 16 .callv [.t 11, .t 15]])
 (.cond (.t 16)
 (.seq
 (.reg [mv 17 5,
 mt 4 17])
 .ret)
 .skip))))
 (.reg [b1 18 .add 8 (.int .i64 1),
 mv 8 18])))))))
 (.seq
 (.reg [mc 4 (.int .i64 (-1))])
 .ret)))⟩
theorem k168 : chkF Tryz.prog 168 F168 = true := by kernel_rfl
def F169 : Fn := ⟨27, 0, [.tmp 6],
 (.seq
 (.reg [mc 6 (.bool false)])
 (.seq
 (.reg [mv 7 0,
 ii 8 .len [.t 7],
 b1 9 .leq 8 (.int .i64 23),
 mv 10 9,
 gt 11 10 (.mov false) [.t 1],
 gt 12 10 (.bin .geq) [.t 11, .c (.p (.int .i64 1))],
 ii 13 .pick [.t 10, .t 12, .c (.p (.bool false))],
 mv 14 13,
 gt 15 14 (.mov false) [.t 1],
 gt 16 14 (.mov false) [.t 2],
 gt 17 14 (.bin .leq) [.t 15, .t 16],
 ii 18 .pick [.t 14, .t 17, .c (.p (.bool false))],
 mv 19 18,
 gt 20 19 (.mov false) [.t 2],
 gt 21 19 (.bin .leq) [.t 20, .c (.p (.int .i64 200))],
 ii 22 .pick [.t 19, .t 21, .c (.p (.bool false))],
 mv 23 22,
 gt 24 23 (.mov false) [.t 0],
 gt 25 23 (.call 136) [.t 24],
 ii 26 .pick [.t 23, .t 25, .c (.p (.bool false))],
 mt 6 26])
 .ret))⟩
theorem k169 : chkF Tryz.prog 169 F169 = true := by kernel_rfl
def F170 : Fn := ⟨11, 1, [.tmp 4],
 (.seq
 (.reg [ii 3 (.box 0 3) [.t 1],
 mc 4 (.bool false)])
 (.seq
 (.regd [mv 5 0,
 ii 6 (.pl (.call 137)) [.t 5],
 ii 7 (.at 0 (.load 3 true false)) [.t 3],
 ii 8 (.bsl 3 1) [.t 7],
 ii 9 (.pl (.app 3 24)) [.t 6, .t 8],
 ii 10 (.pl (.call 136)) [.t 9],
 mt 4 10])
 .ret))⟩
theorem k170 : chkF Tryz.prog 170 F170 = true := by kernel_rfl
def F171 : Fn := ⟨63, 0, [],
 (.seq
 (.reg [mc 6 (.int .i64 20)])
 (.seq
 (.reg [mv 10 6,
 mc 7 (.int .i64 0),
 mt 8 10])
 (.seq
 (.block 0
 (.loop [9, 10, 11, 12, 13, 14, 15, 16, 17, 18, 19, 20, 21, 22, 23, 24, 25, 26, 27, 28, 29, 30, 31, 32, 33, 34, 35, 36, 37, 38, 39, 40, 41, 42, 43, 44, 45, 46, 47, 48, 49, 50, 51, 52, 53, 54, 55, 56, 57, 58, 59, 60, 61, 62] []
 (.seq
 (.seq
 (.reg [mv 11 8,
 mv 12 1,
 b2 13 .leq 11 12])
 (.cond (.t 13)
 .skip
 (.exit 0)))
 (.block 1
 (.seq
 (.reg [mv 14 0,
 mv 15 7,
 mv 16 8,
 mv 17 2,
 ii 18 (.callm 198 0) [.t 14, .t 15, .t 16, .t 17]])
 (.seq
 (.reg [mv 19 8,
 mt 7 19])
 (.reg [mv 20 8,
 mv 21 6,
 b2 22 .add 20 21,
 mt 8 22])))))))
 (.seq
 (.reg [mv 23 0,
 mv 24 7,
 mv 25 1,
 mv 26 2,
 ii 27 (.callm 198 0) [.t 23, .t 24, .t 25, .t 26]])
 (.block 2
 (.loop [7, 8, 9, 10, 11, 12, 13, 14, 15, 16, 17, 18, 19, 20, 21, 22, 23, 24, 25, 26, 27, 28, 29, 30, 31, 32, 33, 34, 35, 36, 37, 38, 39, 40, 41, 42, 43, 44, 45, 46, 47, 48, 49, 50, 51, 52, 53, 54, 55, 56, 57, 58, 59, 60, 61, 62] []
 (.seq
 (.seq
 (.reg [mv 28 6,
 mv 29 1,
 b2 30 .lss 28 29])
 (.cond (.t 30)
 .skip
 (.exit 2)))
 (.block 3
 (.seq
 (.reg [mv 31 6,
 ii 32 (.bin .mul) [.c (.p (.int .i64 2)), .t 31],
 mc 7 (.int .i64 0),
 mt 8 32])
 (.seq
 (.block 4
 (.loop [9, 10, 11, 12, 13, 14, 15, 16, 17, 18, 19, 20, 21, 22, 23, 24, 25, 26, 27, 28, 29, 30, 31, 32, 33, 34, 35, 36, 37, 38, 39, 40, 41, 42, 43, 44, 45, 46, 47, 48, 49, 50, 51, 52, 53, 54, 55, 56, 57, 58, 59, 60, 61, 62] []
 (.seq
 (.seq
 (.reg [mv 33 8,
 mv 34 1,
 b2 35 .leq 33 34])
 (.cond (.t 35)
 .skip
 (.exit 4)))
 (.block 5
 (.seq
 (.reg [mv 36 0,
 mv 37 7,
 mv 38 7,
 mv 39 6,
 b2 40 .add 38 39,
 mv 41 8,
 mv 42 2,
 ii 43 (.call 199) [.t 36, .t 37, .t 40, .t 41, .t 42]])
 (.seq
 (.reg [mv 44 8,
 mt 7 44])
 (.reg [mv 45 8,
 mv 46 6,
 ii 47 (.bin .mul) [.c (.p (.int .i64 2)), .t 46],
 b2 48 .add 45 47,
 mt 8 48])))))))
 (.seq
 (.seq
 (.reg [mv 49 7,
 mv 50 6,
 b2 51 .add 49 50,
 mt 9 51])
 (.seq
 (.reg [mv 52 9,
 mv 53 1,
 b2 54 .lss 52 53])
 (.cond (.t 54)
 (.reg [mv 55 0,
 mv 56 7,
 mv 57 9,
 mv 58 1,
 mv 59 2,
 ii 60 (.call 199) [.t 55, .t 56, .t 57, .t 58, .t 59]])
 .skip)))
 (.reg [mv 61 6,
 b1 62 .mul 61 (.int .i64 2),
 mt 6 62]))))))))))))⟩
theorem k171 : chkF Tryz.prog 171 F171 = true := by kernel_rfl
def F97 : Fn := ⟨6, 0, [.tmp 2],
 (.seq
 (.reg [mc 2 (.bool false)])
 (.seq
 (.reg [mv 3 0,
 mv 4 0,
 b2 5 .neq 3 4,
 mt 2 5])
 .ret))⟩
theorem k97 : chkF Tryz.prog 97 F97 = true := by kernel_rfl
def F172 : Fn := ⟨148, 0, [],
 (.seq
 (.reg [mc 10 (.bool true)])
 (.seq
 (.reg [mc 11 (.bool true)])
 (.block 0
 (.loop [12, 13, 14, 15, 16, 17, 18, 19, 20, 21, 22, 23, 24, 25, 26, 27, 28, 29, 30, 31, 32, 33, 34, 35, 36, 37, 38, 39, 40, 41, 42, 43, 44, 45, 46, 47, 48, 49, 50, 51, 52, 53, 54, 55, 56, 57, 58, 59, 60, 61, 62, 63, 64, 65, 66, 67, 68, 69, 70, 71, 72, 73, 74, 75, 76, 77, 78, 79, 80, 81, 82, 83, 84, 85, 86, 87, 88, 89, 90, 91, 92, 93, 94, 95, 96, 97, 98, 99, 100, 101, 102, 103, 104, 105, 106, 107, 108, 109, 110, 111, 112, 113, 114, 115, 116, 117, 118, 119, 120, 121, 122, 123, 124, 125, 126, 127, 128, 129, 130, 131, 132, 133, 134, 135, 136, 137, 138, 139, 140, 141, 142, 143, 144, 145, 146, 147] []
 (.block 1
 (.seq
 (.reg [mv 21 2,
 mv 22 1,
 b2 23 .sub 21 22,
 mt 12 23])
 (.seq
 (.seq
 (.reg [mv 24 12,
 b1 25 .leq 24 (.int .i64 12)])
 (.cond (.t 25)
 (.seq
 (.reg [mv 26 0,
 mv 27 1,
 mv 28 2,
 mv 29 4,
 ii 30 (.callm 198 0) [.t 26, .t 27, .t 28, .t 29]])
 .ret)
 .skip))
 (.seq
 (.seq
 (.reg [mv 31 3,
 b1 32 .eql 31 (.int .i64 0)])
 (.cond (.t 32)
 (.seq
 (.reg [mv 33 0,
 mv 34 1,
 mv 35 2,
 mv 36 4,
 ii 37 (.call 200) [.t 33, .t 34, .t 35, .t 36]])
 .ret)
 .skip))
 (.seq
 (.seq
 (.reg [mv 38 10,
 ii 39 (.un .not) [.t 38]])
 (.cond (.t 39)
 (.seq
 (.reg [mv 40 0,
 mv 41 1,
 mv 42 2,
 mv 43 4,
 ii 44 (.call 201) [.t 40, .t 41, .t 42, .t 43]])
 (.reg [mv 45 3,
 b1 46 .sub 45 (.int .i64 1),
 mt 3 46]))
 .skip))
 (.seq
 (.reg [mv 48 0,
 mv 49 1,
 mv 50 2,
 mv 51 4,
 ii 52 (.call 202) [.t 48, .t 49, .t 50, .t 51],
 mv 47 52,
 ii 53 (.ext 0) [.t 47],
 ii 54 (.ext 1) [.t 47],
 mt 13 53,
 mt 14 54])
 (.seq
 (.seq
 (.reg [mv 55 14,
 b1 56 .eql 55 (.int .i64 2)])
 (.cond (.t 56)
 (.seq
 (.reg [mv 57 0,
 mv 58 1,
 mv 59 2,
 mv 60 4,
 ii 61 (.call 203) [.t 57, .t 58, .t 59, .t 60]])
 (.seq
 (.reg [mv 62 2,
 b1 63 .sub 62 (.int .i64 1),
 mv 64 13,
 mv 65 1,
 b2 66 .sub 64 65,
 b2 67 .sub 63 66,
 mt 13 67])
 (.reg [mc 14 (.int .i64 1)])))
 .skip))
 (.seq
 (.seq
 (.reg [mv 68 10,
 mv 69 68,
 gt 70 69 (.mov false) [.t 11],
 ii 71 .pick [.t 69, .t 70, .c (.p (.bool false))],
 mv 72 71,
 gt 73 72 (.mov false) [.t 14],
 gt 74 72 (.bin .eql) [.t 73, .c (.p (.int .i64 1))],
 ii 75 .pick [.t 72, .t 74, .c (.p (.bool false))]])
 (.cond (.t 75)
 (.seq
 (.reg [mv 76 0,
 mv 77 1,
 mv 78 2,
 mv 79 4,
 ii 80 (.call 204) [.t 76, .t 77, .t 78, .t 79]])
 (.cond (.t 80)
 .ret
 .skip))
 .skip))
 (.seq
 (.seq
 (.regd [mv 81 1,
 b1 82 .gtr 81 (.int .i64 0),
 mv 83 82,
 gt 84 83 (.mov false) [.t 4],
 gt 85 83 (.mov false) [.t 0],
 gt 86 83 (.mov false) [.t 1],
 gt 87 83 (.bin .sub) [.t 86, .c (.p (.int .i64 1))],
 gt 88 83 (.iad 2) [.t 85, .t 87],
 gt 89 83 (.at 0 (.load 2 true false)) [.t 88],
 gt 90 83 (.mov false) [.t 0],
 gt 91 83 (.mov false) [.t 13],
 gt 92 83 (.iad 2) [.t 90, .t 91],
 gt 93 83 (.at 0 (.load 2 true false)) [.t 92],
 gt 94 83 (.pl .callv) [.t 84, .t 89, .t 93],
 gt 95 83 (.bin .lss) [.t 94, .c (.p (.int .i64 0))],
 gt 96 83 (.un .not) [.t 95],
 ii 97 .pick [.t 83, .t 96, .c (.p (.bool false))]])
 (.cond (.t 97)
 (.seq
 (.reg [mv 98 0,
 mv 99 1,
 mv 100 2,
 mv 101 13,
 mv 102 4,
 ii 103 (.call 205) [.t 98, .t 99, .t 100, .t 101, .t 102],
 mt 15 103])
 (.seq
 (.reg [mv 104 15,
 mt 1 104])
 (.exit 1)))
 .skip))
 (.seq
 (.reg [mv 106 0,
 mv 107 1,
 mv 108 2,
 mv 109 13,
 mv 110 4,
 ii 111 (.call 206) [.t 106, .t 107, .t 108, .t 109, .t 110],
 mv 105 111,
 ii 112 (.ext 0) [.t 105],
 ii 113 (.ext 1) [.t 105],
 mt 16 112,
 mt 17 113])
 (.seq
 (.reg [mv 114 17,
 mt 11 114])
 (.seq
 (.reg [mv 115 16,
 mv 116 1,
 b2 117 .sub 115 116,
 mv 118 2,
 mv 119 16,
 b2 120 .sub 118 119,
 mt 18 117,
 mt 19 120])
 (.seq
 (.reg [mv 121 12,
 b1 122 .quo 121 (.int .i64 8),
 mt 20 122])
 (.seq
 (.reg [mv 123 18,
 mv 124 19,
 b2 125 .lss 123 124])
 (.cond (.t 125)
 (.seq
 (.reg [mv 126 18,
 mv 127 20,
 b2 128 .geq 126 127,
 mt 10 128])
 (.seq
 (.reg [mv 129 0,
 mv 130 1,
 mv 131 16,
 mv 132 3,
 mv 133 4,
 ii 134 (.callm 172 0) [.t 129, .t 130, .t 131, .t 132, .t 133]])
 (.reg [mv 135 16,
 b1 136 .add 135 (.int .i64 1),
 mt 1 136])))
 (.seq
 (.reg [mv 137 19,
 mv 138 20,
 b2 139 .geq 137 138,
 mt 10 139])
 (.seq
 (.reg [mv 140 0,
 mv 141 16,
 b1 142 .add 141 (.int .i64 1),
 mv 143 2,
 mv 144 3,
 mv 145 4,
 ii 146 (.callm 172 0) [.t 140, .t 142, .t 143, .t 144, .t 145]])
 (.reg [mv 147 16,
 mt 2 147]))))))))))))))))))))))⟩
theorem k172 : chkF Tryz.prog 172 F172 = true := by kernel_rfl
def F173 : Fn := ⟨8, 0, [.tmp 2],
 (.seq
 (.reg [mc 2 (.int .i64 0)])
 (.seq
 (.cond (.c (.p (.bool false)))
 (.seq
 (.reg [mv 3 0,
 ii 4 (.conv .u32) [.t 3],
 ii 5 (.call 207) [.t 4],
 mt 2 5])
 .ret)
 .skip)
 (.seq
 (.reg [mv 6 0,
 ii 7 (.call 208) [.t 6],
 mt 2 7])
 .ret)))⟩
theorem k173 : chkF Tryz.prog 173 F173 = true := by kernel_rfl
def F98 : Fn := ⟨6, 0, [.tmp 2],
 (.seq
 (.reg [mc 2 (.bool false)])
 (.seq
 (.reg [mv 3 0,
 mv 4 0,
 b2 5 .neq 3 4,
 mt 2 5])
 .ret))⟩
theorem k98 : chkF Tryz.prog 98 F98 = true := by kernel_rfl
def F42 : Fn := ⟨19, 0, [.tmp 2],
 (.seq
 (.reg [mc 2 (.bool false)])
 (.seq
 (.seq
 (.reg [mc 3 (.int .i64 0)])
 (.block 0
 (.loop [2, 4, 5, 6, 7, 8, 9, 10, 11, 12, 13, 14, 15, 16, 17, 18] []
 (.seq
 (.seq
 (.reg [mv 4 3,
 mv 5 0,
 ii 6 .len [.t 5],
 b2 7 .lss 4 6])
 (.cond (.t 7)
 .skip
 (.exit 0)))
 (.seq
 (.block 1
 (.seq
 (.reg [mv 10 0,
 mv 11 3,
 ii 12 (.iad 3) [.t 10, .t 11],
 ii 13 (.load 3 true false) [.t 12],
 ii 14 (.call 74) [.t 13],
 ii 15 (.un .not) [.t 14]])
 (.cond (.t 15)
 (.seq
 (.reg [mc 2 (.bool false)])
 .ret)
 .skip)))
 (.reg [mv 8 3,
 b1 9 .add 8 (.int .i64 1),
 mt 3 9]))))))
 (.seq
 (.reg [mv 16 0,
 ii 17 .len [.t 16],
 b1 18 .leq 17 (.int .i64 24),
 mt 2 18])
 .ret)))⟩
theorem k42 : chkF Tryz.prog 42 F42 = true := by kernel_rfl
def F183 : Fn := ⟨20, 1, [.tmp 4],
 (.seq
 (.reg [ii 2 (.box 0 5) [.t 0],
 mc 4 (.bool false)])
 (.seq
 (.pre [] [0] [] (.reg [ii 6 (.mkfn 216) [.t 2],
 mt 5 6]))
 (.seq
 (.reg [ii 7 (.load 5 true false) [.t 2],
 ii 8 (.call 80) [.t 7],
 mv 9 8,
 gt 10 9 (.mov false) [.t 1],
 gt 11 9 .len [.t 10],
 gt 12 9 (.bin .leq) [.t 11, .c (.p (.int .i64 12))],
 ii 13 .pick [.t 9, .t 12, .c (.p (.bool false))],
 mv 14 13,
 gt 15 14 (.mov false) [.t 1],
 gt 16 14 (.mov false) [.t 5],
 gt 17 14 (.call 215) [.t 15, .t 16],
 gt 18 14 (.un .not) [.t 17],
 ii 19 .pick [.t 14, .t 18, .c (.p (.bool false))],
 mt 4 19])
 .ret)))⟩
theorem k183 : chkF Tryz.prog 183 F183 = true := by kernel_rfl
def F177 : Fn := ⟨84, 6, [.tmp 8],
 (.seq
 (.reg [ii 4 (.box 0 5) [.t 0],
 ii 7 (.box 1 2) [.t 3],
 ii 8 (.mov true) [.c (.ow 1 true [])]])
 (.seq
 (.seq
 (.reg [ii 14 (.load 5 true false) [.t 4],
 mv 15 1,
 ii 16 (.call 183) [.t 14, .t 15],
 ii 17 (.un .not) [.t 16],
 mv 18 17,
 gf 19 18 (.mov false) [.t 2],
 gf 20 18 (.bin .lss) [.t 19, .c (.p (.int .i64 0))],
 ii 21 .pick [.t 18, .c (.p (.bool true)), .t 20],
 mv 22 21,
 gf 23 22 (.mov false) [.t 2],
 gf 24 22 (.mov false) [.t 1],
 gf 25 22 .len [.t 24],
 gf 26 22 (.bin .geq) [.t 23, .t 25],
 ii 27 .pick [.t 22, .c (.p (.bool true)), .t 26],
 mv 28 27,
 gf 29 28 (.load 5 true false) [.t 4],
 gf 30 28 (.load 2 true false) [.t 7],
 gf 31 28 (.call 213) [.t 29, .t 30],
 gf 32 28 (.un .not) [.t 31],
 ii 33 .pick [.t 28, .c (.p (.bool true)), .t 32]])
 (.cond (.t 33)
 (.seq
 (.reg [ii 8 (.mov true) [.c (.ow 1 true [])]])
 .ret)
 .skip))
 (.seq
 (.reg [fa 34 0 4,
 ld 35 34,
 ⟨some 36, none, .mksl 2 1 24 false [.ow 3 true []], [.t 35, .t 35]⟩,
 mt 9 36])
 (.seq
 (.gp (.reg [mv 37 1,
 mv 38 2,
 ii 39 (.iad 4) [.t 37, .t 38],
 ii 40 (.load 4 true false) [.t 39],
 ⟨some 10, none, .alloc 3 4 [.p (.int .i64 0), .p (.int .i64 0), .p (.int .i64 0), .ow 3 true []], []⟩,
 ⟨none, none, .store 4, [.t 10, .t 40]⟩]) (.lay 3 4))
 (.seq
 (.seq
 (.reg [fa 41 1 7,
 ld 42 41,
 ii 43 .len [.t 42],
 ii 44 (.mov false) [.c (.p (.int .i64 0))]])
 (.block 0
 (.loop [0, 3, 8, 12, 13, 14, 15, 16, 17, 18, 19, 20, 21, 22, 23, 24, 25, 26, 27, 28, 29, 30, 31, 32, 33, 34, 35, 36, 37, 38, 39, 40, 41, 45, 46, 47, 48, 49, 50, 51, 52, 53, 54, 55, 56, 57, 58, 59, 60, 61, 62, 63, 64, 65, 66, 67, 68, 69, 70, 71, 72, 73, 74, 75, 76, 77, 78, 79, 80, 81, 82, 83] [4, 5]
 (.seq
 (.reg [b2 45 .lss 44 43])
 (.seq
 (.cond (.t 45)
 .skip
 (.exit 0))
 (.seq
 (.block 1
 (.seq
 (.gp (.reg [ii 46 (.iad 4) [.t 42, .t 44],
 ii 47 (.load 4 true false) [.t 46],
 ⟨some 12, none, .alloc 4 4 [.p (.int .i64 0), .p (.int .i64 0), .p (.int .i64 0), .p (.int .i64 0)], []⟩,
 ⟨none, none, .store 4, [.t 12, .t 47]⟩]) (.lay 4 4))
 (.seq
 (.gp (.reg [fa 48 3 12,
 ld 49 48,
 fa 50 2 12,
 ld 51 50,
 fa 52 2 10,
 ld 53 52,
 ⟨some 54, none, .build [.int .i64 0, .int .i64 0, .int .i64 0] [(0, 1), (1, 1), (2, 1)], [.t 49, .t 51, .t 53]⟩,
 ⟨some 13, none, .alloc 5 3 [.p (.int .i64 0), .p (.int .i64 0), .p (.int .i64 0)], []⟩,
 ⟨none, none, .store 3, [.t 13, .t 54]⟩]) (.lay 5 3))
 (.seq
 (.seq
 (.reg [fa 55 0 7,
 ld 56 55,
 b1 57 .eql 56 (.int .i64 1)])
 (.cond (.t 57)
 (.gp (.regd [fa 58 0 10,
 ii 59 (.at 3 (.load 1 false false)) [.t 58],
 ii 60 (.at 0 (.load 5 true false)) [.t 4],
 mv 61 1,
 mv 62 2,
 ii 63 (.pl (.call 149)) [.t 60, .t 61, .t 62],
 b2 64 .add 59 63,
 fa 65 1 10,
 ii 66 (.at 3 (.load 1 false false)) [.t 65],
 fa 67 2 10,
 ii 68 (.at 3 (.load 1 false false)) [.t 67],
 ⟨some 69, none, .build [.int .i64 0, .int .i64 0, .int .i64 0] [(0, 1), (1, 1), (2, 1)], [.t 64, .t 66, .t 68]⟩,
 ⟨none, none, .at 5 (.store 3), [.t 13, .t 69]⟩]) (.lay 5 3))
 .skip))
 (.regd [mv 70 9,
 fa 71 0 12,
 ii 72 (.at 4 (.load 1 false false)) [.t 71],
 mv 73 9,
 fa 74 0 12,
 ii 75 (.at 4 (.load 1 false false)) [.t 74],
 ii 76 (.iad 1) [.t 73, .t 75],
 ii 77 (.at 2 (.load 1 false true)) [.t 76],
 ii 78 (.at 5 (.load 3 true false)) [.t 13],
 ii 79 (.bsl 3 1) [.t 78],
 ii 80 (.pl (.app 3 24)) [.t 77, .t 79],
 ii 81 (.iad 1) [.t 70, .t 72],
 ⟨none, none, .at 2 (.store 1), [.t 81, .t 80]⟩])))))
 (.reg [b1 82 .add 44 (.int .i64 1),
 mv 44 82])))))))
 (.seq
 (.reg [mv 83 9,
 mt 8 83])
 (.pre [] [2] [] .ret)))))))⟩
theorem k177 : chkF Tryz.prog 177 F177 = true := by kernel_rfl
def F249 : Fn := ⟨68, 0, [.tmp 0],
 (.seq
 (.reg [mc 0 (.bool false)])
 (.seq
 (.reg [⟨some 8, none, .build [.int .i64 0, .int .i64 0, .int .i64 0] [(0, 1), (1, 1), (2, 1)], [.c (.p (.int .i64 2)), .c (.p (.int .i64 4)), .c (.p (.int .i64 6))]⟩,
 ⟨some 9, none, .build [.int .i64 0, .int .i64 0, .int .i64 0] [(0, 1), (1, 1), (2, 1)], [.c (.p (.int .i64 3)), .c (.p (.int .i64 8)), .c (.p (.int .i64 9))]⟩,
 ii 10 (.bsl 3 2) [.t 8, .t 9],
 mt 1 10])
 (.seq
 (.reg [mv 12 1,
 ii 13 (.call 174) [.t 12],
 mv 11 13,
 ii 14 (.ext 0) [.t 11],
 ii 15 (.ext 1) [.t 11],
 mt 2 14,
 mt 3 15])
 (.seq
 (.reg [ii 17 (.call 174) [.c (.ow 3 true [])],
 mv 16 17,
 ii 18 (.ext 0) [.t 16],
 ii 19 (.ext 1) [.t 16],
 mt 4 18,
 mt 5 19])
 (.seq
 (.reg [⟨some 21, none, .build [.int .i64 0, .int .i64 0, .int .i64 0] [(0, 1), (1, 1), (2, 1)], [.c (.p (.int .i64 5)), .c (.p (.int .i64 5)), .c (.p (.int .i64 4))]⟩,
 ii 22 (.bsl 3 1) [.t 21],
 ii 23 (.call 174) [.t 22],
 mv 20 23,
 ii 24 (.ext 0) [.t 20],
 ii 25 (.ext 1) [.t 20],
 mt 6 24,
 mt 7 25])
 (.seq
 (.reg [ii 26 (.call 250) [],
 mv 27 26,
 gt 28 27 (.mov false) [.t 1],
 gt 29 27 (.call 210) [.t 28, .c (.p (.int .i64 7))],
 gt 30 27 (.bin .eql) [.t 29, .c (.p (.int .i64 7))],
 ii 31 .pick [.t 27, .t 30, .c (.p (.bool false))],
 mv 32 31,
 gt 33 32 (.mov false) [.t 3],
 ii 34 .pick [.t 32, .t 33, .c (.p (.bool false))],
 mv 35 34,
 gt 36 35 (.mov false) [.t 2],
 gt 37 35 (.bin .eql) [.t 36, .c (.p (.int .i64 5))],
 ii 38 .pick [.t 35, .t 37, .c (.p (.bool false))],
 mv 39 38,
 gt 40 39 (.mov false) [.t 4],
 gt 41 39 (.bin .eql) [.t 40, .c (.p (.int .i64 0))],
 ii 42 .pick [.t 39, .t 41, .c (.p (.bool false))],
 mv 43 42,
 gt 44 43 (.mov false) [.t 5],
 ii 45 .pick [.t 43, .t 44, .c (.p (.bool false))],
 mv 46 45,
 gt 47 46 (.mov false) [.t 7],
 gt 48 46 (.un .not) [.t 47],
 ii 49 .pick [.t 46, .t 48, .c (.p (.bool false))],
 mv 50 49,
 gt 51 50 (.mov false) [.t 1],
 gt 52 50 (.call 211) [.t 51, .c (.p (.int .i64 8))],
 gt 53 50 (.bin .eql) [.t 52, .c (.p (.int .i64 5))],
 ii 54 .pick [.t 50, .t 53, .c (.p (.bool false))],
 mv 55 54,
 gt 56 55 (.mov false) [.t 1],
 gt 57 55 (.call 136) [.t 56],
 ii 58 .pick [.t 55, .t 57, .c (.p (.bool false))],
 mv 59 58,
 gt 60 59 (.mov false) [.t 1],
 gt 61 59 (.call 130) [.t 60, .c (.p (.int .i64 5)), .c (.p (.int .i64 10)), .c (.p (.int .i64 9))],
 gt 62 59 (.bin .eql) [.t 61, .c (.p (.int .i64 2))],
 ii 63 .pick [.t 59, .t 62, .c (.p (.bool false))],
 mv 64 63,
 gt 65 64 (.call 135) [.c (.ow 3 true []), .c (.p (.int .i64 10)), .c (.p (.int .i64 4))],
 gt 66 64 (.bin .eql) [.t 65, .c (.p (.int .i64 4))],
 ii 67 .pick [.t 64, .t 66, .c (.p (.bool false))],
 mt 0 67])
 .ret))))))⟩
theorem k249 : chkF Tryz.prog 249 F249 = true := by kernel_rfl
def F180 : Fn := ⟨32, 1, [.tmp 6],
 (.seq
 (.reg [ii 3 (.box 0 5) [.t 0],
 mc 6 (.bool false)])
 (.seq
 (.pre [] [0] [] (.reg [ii 8 (.mkfn 214) [.t 3],
 mt 7 8]))
 (.seq
 (.reg [ii 9 (.load 5 true false) [.t 3],
 ii 10 (.call 80) [.t 9],
 mv 11 10,
 gt 12 11 (.mov false) [.t 1],
 gt 13 11 .len [.t 12],
 gt 14 11 (.bin .leq) [.t 13, .c (.p (.int .i64 12))],
 ii 15 .pick [.t 11, .t 14, .c (.p (.bool false))],
 mv 16 15,
 gt 17 16 (.mov false) [.t 1],
 gt 18 16 (.mov false) [.t 7],
 gt 19 16 (.call 215) [.t 17, .t 18],
 gt 20 16 (.un .not) [.t 19],
 ii 21 .pick [.t 16, .t 20, .c (.p (.bool false))],
 mv 22 21,
 gt 23 22 (.mov false) [.t 2],
 gt 24 22 (.bin .geq) [.t 23, .c (.p (.int .i64 0))],
 ii 25 .pick [.t 22, .t 24, .c (.p (.bool false))],
 mv 26 25,
 gt 27 26 (.mov false) [.t 2],
 gt 28 26 (.mov false) [.t 1],
 gt 29 26 .len [.t 28],
 gt 30 26 (.bin .lss) [.t 27, .t 29],
 ii 31 .pick [.t 26, .t 30, .c (.p (.bool false))],
 mt 6 31])
 .ret)))⟩
theorem k180 : chkF Tryz.prog 180 F180 = true := by kernel_rfl
def F196 : Fn := ⟨18, 0, [.tmp 4],
 (.seq
 (.reg [mc 4 (.int .i64 0)])
 (.seq
 (.seq
 (.reg [mv 6 1,
 b1 7 .leq 6 (.int .i64 0)])
 (.cond (.t 7)
 (.seq
 (.reg [mc 4 (.int .i64 0)])
 .ret)
 .skip))
 (.seq
 (.reg [mv 8 0,
 mv 9 1,
 b2 10 .quo 8 9,
 mt 5 10])
 (.seq
 (.seq
 (.reg [mv 11 0,
 mv 12 1,
 b2 13 .rem 11 12,
 b1 14 .gtr 13 (.int .i64 0)])
 (.cond (.t 14)
 (.reg [mv 15 5,
 b1 16 .add 15 (.int .i64 1),
 mt 5 16])
 .skip))
 (.seq
 (.reg [mv 17 5,
 mt 4 17])
 .ret)))))⟩
theorem k196 : chkF Tryz.prog 196 F196 = true := by kernel_rfl
def F232 : Fn := ⟨9, 0, [.tmp 4],
 (.seq
 (.reg [mc 4 (.bool false)])
 (.seq
 (.reg [mv 5 0,
 mv 6 1,
 ii 7 (.call 247) [.t 5, .t 6],
 b1 8 .geq 7 (.int .i64 0),
 mt 4 8])
 .ret))⟩
theorem k232 : chkF Tryz.prog 232 F232 = true := by kernel_rfl
def F233 : Fn := ⟨6, 1, [.tmp 2],
 (.seq
 (.reg [ii 1 (.box 0 3) [.t 0],
 mc 2 (.bool false)])
 (.seq
 (.reg [ii 3 (.load 3 true false) [.t 1],
 ii 4 (.call 234) [.t 3],
 ii 5 (.un .not) [.t 4],
 mt 2 5])
 .ret))⟩
theorem k233 : chkF Tryz.prog 233 F233 = true := by kernel_rfl
def F234 : Fn := ⟨23, 1, [.tmp 2],
 (.seq
 (.reg [ii 1 (.box 0 3) [.t 0],
 mc 2 (.bool false)])
 (.seq
 (.reg [fa 3 0 1,
 ld 4 3,
 ii 5 (.call 126) [.t 4, .c (.p (.int .i64 1)), .c (.p (.int .i64 20000))],
 mv 6 5,
 gt 7 6 (.fad 1) [.t 1],
 gt 8 6 (.load 1 false false) [.t 7],
 gt 9 6 (.bin .geq) [.t 8, .c (.p (.int .i64 1))],
 ii 10 .pick [.t 6, .t 9, .c (.p (.bool false))],
 mv 11 10,
 gt 12 11 (.fad 1) [.t 1],
 gt 13 11 (.load 1 false false) [.t 12],
 gt 14 11 (.fad 2) [.t 1],
 gt 15 11 (.load 1 false false) [.t 14],
 gt 16 11 (.bin .leq) [.t 13, .t 15],
 ii 17 .pick [.t 11, .t 16, .c (.p (.bool false))],
 mv 18 17,
 gt 19 18 (.fad 2) [.t 1],
 gt 20 18 (.load 1 false false) [.t 19],
 gt 21 18 (.bin .leq) [.t 20, .c (.p (.int .i64 200))],
 ii 22 .pick [.t 18, .t 21, .c (.p (.bool false))],
 mt 2 22])
 .ret))⟩
theorem k234 : chkF Tryz.prog 234 F234 = true := by kernel_rfl
def F235 : Fn := ⟨6, 1, [.tmp 2],
 (.seq
 (.reg [ii 1 (.box 0 3) [.t 0],
 mc 2 (.bool false)])
 (.seq
 (.reg [ii 3 (.load 3 true false) [.t 1],
 ii 4 (.call 234) [.t 3],
 ii 5 (.un .not) [.t 4],
 mt 2 5])
 .ret))⟩
theorem k235 : chkF Tryz.prog 235 F235 = true := by kernel_rfl
def F236 : Fn := ⟨20, 1, [.tmp 4],
 (.seq
 (.reg [ii 2 (.box 0 3) [.t 0],
 mc 4 (.int .i64 0)])
 (.seq
 (.seq
 (.reg [fa 5 1 2,
 ld 6 5,
 mv 7 1,
 b2 8 .gtr 6 7])
 (.cond (.t 8)
 (.seq
 (.reg [mc 4 (.int .i64 0)])
 .ret)
 .skip))
 (.seq
 (.regd [fa 9 0 2,
 ii 10 (.at 0 (.load 1 false false)) [.t 9],
 mv 11 1,
 fa 12 1 2,
 ii 13 (.at 0 (.load 1 false false)) [.t 12],
 b2 14 .sub 11 13,
 fa 15 2 2,
 ii 16 (.at 0 (.load 1 false false)) [.t 15],
 ii 17 (.pl (.call 129)) [.t 14, .t 16],
 b1 18 .add 17 (.int .i64 1),
 b2 19 .mul 10 18,
 mt 4 19])
 .ret)))⟩
theorem k236 : chkF Tryz.prog 236 F236 = true := by kernel_rfl
def F198 : Fn := ⟨53, 0, [],
 (.seq
 (.reg [mv 10 1,
 b1 11 .add 10 (.int .i64 1),
 mt 8 11])
 (.block 0
 (.loop [9, 10, 11, 12, 13, 14, 15, 16, 17, 18, 19, 20, 21, 22, 23, 24, 25, 26, 27, 28, 29, 30, 31, 32, 33, 34, 35, 36, 37, 38, 39, 40, 41, 42, 43, 44, 45, 46, 47, 48, 49, 50, 51, 52] []
 (.seq
 (.seq
 (.reg [mv 12 8,
 mv 13 2,
 b2 14 .lss 12 13])
 (.cond (.t 14)
 .skip
 (.exit 0)))
 (.seq
 (.block 1
 (.seq
 (.reg [mv 17 8,
 mt 9 17])
 (.block 2
 (.loop [10, 11, 12, 13, 14, 15, 16, 17, 18, 19, 20, 21, 22, 23, 24, 25, 26, 27, 28, 29, 30, 31, 32, 33, 34, 35, 36, 37, 38, 39, 40, 41, 42, 43, 44, 45, 46, 47, 48, 49, 50, 51, 52] []
 (.seq
 (.seq
 (.regd [mv 18 9,
 mv 19 1,
 b2 20 .gtr 18 19,
 mv 21 20,
 gt 22 21 (.mov false) [.t 3],
 gt 23 21 (.mov false) [.t 0],
 gt 24 21 (.mov false) [.t 9],
 gt 25 21 (.iad 2) [.t 23, .t 24],
 gt 26 21 (.at 0 (.load 2 true false)) [.t 25],
 gt 27 21 (.mov false) [.t 0],
 gt 28 21 (.mov false) [.t 9],
 gt 29 21 (.bin .sub) [.t 28, .c (.p (.int .i64 1))],
 gt 30 21 (.iad 2) [.t 27, .t 29],
 gt 31 21 (.at 0 (.load 2 true false)) [.t 30],
 gt 32 21 (.pl .callv) [.t 22, .t 26, .t 31],
 gt 33 21 (.bin .lss) [.t 32, .c (.p (.int .i64 0))],
 ii 34 .pick [.t 21, .t 33, .c (.p (.bool false))]])
 (.cond (.t 34)
 .skip
 (.exit 2)))
 (.seq
 (.block 3
 (.regd [mv 37 0,
 mv 38 9,
 mv 39 0,
 mv 40 9,
 b1 41 .sub 40 (.int .i64 1),
 mv 42 0,
 mv 43 9,
 b1 44 .sub 43 (.int .i64 1),
 ii 45 (.iad 2) [.t 42, .t 44],
 ii 46 (.at 0 (.load 2 true false)) [.t 45],
 mv 47 0,
 mv 48 9,
 ii 49 (.iad 2) [.t 47, .t 48],
 ii 50 (.at 0 (.load 2 true false)) [.t 49],
 ii 51 (.iad 2) [.t 37, .t 38],
 ⟨none, none, .at 0 (.store 2), [.t 51, .t 46]⟩,
 ii 52 (.iad 2) [.t 39, .t 41],
 ⟨none, none, .at 0 (.store 2), [.t 52, .t 50]⟩]))
 (.reg [mv 35 9,
 b1 36 .sub 35 (.int .i64 1),
 mt 9 36])))))))
 (.reg [mv 15 8,
 b1 16 .add 15 (.int .i64 1),
 mt 8 16]))))))⟩
theorem k198 : chkF Tryz.prog 198 F198 = true := by kernel_rfl
def F74 : Fn := ⟨23, 1, [.tmp 2],
 (.seq
 (.reg [ii 1 (.box 0 3) [.t 0],
 mc 2 (.bool false)])
 (.seq
 (.reg [fa 3 0 1,
 ld 4 3,
 ii 5 (.call 77) [.t 4, .c (.p (.int .i64 1)), .c (.p (.int .i64 20000))],
 mv 6 5,
 gt 7 6 (.fad 1) [.t 1],
 gt 8 6 (.load 1 false false) [.t 7],
 gt 9 6 (.bin .geq) [.t 8, .c (.p (.int .i64 1))],
 ii 10 .pick [.t 6, .t 9, .c (.p (.bool false))],
 mv 11 10,
 gt 12 11 (.fad 1) [.t 1],
 gt 13 11 (.load 1 false false) [.t 12],
 gt 14 11 (.fad 2) [.t 1],
 gt 15 11 (.load 1 false false) [.t 14],
 gt 16 11 (.bin .leq) [.t 13, .t 15],
 ii 17 .pick [.t 11, .t 16, .c (.p (.bool false))],
 mv 18 17,
 gt 19 18 (.fad 2) [.t 1],
 gt 20 18 (.load 1 false false) [.t 19],
 gt 21 18 (.bin .leq) [.t 20, .c (.p (.int .i64 200))],
 ii 22 .pick [.t 18, .t 21, .c (.p (.bool false))],
 mt 2 22])
 .ret))⟩
theorem k74 : chkF Tryz.prog 74 F74 = true := by kernel_rfl
def F216 : Fn := ⟨8, 1, [.tmp 3],
 (.seq
 (.reg [ii 2 (.box 0 4) [.t 0],
 mc 3 (.bool false)])
 (.seq
 (.reg [ii 4 (.load 5 true false) [.t 1],
 ii 5 (.load 4 true false) [.t 2],
 ii 6 (.call 81) [.t 4, .t 5],
 ii 7 (.un .not) [.t 6],
 mt 3 7])
 .ret))⟩
theorem k216 : chkF Tryz.prog 216 F216 = true := by kernel_rfl
def F215 : Fn := ⟨9, 0, [.tmp 4],
 (.seq
 (.reg [mc 4 (.bool false)])
 (.seq
 (.reg [mv 5 0,
 mv 6 1,
 ii 7 (.call 239) [.t 5, .t 6],
 b1 8 .geq 7 (.int .i64 0),
 mt 4 8])
 .ret))⟩
theorem k215 : chkF Tryz.prog 215 F215 = true := by kernel_rfl
def F213 : Fn := ⟨10, 2, [.tmp 4],
 (.seq
 (.reg [ii 2 (.box 0 5) [.t 0],
 ii 3 (.box 1 2) [.t 1],
 mc 4 (.bool false)])
 (.seq
 (.pre [] [0] [] (.reg [fa 5 1 3,
 ld 6 5,
 ii 7 (.mkfn 238) [.t 2],
 ii 8 (.call 237) [.t 6, .t 7],
 ii 9 (.un .not) [.t 8],
 mt 4 9]))
 .ret))⟩
theorem k213 : chkF Tryz.prog 213 F213 = true := by kernel_rfl
def F250 : Fn := ⟨2, 0, [.tmp 0],
 (.seq
 (.reg [mc 0 (.bool false)])
 (.seq
 (.reg [ii 1 (.call 251) [],
 mt 0 1])
 .ret))⟩
theorem k250 : chkF Tryz.prog 250 F250 = true := by kernel_rfl
def F214 : Fn := ⟨8, 1, [.tmp 3],
 (.seq
 (.reg [ii 2 (.box 0 4) [.t 0],
 mc 3 (.bool false)])
 (.seq
 (.reg [ii 4 (.load 5 true false) [.t 1],
 ii 5 (.load 4 true false) [.t 2],
 ii 6 (.call 81) [.t 4, .t 5],
 ii 7 (.un .not) [.t 6],
 mt 3 7])
 .ret))⟩
theorem k214 : chkF Tryz.prog 214 F214 = true := by kernel_rfl
def F247 : Fn := ⟨19, 0, [.tmp 4],
 (.seq
 (.reg [mc 4 (.int .i64 0)])
 (.seq
 (.seq
 (.reg [mv 6 0,
 ii 7 .len [.t 6],
 ii 8 (.mov false) [.c (.p (.int .i64 0))]])
 (.block 0
 (.loop [4, 5, 6, 9, 10, 11, 12, 13, 14, 15, 16, 17, 18] []
 (.seq
 (.reg [b2 9 .lss 8 7])
 (.seq
 (.cond (.t 9)
 .skip
 (.exit 0))
 (.seq
 (.block 1
 (.seq
 (.reg [mv 10 8,
 mt 5 10])
 (.seq
 (.reg [mv 11 1,
 mv 12 0,
 mv 13 5,
 ii 14 (.iad 3) [.t 12, .t 13],
 ii 15 (.load 3 true false) [.t 14],
 ii 16 .callv [.t 11, .t 15]])
 (.cond (.t 16)
 (.seq
 (.reg [mv 17 5,
 mt 4 17])
 .ret)
 .skip))))
 (.reg [b1 18 .add 8 (.int .i64 1),
 mv 8 18])))))))
 (.seq
 (.reg [mc 4 (.int .i64 (-1))])
 .ret)))⟩
theorem k247 : chkF Tryz.prog 247 F247 = true := by kernel_rfl
def F239 : Fn := ⟨19, 0, [.tmp 4],
 (.seq
 (.reg [mc 4 (.int .i64 0)])
 (.seq
 (.seq
 (.reg [mv 6 0,
 ii 7 .len [.t 6],
 ii 8 (.mov false) [.c (.p (.int .i64 0))]])
 (.block 0
 (.loop [4, 5, 6, 9, 10, 11, 12, 13, 14, 15, 16, 17, 18] []
 (.seq
 (.reg [b2 9 .lss 8 7])
 (.seq
 (.cond (.t 9)
 .skip
 (.exit 0))
 (.seq
 (.block 1
 (.seq
 (.reg [mv 10 8,
 mt 5 10])
 (.seq
 (.reg [mv 11 1,
 mv 12 0,
 mv 13 5,
 ii 14 (.iad 4) [.t 12, .t 13],
 ii 15 (.load 4 true false) [.t 14],
 ii 16 .callv [.t 11, .t 15]])
 (.cond (.t 16)
 (.seq
 (.reg [mv 17 5,
 mt 4 17])
 .ret)
 .skip))))
 (.reg [b1 18 .add 8 (.int .i64 1),
 mv 8 18])))))))
 (.seq
 (.reg [mc 4 (.int .i64 (-1))])
 .ret)))⟩
theorem k239 : chkF Tryz.prog 239 F239 = true := by kernel_rfl
def F237 : Fn := ⟨9, 0, [.tmp 4],
 (.seq
 (.reg [mc 4 (.bool false)])
 (.seq
 (.reg [mv 5 0,
 mv 6 1,
 ii 7 (.call 248) [.t 5, .t 6],
 b1 8 .geq 7 (.int .i64 0),
 mt 4 8])
 .ret))⟩
theorem k237 : chkF Tryz.prog 237 F237 = true := by kernel_rfl
def F238 : Fn := ⟨14, 1, [.tmp 3],
 (.seq
 (.reg [ii 2 (.box 0 4) [.t 0],
 mc 3 (.bool false)])
 (.seq
 (.reg [fa 4 0 2,
 ld 5 4,
 b1 6 .lss 5 (.int .i64 0),
 mv 7 6,
 gf 8 7 (.fad 0) [.t 2],
 gf 9 7 (.load 1 false false) [.t 8],
 gf 10 7 (.fad 0) [.t 1],
 gf 11 7 (.load 1 false false) [.t 10],
 gf 12 7 (.bin .geq) [.t 9, .t 11],
 ii 13 .pick [.t 7, .c (.p (.bool true)), .t 12],
 mt 3 13])
 .ret))⟩
theorem k238 : chkF Tryz.prog 238 F238 = true := by kernel_rfl
def F251 : Fn := ⟨104, 5, [.tmp 0],
 (.seq
 (.reg [mc 0 (.bool false)])
 (.seq
 (.gp (.reg [ii 11 (.bsl 1 1) [.c (.p (.int .i64 0))],
 ⟨some 12, none, .build [.int .i64 0, .int .i64 0, .int .i64 0, .int .i64 0, .sl 1 true []] [(0, 1), (1, 1), (2, 1), (4, 1)], [.c (.p (.int .i64 2)), .c (.p (.int .i64 1)), .c (.p (.int .i64 1)), .t 11]⟩,
 ⟨some 1, none, .alloc 0 5 [.p (.int .i64 0), .p (.int .i64 0), .p (.int .i64 0), .p (.int .i64 0), .ow 1 true []], []⟩,
 ⟨none, none, .store 5, [.t 1, .t 12]⟩]) (.lay 0 5))
 (.seq
 (.gp (.reg [⟨some 13, none, .build [.int .i64 0, .int .i64 0, .int .i64 0] [(1, 1), (2, 1)], [.c (.p (.int .i64 1)), .c (.p (.int .i64 2))]⟩,
 ii 14 (.bsl 3 1) [.t 13],
 ⟨some 15, none, .build [.int .i64 0, .int .i64 0, .int .i64 0, .sl 3 true []] [(0, 1), (1, 1), (2, 1), (3, 1)], [.c (.p (.int .i64 3)), .c (.p (.int .i64 8)), .c (.p (.int .i64 10)), .t 14]⟩,
 ⟨some 2, none, .alloc 1 4 [.p (.int .i64 0), .p (.int .i64 0), .p (.int .i64 0), .ow 3 true []], []⟩,
 ⟨none, none, .store 4, [.t 2, .t 15]⟩]) (.lay 1 4))
 (.seq
 (.regd [ii 16 (.at 0 (.load 5 true false)) [.t 1],
 ii 17 (.pl (.call 252)) [.t 16],
 ii 18 (.at 1 (.load 4 true false)) [.t 2],
 ii 19 (.pl (.call 253)) [.t 18],
 mt 3 17,
 mt 4 19])
 (.seq
 (.gp (.reg [mv 21 3,
 ii 22 (.call 254) [.t 21],
 mv 20 22,
 ii 23 (.ext 0) [.t 20],
 ii 24 (.ext 1) [.t 20],
 ⟨some 5, none, .alloc 2 5 [.p (.int .i64 0), .p (.int .i64 0), .p (.int .i64 0), .p (.int .i64 0), .ow 1 true []], []⟩,
 ⟨none, none, .store 5, [.t 5, .t 23]⟩,
 mt 6 24]) (.lay 2 5))
 (.seq
 (.gp (.reg [ii 26 (.load 5 true false) [.t 1],
 mv 27 4,
 ii 28 (.call 255) [.t 26, .t 27],
 mv 25 28,
 ii 29 (.ext 0) [.t 25],
 ii 30 (.ext 1) [.t 25],
 ⟨some 7, none, .alloc 3 4 [.p (.int .i64 0), .p (.int .i64 0), .p (.int .i64 0), .ow 3 true []], []⟩,
 ⟨none, none, .store 4, [.t 7, .t 29]⟩,
 mt 8 30]) (.lay 3 4))
 (.seq
 (.gp (.reg [⟨some 32, none, .build [.int .i64 0, .int .i64 0, .int .i64 0, .int .i64 0, .sl 1 true []] [(0, 1)], [.c (.p (.int .i64 1))]⟩,
 mv 33 4,
 ii 34 (.call 255) [.t 32, .t 33],
 mv 31 34,
 ii 35 (.ext 0) [.t 31],
 ii 36 (.ext 1) [.t 31],
 ⟨some 9, none, .alloc 4 4 [.p (.int .i64 0), .p (.int .i64 0), .p (.int .i64 0), .ow 3 true []], []⟩,
 ⟨none, none, .store 4, [.t 9, .t 35]⟩,
 mt 10 36]) (.lay 4 4))
 (.seq
 (.reg [ii 37 (.call 121) [],
 mv 38 37,
 gt 39 38 (.load 5 true false) [.t 1],
 gt 40 38 (.call 80) [.t 39],
 ii 41 .pick [.t 38, .t 40, .c (.p (.bool false))],
 mv 42 41,
 gt 43 42 (.load 5 true false) [.t 1],
 gt 44 42 (.load 4 true false) [.t 2],
 gt 45 42 (.call 81) [.t 43, .t 44],
 ii 46 .pick [.t 42, .t 45, .c (.p (.bool false))],
 mv 47 46,
 ⟨some 48, (some (47, true)), .build [.int .i64 0, .int .i64 0, .int .i64 0, .int .i64 0, .sl 1 true []] [], []⟩,
 gt 49 47 (.call 80) [.t 48],
 gt 50 47 (.un .not) [.t 49],
 ii 51 .pick [.t 47, .t 50, .c (.p (.bool false))],
 mv 52 51,
 gt 53 52 (.mov false) [.t 3],
 ⟨some 54, (some (52, true)), .bin .eql, [.t 53, .c (.p (.str ⟨#[99, 111, 114, 101, 115, 32, 50, 32, 115, 121, 110, 99, 115, 32, 49, 32, 108, 97, 103, 32, 49, 32, 109, 111, 118, 101, 32, 48, 32, 114, 101, 115, 32, 48]⟩))]⟩,
 ii 55 .pick [.t 52, .t 54, .c (.p (.bool false))],
 mv 56 55,
 gt 57 56 (.mov false) [.t 4],
 ⟨some 58, (some (56, true)), .bin .eql, [.t 57, .c (.p (.str ⟨#[51, 47, 56, 47, 49, 48, 32, 48, 64, 49, 43, 50]⟩))]⟩,
 ii 59 .pick [.t 56, .t 58, .c (.p (.bool false))],
 mv 60 59,
 gt 61 60 (.mov false) [.t 6],
 gt 62 60 (.bin .eql) [.t 61, .c (.p (.int .i64 0))],
 ii 63 .pick [.t 60, .t 62, .c (.p (.bool false))],
 mv 64 63,
 gt 65 64 (.fad 0) [.t 5],
 gt 66 64 (.load 1 false false) [.t 65],
 gt 67 64 (.bin .eql) [.t 66, .c (.p (.int .i64 2))],
 ii 68 .pick [.t 64, .t 67, .c (.p (.bool false))],
 mv 69 68,
 gt 70 69 (.fad 4) [.t 5],
 gt 71 69 (.load 1 false false) [.t 70],
 gt 72 69 .len [.t 71],
 gt 73 69 (.bin .eql) [.t 72, .c (.p (.int .i64 1))],
 ii 74 .pick [.t 69, .t 73, .c (.p (.bool false))],
 mv 75 74,
 gt 76 75 (.mov false) [.t 8],
 gt 77 75 (.bin .eql) [.t 76, .c (.p (.int .i64 0))],
 ii 78 .pick [.t 75, .t 77, .c (.p (.bool false))],
 mv 79 78,
 gt 80 79 (.load 4 true false) [.t 7],
 gt 81 79 (.load 4 true false) [.t 2],
 gt 82 79 (.call 256) [.t 80, .t 81],
 ii 83 .pick [.t 79, .t 82, .c (.p (.bool false))],
 mv 84 83,
 gt 85 84 (.mov false) [.t 10],
 gt 86 84 (.bin .eql) [.t 85, .c (.p (.int .i64 1))],
 ii 87 .pick [.t 84, .t 86, .c (.p (.bool false))],
 mv 88 87,
 ⟨some 89, (some (88, true)), .build [.int .i64 0, .int .i64 0, .int .i64 0] [(0, 1), (1, 1), (2, 1)], [.c (.p (.int .i64 1)), .c (.p (.int .i64 1)), .c (.p (.int .i64 1))]⟩,
 gt 90 88 (.call 234) [.t 89],
 ii 91 .pick [.t 88, .t 90, .c (.p (.bool false))],
 mv 92 91,
 gt 93 92 (.load 5 true false) [.t 1],
 ⟨some 94, (some (92, true)), .build [.int .i64 0, .int .i64 0, .int .i64 0, .int .i64 0] [(0, 1), (2, 1), (3, 1)], [.c (.p (.int .i64 1)), .c (.p (.int .i64 3)), .c (.p (.int .i64 3))]⟩,
 gt 95 92 (.call 242) [.t 93, .t 94],
 ii 96 .pick [.t 92, .t 95, .c (.p (.bool false))],
 mv 97 96,
 gt 98 97 (.load 5 true false) [.t 1],
 gt 99 97 (.load 4 true false) [.t 2],
 gt 100 97 (.call 257) [.t 98, .t 99],
 gt 101 97 .len [.t 100],
 gt 102 97 (.bin .eql) [.t 101, .c (.p (.int .i64 1))],
 ii 103 .pick [.t 97, .t 102, .c (.p (.bool false))],
 mt 0 103])
 .ret))))))))⟩
theorem k251 : chkF Tryz.prog 251 F251 = true := by kernel_rfl
def F248 : Fn := ⟨19, 0, [.tmp 4],
 (.seq
 (.reg [mc 4 (.int .i64 0)])
 (.seq
 (.seq
 (.reg [mv 6 0,
 ii 7 .len [.t 6],
 ii 8 (.mov false) [.c (.p (.int .i64 0))]])
 (.block 0
 (.loop [4, 5, 6, 9, 10, 11, 12, 13, 14, 15, 16, 17, 18] []
 (.seq
 (.reg [b2 9 .lss 8 7])
 (.seq
 (.cond (.t 9)
 .skip
 (.exit 0))
 (.seq
 (.block 1
 (.seq
 (.reg [mv 10 8,
 mt 5 10])
 (.seq
 (.reg [mv 11 1,
 mv 12 0,
 mv 13 5,
 ii 14 (.iad 4) [.t 12, .t 13],
 ii 15 (.load 4 true false) [.t 14],
 ii 16 .callv [.t 11, .t 15]])
 (.cond (.t 16)
 (.seq
 (.reg [mv 17 5,
 mt 4 17])
 .ret)
 .skip))))
 (.reg [b1 18 .add 8 (.int .i64 1),
 mv 8 18])))))))
 (.seq
 (.reg [mc 4 (.int .i64 (-1))])
 .ret)))⟩
theorem k248 : chkF Tryz.prog 248 F248 = true := by kernel_rfl
def F252 : Fn := ⟨44, 1, [.tmp 2],
 (.seq
 (.reg [ii 1 (.box 0 5) [.t 0],
 ⟨some 2, none, .mov true, [.c (.p (.str ⟨#[]⟩))]⟩])
 (.seq
 (.seq
 (.reg [ii 6 (.load 5 true false) [.t 1],
 ii 7 (.call 80) [.t 6],
 ii 8 (.un .not) [.t 7]])
 (.cond (.t 8)
 (.seq
 (.reg [⟨some 2, none, .mov true, [.c (.p (.str ⟨#[]⟩))]⟩])
 .ret)
 .skip))
 (.seq
 (.regd [fa 9 0 1,
 ii 10 (.at 0 (.load 1 false false)) [.t 9],
 ii 11 (.pl (.call 258)) [.t 10],
 fa 12 1 1,
 ii 13 (.at 0 (.load 1 false false)) [.t 12],
 ii 14 (.pl (.call 258)) [.t 13],
 fa 15 2 1,
 ii 16 (.at 0 (.load 1 false false)) [.t 15],
 ii 17 (.pl (.call 258)) [.t 16],
 fa 18 3 1,
 ii 19 (.at 0 (.load 1 false false)) [.t 18],
 ii 20 (.pl (.call 258)) [.t 19],
 ⟨some 21, none, .bsl 1 8, [.c (.p (.str ⟨#[99, 111, 114, 101, 115]⟩)), .t 11, .c (.p (.str ⟨#[115, 121, 110, 99, 115]⟩)), .t 14, .c (.p (.str ⟨#[108, 97, 103]⟩)), .t 17, .c (.p (.str ⟨#[109, 111, 118, 101]⟩)), .t 20]⟩,
 mt 3 21])
 (.seq
 (.seq
 (.reg [fa 22 4 1,
 ld 23 22,
 ii 24 .len [.t 23],
 b1 25 .gtr 24 (.int .i64 0)])
 (.cond (.t 25)
 (.reg [mt 26 3,
 ⟨some 27, none, .bsl 1 1, [.c (.p (.str ⟨#[114, 101, 115]⟩))]⟩,
 ii 28 (.app 1 16) [.t 26, .t 27],
 mt 3 28])
 .skip))
 (.seq
 (.seq
 (.reg [fa 29 4 1,
 ld 30 29,
 ii 31 .len [.t 30],
 ii 32 (.mov false) [.c (.p (.int .i64 0))]])
 (.block 0
 (.loop [0, 1, 2, 5, 6, 7, 8, 9, 10, 11, 12, 13, 14, 15, 16, 17, 18, 19, 20, 21, 22, 23, 24, 25, 26, 27, 28, 29, 33, 34, 35, 36, 37, 38, 39, 40, 41, 42, 43] []
 (.seq
 (.reg [b2 33 .lss 32 31])
 (.seq
 (.cond (.t 33)
 .skip
 (.exit 0))
 (.seq
 (.block 1
 (.seq
 (.reg [ii 34 (.iad 1) [.t 30, .t 32],
 ld 35 34,
 mt 5 35])
 (.reg [mt 36 3,
 mv 37 5,
 ii 38 (.call 258) [.t 37],
 ii 39 (.bsl 1 1) [.t 38],
 ii 40 (.app 1 16) [.t 36, .t 39],
 mt 3 40])))
 (.reg [b1 41 .add 32 (.int .i64 1),
 mv 32 41])))))))
 (.seq
 (.reg [mv 42 3,
 ⟨some 43, none, .call 259, [.t 42, .c (.p (.str ⟨#[32]⟩))]⟩,
 mt 2 43])
 .ret))))))⟩
theorem k252 : chkF Tryz.prog 252 F252 = true := by kernel_rfl
def F253 : Fn := ⟨48, 2, [.tmp 2],
 (.seq
 (.reg [ii 1 (.box 0 4) [.t 0],
 ⟨some 2, none, .mov true, [.c (.p (.str ⟨#[]⟩))]⟩])
 (.seq
 (.seq
 (.regd [ii 6 (.pl (.call 260)) [],
 ii 7 (.at 0 (.load 4 true false)) [.t 1],
 ii 8 (.pl (.call 81)) [.t 6, .t 7],
 ii 9 (.un .not) [.t 8]])
 (.cond (.t 9)
 (.seq
 (.reg [⟨some 2, none, .mov true, [.c (.p (.str ⟨#[]⟩))]⟩])
 .ret)
 .skip))
 (.seq
 (.regd [fa 10 0 1,
 ii 11 (.at 0 (.load 1 false false)) [.t 10],
 ii 12 (.pl (.call 258)) [.t 11],
 ⟨some 13, none, .bin .add, [.t 12, .c (.p (.str ⟨#[47]⟩))]⟩,
 fa 14 1 1,
 ii 15 (.at 0 (.load 1 false false)) [.t 14],
 ii 16 (.pl (.call 258)) [.t 15],
 b2 17 .add 13 16,
 ⟨some 18, none, .bin .add, [.t 17, .c (.p (.str ⟨#[47]⟩))]⟩,
 fa 19 2 1,
 ii 20 (.at 0 (.load 1 false false)) [.t 19],
 ii 21 (.pl (.call 258)) [.t 20],
 b2 22 .add 18 21,
 mt 3 22])
 (.seq
 (.seq
 (.reg [fa 23 3 1,
 ld 24 23,
 ii 25 .len [.t 24],
 ii 26 (.mov false) [.c (.p (.int .i64 0))]])
 (.block 0
 (.loop [0, 1, 2, 5, 6, 7, 8, 9, 10, 11, 12, 13, 14, 15, 16, 17, 18, 19, 20, 21, 22, 23, 27, 28, 29, 30, 31, 32, 33, 34, 35, 36, 37, 38, 39, 40, 41, 42, 43, 44, 45, 46, 47] [1]
 (.seq
 (.reg [b2 27 .lss 26 25])
 (.seq
 (.cond (.t 27)
 .skip
 (.exit 0))
 (.seq
 (.block 1
 (.seq
 (.gp (.reg [ii 28 (.iad 3) [.t 24, .t 26],
 ii 29 (.load 3 true false) [.t 28],
 ⟨some 5, none, .alloc 1 3 [.p (.int .i64 0), .p (.int .i64 0), .p (.int .i64 0)], []⟩,
 ⟨none, none, .store 3, [.t 5, .t 29]⟩]) (.lay 1 3))
 (.regd [mv 30 3,
 fa 31 0 5,
 ii 32 (.at 1 (.load 1 false false)) [.t 31],
 ii 33 (.pl (.call 258)) [.t 32],
 ⟨some 34, none, .bin .add, [.c (.p (.str ⟨#[32]⟩)), .t 33]⟩,
 ⟨some 35, none, .bin .add, [.t 34, .c (.p (.str ⟨#[64]⟩))]⟩,
 fa 36 1 5,
 ii 37 (.at 1 (.load 1 false false)) [.t 36],
 ii 38 (.pl (.call 258)) [.t 37],
 b2 39 .add 35 38,
 ⟨some 40, none, .bin .add, [.t 39, .c (.p (.str ⟨#[43]⟩))]⟩,
 fa 41 2 5,
 ii 42 (.at 1 (.load 1 false false)) [.t 41],
 ii 43 (.pl (.call 258)) [.t 42],
 b2 44 .add 40 43,
 b2 45 .add 30 44,
 mt 3 45])))
 (.reg [b1 46 .add 26 (.int .i64 1),
 mv 26 46])))))))
 (.seq
 (.reg [mv 47 3,
 mt 2 47])
 .ret)))))⟩
theorem k253 : chkF Tryz.prog 253 F253 = true := by kernel_rfl
def F254 : Fn := ⟨55, 2, [.cell 2 5, .tmp 3],
 (.seq
 (.reg [⟨some 2, none, .alloc 0 5 [.p (.int .i64 0), .p (.int .i64 0), .p (.int .i64 0), .p (.int .i64 0), .ow 1 true []], []⟩,
 mc 3 (.int .i64 0)])
 (.seq
 (.reg [mv 8 0,
 ⟨some 9, none, .call 261, [.t 8, .c (.p (.str ⟨#[32]⟩))]⟩,
 mt 4 9])
 (.seq
 (.seq
 (.reg [mv 10 4,
 ii 11 .len [.t 10],
 b1 12 .lss 11 (.int .i64 8)])
 (.cond (.t 12)
 (.seq
 (.gp (.reg [⟨some 13, none, .build [.int .i64 0, .int .i64 0, .int .i64 0, .int .i64 0, .sl 1 true []] [], []⟩,
 ⟨none, none, .store 5, [.t 2, .t 13]⟩,
 mc 3 (.int .i64 1)]) (.lay 0 5))
 .ret)
 .skip))
 (.seq
 (.gp (.pre [5, 41, 47] [] [1] (.rega [mv 14 4,
 ii 15 (.iad 1) [.t 14, .c (.p (.int .i64 1))],
 ii 16 (.loadp 1 false) [.t 15],
 ii 17 (.pl (.call 262)) [.t 16],
 mv 18 4,
 ii 19 (.iad 1) [.t 18, .c (.p (.int .i64 3))],
 ii 20 (.loadp 1 false) [.t 19],
 ii 21 (.pl (.call 262)) [.t 20],
 mv 22 4,
 ii 23 (.iad 1) [.t 22, .c (.p (.int .i64 5))],
 ii 24 (.loadp 1 false) [.t 23],
 ii 25 (.pl (.call 262)) [.t 24],
 mv 26 4,
 ii 27 (.iad 1) [.t 26, .c (.p (.int .i64 7))],
 ii 28 (.loadp 1 false) [.t 27],
 ii 29 (.pl (.call 262)) [.t 28],
 ⟨some 30, none, .build [.int .i64 0, .int .i64 0, .int .i64 0, .int .i64 0, .sl 1 true []] [(0, 1), (1, 1), (2, 1), (3, 1)], [.t 17, .t 21, .t 25, .t 29]⟩,
 ⟨some 5, none, .alloc 1 5 [.p (.int .i64 0), .p (.int .i64 0), .p (.int .i64 0), .p (.int .i64 0), .ow 1 true []], []⟩,
 ⟨none, none, .at 1 (.store 5), [.t 5, .t 30]⟩])) (.lay 1 5))
 (.seq
 (.seq
 (.reg [mv 31 4,
 mv 32 4,
 ii 33 .len [.t 32],
 ii 34 .mn [.c (.p (.int .i64 9)), .t 33],
 ii 35 (.slc 1 true false) [.t 31, .t 34],
 ii 36 .len [.t 35],
 ii 37 (.mov false) [.c (.p (.int .i64 0))]])
 (.block 0
 (.loop [3, 4, 7, 8, 9, 10, 11, 12, 13, 14, 15, 16, 17, 18, 19, 20, 21, 22, 23, 24, 25, 26, 27, 28, 29, 30, 31, 32, 33, 34, 38, 39, 40, 41, 42, 43, 44, 45, 46, 47, 48, 49, 50, 51, 52, 53, 54] []
 (.seq
 (.reg [b2 38 .lss 37 36])
 (.seq
 (.cond (.t 38)
 .skip
 (.exit 0))
 (.seq
 (.block 1
 (.seq
 (.reg [ii 39 (.iad 1) [.t 35, .t 37],
 ld 40 39,
 mt 7 40])
 (.gp (.regd [fa 41 4 5,
 ii 42 (.at 1 (.load 1 false true)) [.t 41],
 mv 43 7,
 ii 44 (.pl (.call 262)) [.t 43],
 ii 45 (.bsl 1 1) [.t 44],
 ii 46 (.pl (.app 1 8)) [.t 42, .t 45],
 fa 47 4 5,
 ⟨none, none, .at 1 (.store 1), [.t 47, .t 46]⟩]) (.lay 1 5))))
 (.reg [b1 48 .add 37 (.int .i64 1),
 mv 37 48])))))))
 (.seq
 (.seq
 (.reg [ii 49 (.load 5 true false) [.t 5],
 ii 50 (.call 252) [.t 49],
 mv 51 0,
 b2 52 .neq 50 51])
 (.cond (.t 52)
 (.seq
 (.gp (.reg [⟨some 53, none, .build [.int .i64 0, .int .i64 0, .int .i64 0, .int .i64 0, .sl 1 true []] [], []⟩,
 ⟨none, none, .store 5, [.t 2, .t 53]⟩,
 mc 3 (.int .i64 1)]) (.lay 0 5))
 .ret)
 .skip))
 (.seq
 (.gp (.reg [ii 54 (.load 5 true false) [.t 5],
 ⟨none, none, .store 5, [.t 2, .t 54]⟩,
 mc 3 (.int .i64 0)]) (.lay 0 5))
 .ret)))))))⟩
theorem k254 : chkF Tryz.prog 254 F254 = true := by kernel_rfl
end Go.Proofs.YtnjphclbpgajpaaGreatDoor.Vc
namespace Go.Proofs.YtnjphclbpgajpaaGreatDoor.Ma
structure Ld where
 c : Int
 d : Int
 t : Int
deriving DecidableEq
def Ld.ok (x : Ld) : Bool := decide (1 ≤ x.c) && decide (x.c ≤ 20000) && (decide (1 ≤ x.d) && decide (x.d ≤ x.t) && decide (x.t ≤ 200))
theorem Ld.ok_iff {x : Ld} : x.ok = true ↔ (1 ≤ x.c ∧ x.c ≤ 20000) ∧ (1 ≤ x.d ∧ x.d ≤ x.t) ∧ x.t ≤ 200 := by simp [Ld.ok, and_assoc]
def mayL (l : List Ld) : Bool := decide (l.length ≤ 24) && l.all Ld.ok
theorem mayL_iff {l : List Ld} : mayL l = true ↔ l.length ≤ 24 ∧ ∀ x, x ∈ l → x.ok = true := by simp [mayL]
def sumL (f : Ld → Int) : List Ld → Int
 | [] => 0
 | x :: xs => f x + sumL f xs
theorem sumL_append (f : Ld → Int) (a b : List Ld) : sumL f (a ++ b) = sumL f a + sumL f b := by
 induction a with
 | nil => simp [sumL]
 | cons x xs ih => simp [sumL, ih]; omega
theorem sumL_le {f g : Ld → Int} {l : List Ld} (h : ∀ x, x ∈ l → f x ≤ g x) : sumL f l ≤ sumL g l := by
 induction l with
 | nil => exact Int.le_refl _
 | cons x xs ih =>
  have := h x (List.mem_cons_self ..)
  have := ih fun y hy => h y (List.mem_cons_of_mem _ hy)
  simp only [sumL]; omega
theorem sumL_bound {f : Ld → Int} {l : List Ld} {B : Int} (h : ∀ x, x ∈ l → 0 ≤ f x ∧ f x ≤ B) : 0 ≤ sumL f l ∧ sumL f l ≤ l.length * B := by
 induction l with
 | nil => simp [sumL]
 | cons x xs ih =>
  have h1 := h x (List.mem_cons_self ..)
  have h2 := ih fun y hy => h y (List.mem_cons_of_mem _ hy)
  simp only [sumL, List.length_cons, Int.natCast_succ, Int.add_mul, Int.one_mul]
  omega
theorem sumL_congr {f g : Ld → Int} {l : List Ld} (h : ∀ x, x ∈ l → f x = g x) : sumL f l = sumL g l := by
 induction l with
 | nil => rfl
 | cons x xs ih => simp only [sumL]; rw [h x (List.mem_cons_self ..), ih fun y hy => h y (List.mem_cons_of_mem _ hy)]
def ask1 (t : Int) (x : Ld) : Int := x.c * ((t - 1) / x.t + 1)
def asked (l : List Ld) (t : Int) : Int := sumL (ask1 t) l
def due1 (t : Int) (x : Ld) : Int := if x.d > t then 0 else x.c * ((t - x.d) / x.t + 1)
def dueL (l : List Ld) (t : Int) : Int := sumL (due1 t) l
theorem ask1_bound {x : Ld} (hx : x.ok = true) {t : Int} (h1 : 1 ≤ t) (h2 : t ≤ 20000) : 1 ≤ ask1 t x ∧ ask1 t x ≤ 400000000 := by
 rw [Ld.ok_iff] at hx
 have h3 : 0 ≤ (t - 1) / x.t := Int.ediv_nonneg (by omega) (by omega)
 have h4 : (t - 1) / x.t ≤ t - 1 := Int.ediv_le_self _ (by omega)
 unfold ask1
 refine ⟨?_, ?_⟩
 ·calc (1 : Int) = 1 * 1 := by omega
   _ ≤ x.c * ((t - 1) / x.t + 1) := Int.mul_le_mul (by omega) (by omega) (by omega) (by omega)
 ·calc x.c * ((t - 1) / x.t + 1) ≤ 20000 * 20000 := Int.mul_le_mul (by omega) (by omega) (by omega) (by omega)
   _ = 400000000 := by omega
theorem due1_bound {x : Ld} (hx : x.ok = true) {t : Int} (h2 : t ≤ 20000) : 0 ≤ due1 t x ∧ due1 t x ≤ 400000000 := by
 rw [Ld.ok_iff] at hx
 unfold due1
 split
 ·omega
 ·have h3 : 0 ≤ (t - x.d) / x.t := Int.ediv_nonneg (by omega) (by omega)
  have h4 : (t - x.d) / x.t ≤ t - x.d := Int.ediv_le_self _ (by omega)
  refine ⟨Int.mul_nonneg (by omega) (by omega), ?_⟩
  calc x.c * ((t - x.d) / x.t + 1) ≤ 20000 * 20000 := Int.mul_le_mul (by omega) (by omega) (by omega) (by omega)
   _ = 400000000 := by omega
theorem ask1_mono {x : Ld} (hx : x.ok = true) {s t : Int} (h : s ≤ t) : ask1 s x ≤ ask1 t x := by
 rw [Ld.ok_iff] at hx
 have h3 : (s - 1) / x.t ≤ (t - 1) / x.t := Int.ediv_le_ediv (by omega) (by omega)
 exact Int.mul_le_mul_of_nonneg_left (by omega) (by omega)
theorem asked_mono {l : List Ld} (hl : mayL l = true) {s t : Int} (h : s ≤ t) : asked l s ≤ asked l t := by
 rw [mayL_iff] at hl
 exact sumL_le fun x hx => ask1_mono (hl.2 x hx) h
theorem asked_pos {l : List Ld} (hl : mayL l = true) (hn : l ≠ []) {t : Int} (h : 1 ≤ t) (h2 : t ≤ 20000) : 1 ≤ asked l t := by
 rw [mayL_iff] at hl
 cases l with
 | nil => exact absurd rfl hn
 | cons x xs =>
  have h1 := ask1_bound (hl.2 x (List.mem_cons_self ..)) h h2
  have h3 : 0 ≤ sumL (ask1 t) xs ∧ sumL (ask1 t) xs ≤ xs.length * 400000000 := sumL_bound fun y hy => by have := ask1_bound (hl.2 y (List.mem_cons_of_mem _ hy)) h h2; omega
  simp only [asked, sumL]; omega
structure Busy (l : List Ld) (e : Int) : Prop where
 lo : 1 ≤ e
 hi : e ≤ 20000
 eq : asked l e = e
 least : ∀ s, 1 ≤ s → s < e → asked l s ≠ s
theorem Busy.uniq {l : List Ld} {e e' : Int} (h : Busy l e) (h' : Busy l e') : e = e' := by
 rcases Int.lt_trichotomy e e' with hlt | heq | hgt
 ·exact absurd h.eq (h'.least e h.lo hlt)
 ·exact heq
 ·exact absurd h'.eq (h.least e' h'.lo hgt)
theorem busy_of_le {l : List Ld} (hl : mayL l = true) (hn : l ≠ []) {e : Int} (h1 : 1 ≤ e) (h2 : e ≤ 20000) (h : asked l e ≤ e) : ∃ e', Busy l e' ∧ e' ≤ e := by
 obtain ⟨n, rfl⟩ := Int.eq_ofNat_of_zero_le (show 0 ≤ e by omega)
 induction n using Nat.strongRecOn with
 | ind n ih =>
  by_cases hs : ∃ m : Nat, 1 ≤ m ∧ m < n ∧ asked l m ≤ m
  ·obtain ⟨m, m1, m2, m3⟩ := hs
   obtain ⟨e', he, hle⟩ := ih m m2 (by omega) (by omega) m3
   exact ⟨e', he, by omega⟩
  ·have hno : ∀ s : Int, 1 ≤ s → s < n → ¬ asked l s ≤ s := fun s s1 s2 hle => by
    obtain ⟨m, rfl⟩ := Int.eq_ofNat_of_zero_le (show 0 ≤ s by omega)
    exact hs ⟨m, by omega, by omega, hle⟩
   refine ⟨n, ⟨h1, h2, ?_, fun s s1 s2 e => hno s s1 s2 (by omega)⟩, Int.le_refl _⟩
   by_cases hb : (n : Int) = 1
   ·have := asked_pos hl hn h1 h2; omega
   ·have := hno (n - 1) (by omega) (by omega)
    have := asked_mono hl (s := (n : Int) - 1) (t := n) (by omega)
    omega
def FitsP (l : List Ld) : Prop := mayL l = true ∧ (l = [] ∨ ∃ e, Busy l e ∧ ∀ t, 1 ≤ t → t ≤ e → dueL l t ≤ t)
open Classical in
noncomputable def fitsB (l : List Ld) : Bool := decide (FitsP l)
theorem fitsB_iff {l : List Ld} : fitsB l = true ↔ FitsP l := by simp [fitsB]
theorem fitsB_false {l : List Ld} : fitsB l = false ↔ ¬ FitsP l := by simp [fitsB]
theorem FitsP.less {l : List Ld} {c c' d t : Int} (hf : FitsP (l ++ [⟨c, d, t⟩])) (h1 : 1 ≤ c') (h2 : c' ≤ c) : FitsP (l ++ [⟨c', d, t⟩]) := by
 obtain ⟨hm, hf⟩ := hf
 have hm0 := mayL_iff.1 hm
 have hc := Ld.ok_iff.1 (hm0.2 ⟨c, d, t⟩ (by simp))
 have hm' : mayL (l ++ [⟨c', d, t⟩]) = true := by
  rw [mayL_iff]
  refine ⟨by simpa using hm0.1, fun x hx => ?_⟩
  rcases List.mem_append.1 hx with hx | hx
  ·exact hm0.2 x (by simp [hx])
  ·simp only [List.mem_singleton] at hx
   subst hx
   rw [Ld.ok_iff]
   simp only at hc ⊢
   omega
 have ha : ∀ s : Int, 1 ≤ s → asked (l ++ [⟨c', d, t⟩]) s ≤ asked (l ++ [⟨c, d, t⟩]) s := by
  intro s hs
  simp only [asked, sumL_append, sumL, ask1]
  have h3 : 0 ≤ (s - 1) / t := Int.ediv_nonneg (by omega) (by simp only at hc; omega)
  have := Int.mul_le_mul_of_nonneg_right h2 (show 0 ≤ (s - 1) / t + 1 by omega)
  omega
 have hd : ∀ s : Int, dueL (l ++ [⟨c', d, t⟩]) s ≤ dueL (l ++ [⟨c, d, t⟩]) s := by
  intro s
  simp only [dueL, sumL_append, sumL, due1]
  split
  ·omega
  ·have h3 : 0 ≤ (s - d) / t := Int.ediv_nonneg (by omega) (by simp only at hc; omega)
   have := Int.mul_le_mul_of_nonneg_right h2 (show 0 ≤ (s - d) / t + 1 by omega)
   omega
 refine ⟨hm', .inr ?_⟩
 rcases hf with hf | ⟨e, he, hdue⟩
 ·simp at hf
 ·obtain ⟨e', he', hle⟩ := busy_of_le hm' (by simp) he.lo he.hi (by have := ha e he.lo; have := he.eq; omega)
  exact ⟨e', he', fun s s1 s2 => by have := hdue s s1 (by omega); have := hd s; omega⟩
theorem due1_step {x : Ld} (hx : x.ok = true) (t : Int) : due1 t x = due1 (t - 1) x + if t ≥ x.d ∧ (t - x.d) % x.t = 0 then x.c else 0 := by
 rw [Ld.ok_iff] at hx
 unfold due1
 by_cases h1 : x.d > t
 ·rw [if_pos h1, if_pos (by omega), if_neg (by omega)]; omega
 ·rw [if_neg h1]
  by_cases h2 : x.d > t - 1
  ·have : t = x.d := by omega
   subst this
   rw [if_pos h2, if_pos ⟨by omega, by simp⟩]
   simp
  ·rw [if_neg h2]
   have e1 := Int.mul_ediv_add_emod (t - x.d) x.t
   by_cases h3 : (t - x.d) % x.t = 0
   ·rw [if_pos ⟨by omega, h3⟩]
    have e2 : (t - 1 - x.d) / x.t = (t - x.d) / x.t - 1 := by
     have : t - 1 - x.d = (x.t - 1) + x.t * ((t - x.d) / x.t - 1) := by
      rw [Int.mul_sub]; omega
     rw [this, Int.add_mul_ediv_left _ _ (by omega), Int.ediv_eq_zero_of_lt (by omega) (by omega)]; omega
    rw [e2]
    have : (t - x.d) / x.t - 1 + 1 = (t - x.d) / x.t := by omega
    rw [this, Int.mul_add]; omega
   ·rw [if_neg fun h => h3 h.2]
    have hlt := Int.emod_lt_of_pos (t - x.d) (show 0 < x.t by omega)
    have hge := Int.emod_nonneg (t - x.d) (show x.t ≠ 0 by omega)
    have e2 : (t - 1 - x.d) / x.t = (t - x.d) / x.t := by
     have : t - 1 - x.d = ((t - x.d) % x.t - 1) + x.t * ((t - x.d) / x.t) := by omega
     rw [this, Int.add_mul_ediv_left _ _ (by omega), Int.ediv_eq_zero_of_lt (by omega) (by omega)]; omega
    rw [e2]; omega
theorem due_zero {l : List Ld} (hl : mayL l = true) : dueL l 0 = 0 := by
 rw [mayL_iff] at hl
 have : dueL l 0 = sumL (fun _ => 0) l := sumL_congr fun x hx => by
  have := Ld.ok_iff.1 (hl.2 x hx)
  unfold due1
  rw [if_pos (by omega)]
 rw [this]
 clear this hl
 induction l with
 | nil => rfl
 | cons x xs ih => simp [sumL, ih]
theorem due_le_of {l : List Ld} (hl : mayL l = true) {F : Int} (h : ∀ x, x ∈ l → ∀ k : Int, 0 ≤ k → x.d + k * x.t < F → dueL l (x.d + k * x.t) ≤ x.d + k * x.t) : ∀ t, 0 ≤ t → t < F → dueL l t ≤ t := by
 intro t ht
 obtain ⟨n, rfl⟩ := Int.eq_ofNat_of_zero_le ht
 clear ht
 induction n with
 | zero => intro _; have := due_zero hl; simp only [Int.natCast_zero] at *; omega
 | succ n ih =>
  intro hF
  simp only [Int.natCast_succ] at *
  by_cases hx : ∃ x, x ∈ l ∧ ((n : Int) + 1 ≥ x.d ∧ ((n : Int) + 1 - x.d) % x.t = 0)
  ·obtain ⟨x, hx, h1, h2⟩ := hx
   have hok := Ld.ok_iff.1 ((mayL_iff.1 hl).2 x hx)
   have e1 := Int.mul_ediv_add_emod ((n : Int) + 1 - x.d) x.t
   have e2 : (n : Int) + 1 = x.d + ((n : Int) + 1 - x.d) / x.t * x.t := by rw [Int.mul_comm]; omega
   have := h x hx (((n : Int) + 1 - x.d) / x.t) (Int.ediv_nonneg (by omega) (by omega)) (by omega)
   rw [← e2] at this
   exact this
  ·have : dueL l ((n : Int) + 1) = dueL l n := sumL_congr fun x hm => by
    rw [due1_step ((mayL_iff.1 hl).2 x hm), if_neg fun hh => hx ⟨x, hm, hh⟩]
    have : (n : Int) + 1 - 1 = n := by omega
    rw [this]; omega
   have := ih (by omega)
   omega
end Go.Proofs.YtnjphclbpgajpaaGreatDoor.Ma
