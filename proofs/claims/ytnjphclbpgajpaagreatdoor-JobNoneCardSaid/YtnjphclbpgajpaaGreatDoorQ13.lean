/- Part of a proof over a Go program: Fl, Cp, Cpl, Fj, Cj. No condition. -/
import Derived.Test.YtnjphclbpgajpaaGreatDoorQ10
import Derived.Test.YtnjphclbpgajpaaGreatDoorProg
import Derived.Test.YtnjphclbpgajpaaGreatDoorQ12
set_option linter.unnecessarySimpa false
set_option linter.unusedSectionVars false
set_option linter.unusedSimpArgs false
set_option linter.unusedVariables false
set_option maxHeartbeats 4000000
set_option maxRecDepth 100000
namespace Go.Proofs.YtnjphclbpgajpaaGreatDoor.Vc
open Go.RowKit
def F14 : Fn := ⟨91, 1, [.tmp 0],
 (.seq
 (.reg [mc 0 (.bool false)])
 (.seq
 (.reg [mc 1 (.atom (.pointer none))])
 (.seq
 (.reg [mc 2 (.atom (.pointer none))])
 (.seq
 (.reg [mc 3 (.atom (.pointer none))])
 (.seq
 (.reg [mv 9 2,
 ii 10 (.ob (.callo 38 false)) [.t 9],
 mv 8 10,
 ii 11 (.ext 0) [.t 8],
 ii 12 (.ext 1) [.t 8],
 mt 4 11,
 mt 5 12])
 (.seq
 (.gp (.reg [mv 14 3,
 ii 15 (.ob (.callo 41 true)) [.t 14, .c (.p (.int .i64 1))],
 mv 13 15,
 ii 16 (.ext 0) [.t 13],
 ii 17 (.ext 1) [.t 13],
 ⟨some 6, none, .alloc 0 5 [.p (.int .i64 0), .p (.int .i64 0), .p (.int .i64 0), .p (.int .i64 0), .p (.int .i64 0)], []⟩,
 ⟨none, none, .store 5, [.t 6, .t 16]⟩,
 mt 7 17]) (.lay 0 5))
 (.seq
 (.reg [ii 18 (.call 15) [],
 mv 19 18,
 gt 20 19 (.mov false) [.t 1],
 gt 21 19 (.ob (.callo 28 true)) [.t 20, .c (.p (.int .i64 1)), .c (.p (.int .i64 1))],
 gt 22 19 (.un .not) [.t 21],
 ii 23 .pick [.t 19, .t 22, .c (.p (.bool false))],
 mv 24 23,
 gt 25 24 (.mov false) [.t 1],
 gt 26 24 (.ob (.callo 29 false)) [.t 25, .c (.p (.int .i64 1))],
 gt 27 24 (.un .not) [.t 26],
 ii 28 .pick [.t 24, .t 27, .c (.p (.bool false))],
 mv 29 28,
 gt 30 29 (.mov false) [.t 1],
 gt 31 29 (.ob (.callo 30 false)) [.t 30],
 gt 32 29 (.bin .eql) [.t 31, .c (.p (.int .i64 0))],
 ii 33 .pick [.t 29, .t 32, .c (.p (.bool false))],
 mv 34 33,
 gt 35 34 (.mov false) [.t 1],
 gt 36 34 (.ob (.callo 31 false)) [.t 35],
 gt 37 34 (.bin .eql) [.t 36, .c (.p (.int .i64 0))],
 ii 38 .pick [.t 34, .t 37, .c (.p (.bool false))],
 mv 39 38,
 gt 40 39 (.mov false) [.t 2],
 gt 41 39 (.ob (.callo 37 false)) [.t 40, .c (.p (.int .i64 1)), .c (.p (.int .i64 1))],
 gt 42 39 (.un .not) [.t 41],
 ii 43 .pick [.t 39, .t 42, .c (.p (.bool false))],
 mv 44 43,
 gt 45 44 (.mov false) [.t 4],
 gt 46 44 (.bin .eql) [.t 45, .c (.p (.int .i64 0))],
 ii 47 .pick [.t 44, .t 46, .c (.p (.bool false))],
 mv 48 47,
 gt 49 48 (.mov false) [.t 5],
 gt 50 48 (.un .not) [.t 49],
 ii 51 .pick [.t 48, .t 50, .c (.p (.bool false))],
 mv 52 51,
 gt 53 52 (.mov false) [.t 2],
 gt 54 52 (.ob (.callo 39 false)) [.t 53],
 gt 55 52 (.bin .eql) [.t 54, .c (.p (.int .i64 0))],
 ii 56 .pick [.t 52, .t 55, .c (.p (.bool false))],
 mv 57 56,
 gt 58 57 (.mov false) [.t 2],
 gt 59 57 (.ob (.callo 40 false)) [.t 58],
 gt 60 57 (.bin .eql) [.t 59, .c (.p (.int .i64 0))],
 ii 61 .pick [.t 57, .t 60, .c (.p (.bool false))],
 mv 62 61,
 gt 63 62 (.mov false) [.t 3],
 ⟨some 64, (some (62, true)), .build [.int .i64 0, .int .i64 0, .int .i64 0, .int .i64 0, .int .i64 0] [(0, 1), (1, 1)], [.c (.p (.int .i64 1)), .c (.p (.int .i64 1))]⟩,
 gt 65 62 (.ob (.callo 33 true)) [.t 63, .t 64],
 gt 66 62 (.un .not) [.t 65],
 ii 67 .pick [.t 62, .t 66, .c (.p (.bool false))],
 mv 68 67,
 gt 69 68 (.mov false) [.t 3],
 gt 70 68 (.ob (.callo 34 true)) [.t 69, .c (.p (.int .i64 9))],
 gt 71 68 .len [.t 70],
 gt 72 68 (.bin .eql) [.t 71, .c (.p (.int .i64 0))],
 ii 73 .pick [.t 68, .t 72, .c (.p (.bool false))],
 mv 74 73,
 gt 75 74 (.mov false) [.t 7],
 gt 76 74 (.un .not) [.t 75],
 ii 77 .pick [.t 74, .t 76, .c (.p (.bool false))],
 mv 78 77,
 gt 79 78 (.mov false) [.t 3],
 gt 80 78 (.ob (.callo 35 true)) [.t 79],
 gt 81 78 (.bin .eql) [.t 80, .c (.p (.int .i64 0))],
 ii 82 .pick [.t 78, .t 81, .c (.p (.bool false))],
 mv 83 82,
 ⟨some 84, (some (83, true)), .build [.int .i64 0, .int .i64 0, .int .i64 0, .int .i64 0, .int .i64 0, .int .i64 0, .int .i64 0, .int .i64 0, .int .i64 0] [], []⟩,
 gt 85 83 (.call 22) [.t 84],
 gt 86 83 (.un .not) [.t 85],
 ii 87 .pick [.t 83, .t 86, .c (.p (.bool false))],
 mv 88 87,
 gt 89 88 (.call 42) [.c (.ow 3 true [])],
 ii 90 .pick [.t 88, .t 89, .c (.p (.bool false))],
 mt 0 90])
 .ret)))))))⟩
theorem k14 : chkF Tryz.prog 14 F14 = true := by kernel_rfl
def F4 : Fn := ⟨122, 6, [.tmp 12],
 (.seq
 (.reg [ii 6 (.box 0 5) [.t 0],
 ii 8 (.box 1 4) [.t 2],
 ii 10 (.box 2 9) [.t 4],
 mc 12 (.bool false)])
 (.seq
 (.reg [ii 20 (.call 15) [],
 mt 13 20])
 (.seq
 (.seq
 (.reg [mv 21 13,
 ii 22 (.un .not) [.t 21]])
 (.cond (.t 22)
 (.seq
 (.reg [mc 12 (.bool false)])
 .ret)
 .skip))
 (.seq
 (.gp (.reg [ii 23 (.load 5 true false) [.t 6],
 ii 24 (.call 16) [.t 23],
 ⟨none, none, .store 5, [.t 6, .t 24]⟩]) (.lay 0 5))
 (.seq
 (.gp (.reg [ii 26 (.load 5 true false) [.t 6],
 ii 27 (.load 4 true false) [.t 8],
 ii 28 (.call 17) [.t 26, .t 27],
 mv 25 28,
 ii 29 (.ext 0) [.t 25],
 ii 30 (.ext 1) [.t 25],
 ⟨none, none, .store 4, [.t 8, .t 29]⟩,
 mt 14 30]) (.lay 1 4))
 (.seq
 (.seq
 (.reg [mv 31 14,
 ii 32 (.un .not) [.t 31],
 mv 33 32,
 gf 34 33 (.mov false) [.t 5],
 gf 35 33 (.bin .lss) [.t 34, .c (.p (.int .i64 0))],
 ii 36 .pick [.t 33, .c (.p (.bool true)), .t 35],
 mv 37 36,
 gf 38 37 (.mov false) [.t 5],
 gf 39 37 (.bin .gtr) [.t 38, .c (.p (.int .i64 1099511627776))],
 ii 40 .pick [.t 37, .c (.p (.bool true)), .t 39]])
 (.cond (.t 40)
 (.seq
 (.reg [mc 12 (.bool true)])
 .ret)
 .skip))
 (.seq
 (.gp (.reg [ii 42 (.load 5 true false) [.t 6],
 mv 43 1,
 ii 44 (.load 4 true false) [.t 8],
 mv 45 3,
 ii 46 (.call 18) [.t 42, .t 43, .t 44, .t 45],
 mv 41 46,
 ii 47 (.ext 0) [.t 41],
 ii 48 (.ext 1) [.t 41],
 ⟨some 15, none, .alloc 3 2 [.p (.int .i64 0), .ow 4 true []], []⟩,
 ⟨none, none, .store 2, [.t 15, .t 47]⟩,
 mt 14 48]) (.lay 3 2))
 (.seq
 (.seq
 (.reg [mv 49 14,
 ii 50 (.un .not) [.t 49],
 mv 51 50,
 gf 52 51 (.fad 5) [.t 10],
 gf 53 51 (.load 1 false false) [.t 52],
 gf 54 51 (.bin .lss) [.t 53, .c (.p (.int .i64 1))],
 ii 55 .pick [.t 51, .c (.p (.bool true)), .t 54],
 mv 56 55,
 gf 57 56 (.fad 6) [.t 10],
 gf 58 56 (.load 1 false false) [.t 57],
 gf 59 56 (.bin .lss) [.t 58, .c (.p (.int .i64 0))],
 ii 60 .pick [.t 56, .c (.p (.bool true)), .t 59],
 mv 61 60,
 gf 62 61 (.fad 3) [.t 10],
 gf 63 61 (.load 1 false false) [.t 62],
 gf 64 61 (.bin .lss) [.t 63, .c (.p (.int .i64 0))],
 ii 65 .pick [.t 61, .c (.p (.bool true)), .t 64],
 mv 66 65,
 gf 67 66 (.fad 7) [.t 10],
 gf 68 66 (.load 1 false false) [.t 67],
 gf 69 66 (.bin .lss) [.t 68, .c (.p (.int .i64 0))],
 ii 70 .pick [.t 66, .c (.p (.bool true)), .t 69],
 mv 71 70,
 gf 72 71 (.fad 5) [.t 10],
 gf 73 71 (.load 1 false false) [.t 72],
 gf 74 71 (.bin .gtr) [.t 73, .c (.p (.int .i64 1000))],
 ii 75 .pick [.t 71, .c (.p (.bool true)), .t 74],
 mv 76 75,
 gf 77 76 (.fad 3) [.t 10],
 gf 78 76 (.load 1 false false) [.t 77],
 gf 79 76 (.bin .gtr) [.t 78, .c (.p (.int .i64 1000))],
 ii 80 .pick [.t 76, .c (.p (.bool true)), .t 79],
 mv 81 80,
 gf 82 81 (.fad 3) [.t 10],
 gf 83 81 (.load 1 false false) [.t 82],
 gf 84 81 (.fad 2) [.t 10],
 gf 85 81 (.load 1 false false) [.t 84],
 gf 86 81 (.bin .geq) [.t 83, .t 85],
 ii 87 .pick [.t 81, .c (.p (.bool true)), .t 86]])
 (.cond (.t 87)
 (.seq
 (.reg [mv 88 14,
 mt 12 88])
 .ret)
 .skip))
 (.seq
 (.gp (.reg [ii 90 (.load 5 true false) [.t 6],
 ii 91 (.load 4 true false) [.t 8],
 ii 92 (.load 2 true false) [.t 15],
 ii 93 (.load 9 true false) [.t 10],
 mv 94 5,
 ii 95 (.call 20) [.t 90, .t 91, .t 92, .t 93, .t 94],
 mv 89 95,
 ii 96 (.ext 0) [.t 89],
 ii 97 (.ext 1) [.t 89],
 ⟨some 16, none, .alloc 4 9 [.p (.int .i64 0), .p (.int .i64 0), .p (.int .i64 0), .p (.int .i64 0), .p (.int .i64 0), .p (.int .i64 0), .p (.int .i64 0), .p (.int .i64 0), .p (.int .i64 0)], []⟩,
 ⟨none, none, .store 9, [.t 16, .t 96]⟩,
 mt 17 97]) (.lay 4 9))
 (.seq
 (.gp (.reg [ii 99 (.load 5 true false) [.t 6],
 ii 100 (.load 4 true false) [.t 8],
 ii 101 (.load 2 true false) [.t 15],
 ii 102 (.load 9 true false) [.t 10],
 mv 103 5,
 ii 104 (.call 21) [.t 99, .t 100, .t 101, .t 102, .t 103],
 mv 98 104,
 ii 105 (.ext 0) [.t 98],
 ii 106 (.ext 1) [.t 98],
 ⟨some 18, none, .alloc 5 9 [.p (.int .i64 0), .p (.int .i64 0), .p (.int .i64 0), .p (.int .i64 0), .p (.int .i64 0), .p (.int .i64 0), .p (.int .i64 0), .p (.int .i64 0), .p (.int .i64 0)], []⟩,
 ⟨none, none, .store 9, [.t 18, .t 105]⟩,
 mt 19 106]) (.lay 5 9))
 (.seq
 (.regd [ii 107 (.at 4 (.load 9 true false)) [.t 16],
 ii 108 (.at 5 (.load 9 true false)) [.t 18],
 ii 109 (.eqs 9 false) [.t 107, .t 108],
 mv 110 109,
 gt 111 110 (.mov false) [.t 17],
 gt 112 110 (.mov false) [.t 19],
 gt 113 110 (.bin .eql) [.t 111, .t 112],
 ii 114 .pick [.t 110, .t 113, .c (.p (.bool false))],
 mv 115 114,
 gt 116 115 (.at 2 (.load 9 true false)) [.t 10],
 gt 117 115 (.pl (.call 22)) [.t 116],
 gt 118 115 (.at 2 (.load 9 true false)) [.t 10],
 gt 119 115 (.pl (.call 23)) [.t 118],
 gt 120 115 (.eqb false) [.t 117, .t 119],
 ii 121 .pick [.t 115, .t 120, .c (.p (.bool false))],
 mt 12 121])
 .ret)))))))))))⟩
theorem k4 : chkF Tryz.prog 4 F4 = true := by kernel_rfl
def F3 : Fn := ⟨212, 8, [.tmp 12],
 (.seq
 (.reg [ii 6 (.box 0 5) [.t 0],
 ii 8 (.box 1 4) [.t 2],
 mc 12 (.bool false)])
 (.seq
 (.reg [ii 25 (.call 15) [],
 mt 13 25])
 (.seq
 (.seq
 (.reg [mv 26 13,
 ii 27 (.un .not) [.t 26]])
 (.cond (.t 27)
 (.seq
 (.reg [mc 12 (.bool false)])
 .ret)
 .skip))
 (.seq
 (.gp (.reg [ii 28 (.load 5 true false) [.t 6],
 ii 29 (.call 16) [.t 28],
 ⟨none, none, .store 5, [.t 6, .t 29]⟩]) (.lay 0 5))
 (.seq
 (.gp (.reg [ii 31 (.load 5 true false) [.t 6],
 ii 32 (.load 4 true false) [.t 8],
 ii 33 (.call 17) [.t 31, .t 32],
 mv 30 33,
 ii 34 (.ext 0) [.t 30],
 ii 35 (.ext 1) [.t 30],
 ⟨none, none, .store 4, [.t 8, .t 34]⟩,
 mt 14 35]) (.lay 1 4))
 (.seq
 (.seq
 (.reg [mv 36 14,
 ii 37 (.un .not) [.t 36],
 mv 38 37,
 gf 39 38 (.mov false) [.t 4],
 gf 40 38 (.bin .lss) [.t 39, .c (.p (.int .i64 0))],
 ii 41 .pick [.t 38, .c (.p (.bool true)), .t 40],
 mv 42 41,
 gf 43 42 (.mov false) [.t 4],
 gf 44 42 (.bin .gtr) [.t 43, .c (.p (.int .i64 1073741824))],
 ii 45 .pick [.t 42, .c (.p (.bool true)), .t 44],
 mv 46 45,
 gf 47 46 (.mov false) [.t 5],
 gf 48 46 (.bin .lss) [.t 47, .c (.p (.int .i64 1))],
 ii 49 .pick [.t 46, .c (.p (.bool true)), .t 48],
 mv 50 49,
 gf 51 50 (.mov false) [.t 5],
 gf 52 50 (.bin .gtr) [.t 51, .c (.p (.int .i64 300))],
 ii 53 .pick [.t 50, .c (.p (.bool true)), .t 52]])
 (.cond (.t 53)
 (.seq
 (.reg [mc 12 (.bool true)])
 .ret)
 .skip))
 (.seq
 (.gp (.reg [ii 55 (.load 5 true false) [.t 6],
 mv 56 1,
 ii 57 (.load 4 true false) [.t 8],
 mv 58 3,
 ii 59 (.call 18) [.t 55, .t 56, .t 57, .t 58],
 mv 54 59,
 ii 60 (.ext 0) [.t 54],
 ii 61 (.ext 1) [.t 54],
 ⟨some 15, none, .alloc 2 2 [.p (.int .i64 0), .ow 4 true []], []⟩,
 ⟨none, none, .store 2, [.t 15, .t 60]⟩,
 mt 14 61]) (.lay 2 2))
 (.seq
 (.seq
 (.reg [mv 62 14,
 ii 63 (.un .not) [.t 62],
 mv 64 63,
 gf 65 64 (.fad 1) [.t 15],
 gf 66 64 (.load 1 false false) [.t 65],
 gf 67 64 .len [.t 66],
 gf 68 64 (.bin .eql) [.t 67, .c (.p (.int .i64 0))],
 ii 69 .pick [.t 64, .c (.p (.bool true)), .t 68]])
 (.cond (.t 69)
 (.seq
 (.reg [mc 12 (.bool false)])
 .ret)
 .skip))
 (.seq
 (.gp (.reg [ii 70 (.load 2 true false) [.t 15],
 mv 71 4,
 mv 72 5,
 ii 73 (.call 19) [.t 70, .t 71, .t 72],
 ⟨some 16, none, .alloc 3 9 [.p (.int .i64 0), .p (.int .i64 0), .p (.int .i64 0), .p (.int .i64 0), .p (.int .i64 0), .p (.int .i64 0), .p (.int .i64 0), .p (.int .i64 0), .p (.int .i64 0)], []⟩,
 ⟨none, none, .store 9, [.t 16, .t 73]⟩]) (.lay 3 9))
 (.seq
 (.gp (.reg [mv 74 4,
 mv 75 5,
 fa 76 1 15,
 ld 77 76,
 ii 78 (.iad 4) [.t 77, .c (.p (.int .i64 0))],
 fa 79 3 78,
 ld 80 79,
 ⟨some 81, none, .build [.int .i64 0, .int .i64 0, .int .i64 0, .int .i64 0, .int .i64 0, .int .i64 0, .int .i64 0, .int .i64 0, .int .i64 0] [(0, 1), (1, 1), (2, 1), (5, 1)], [.c (.p (.int .i64 2)), .t 74, .t 75, .t 80]⟩,
 ⟨some 17, none, .alloc 4 9 [.p (.int .i64 0), .p (.int .i64 0), .p (.int .i64 0), .p (.int .i64 0), .p (.int .i64 0), .p (.int .i64 0), .p (.int .i64 0), .p (.int .i64 0), .p (.int .i64 0)], []⟩,
 ⟨none, none, .store 9, [.t 17, .t 81]⟩]) (.lay 4 9))
 (.seq
 (.seq
 (.reg [ii 82 (.load 9 true false) [.t 16],
 ii 83 (.load 9 true false) [.t 17],
 ii 84 (.eqs 9 true) [.t 82, .t 83]])
 (.cond (.t 84)
 (.seq
 (.reg [mc 12 (.bool false)])
 .ret)
 .skip))
 (.seq
 (.seq
 (.reg [mv 85 4,
 mt 18 85])
 (.block 0
 (.loop [0, 1, 2, 3, 12, 13, 14, 17, 19, 20, 21, 22, 23, 24, 25, 26, 27, 28, 29, 30, 31, 32, 33, 34, 35, 36, 37, 38, 39, 40, 41, 42, 43, 44, 45, 46, 47, 48, 49, 50, 51, 52, 53, 54, 55, 56, 57, 58, 59, 60, 61, 62, 63, 64, 65, 66, 67, 68, 69, 70, 71, 72, 73, 74, 75, 76, 77, 78, 79, 80, 81, 82, 83, 84, 85, 86, 87, 88, 89, 90, 91, 92, 93, 94, 95, 96, 97, 98, 99, 100, 101, 102, 103, 104, 105, 106, 107, 108, 109, 110, 111, 112, 113, 114, 115, 116, 117, 118, 119, 120, 121, 122, 123, 124, 125, 126, 127, 128, 129, 130, 131, 132, 133, 134, 135, 136, 137, 138, 139, 140, 141, 142, 143, 144, 145, 146, 147, 148, 149, 150, 151, 152, 153, 154, 155, 156, 157, 158, 159, 160, 161, 162, 163, 164, 165, 166, 167, 168, 169, 170, 171, 172, 173, 174, 175, 176, 177, 178, 179, 180, 181, 182, 183, 184, 185, 186, 187, 188, 189, 190, 191, 192, 193, 194, 195, 196, 197, 198, 199, 200, 201, 202, 203, 204, 205, 206, 207, 208, 209, 210, 211] [5, 6, 7]
 (.seq
 (.seq
 (.reg [mv 86 18,
 mv 87 4,
 b1 88 .add 87 (.int .i64 500),
 b2 89 .lss 86 88])
 (.cond (.t 89)
 .skip
 (.exit 0)))
 (.seq
 (.block 1
 (.seq
 (.gp (.reg [ii 93 (.load 5 true false) [.t 6],
 ii 94 (.load 4 true false) [.t 8],
 ii 95 (.load 2 true false) [.t 15],
 ii 96 (.load 9 true false) [.t 16],
 mv 97 18,
 ii 98 (.call 20) [.t 93, .t 94, .t 95, .t 96, .t 97],
 mv 92 98,
 ii 99 (.ext 0) [.t 92],
 ii 100 (.ext 1) [.t 92],
 ⟨some 19, none, .alloc 5 9 [.p (.int .i64 0), .p (.int .i64 0), .p (.int .i64 0), .p (.int .i64 0), .p (.int .i64 0), .p (.int .i64 0), .p (.int .i64 0), .p (.int .i64 0), .p (.int .i64 0)], []⟩,
 ⟨none, none, .store 9, [.t 19, .t 99]⟩,
 mt 20 100]) (.lay 5 9))
 (.seq
 (.gp (.reg [ii 102 (.load 5 true false) [.t 6],
 ii 103 (.load 4 true false) [.t 8],
 ii 104 (.load 2 true false) [.t 15],
 ii 105 (.load 9 true false) [.t 16],
 mv 106 18,
 ii 107 (.call 21) [.t 102, .t 103, .t 104, .t 105, .t 106],
 mv 101 107,
 ii 108 (.ext 0) [.t 101],
 ii 109 (.ext 1) [.t 101],
 ⟨some 21, none, .alloc 6 9 [.p (.int .i64 0), .p (.int .i64 0), .p (.int .i64 0), .p (.int .i64 0), .p (.int .i64 0), .p (.int .i64 0), .p (.int .i64 0), .p (.int .i64 0), .p (.int .i64 0)], []⟩,
 ⟨none, none, .store 9, [.t 21, .t 108]⟩,
 mt 22 109]) (.lay 6 9))
 (.seq
 (.seq
 (.regd [ii 110 (.at 5 (.load 9 true false)) [.t 19],
 ii 111 (.at 6 (.load 9 true false)) [.t 21],
 ii 112 (.eqs 9 true) [.t 110, .t 111],
 mv 113 112,
 gf 114 113 (.mov false) [.t 20],
 gf 115 113 (.mov false) [.t 22],
 gf 116 113 (.bin .neq) [.t 114, .t 115],
 ii 117 .pick [.t 113, .c (.p (.bool true)), .t 116],
 mv 118 117,
 gf 119 118 (.at 5 (.load 9 true false)) [.t 19],
 gf 120 118 (.pl (.call 22)) [.t 119],
 gf 121 118 (.at 5 (.load 9 true false)) [.t 19],
 gf 122 118 (.pl (.call 23)) [.t 121],
 gf 123 118 (.eqb true) [.t 120, .t 122],
 ii 124 .pick [.t 118, .c (.p (.bool true)), .t 123]])
 (.cond (.t 124)
 (.seq
 (.reg [mc 12 (.bool false)])
 .ret)
 .skip))
 (.seq
 (.seq
 (.regd [ii 125 (.at 5 (.load 9 true false)) [.t 19],
 ii 126 (.pl (.call 22)) [.t 125],
 mv 127 126,
 gt 128 127 (.at 2 (.load 2 true false)) [.t 15],
 gt 129 127 (.at 5 (.load 9 true false)) [.t 19],
 gt 130 127 (.pl (.call 24)) [.t 128, .t 129],
 gt 131 127 (.mov false) [.t 4],
 gt 132 127 (.fad 1) [.t 15],
 gt 133 127 (.at 2 (.load 1 false false)) [.t 132],
 gt 134 127 (.fad 4) [.t 19],
 gt 135 127 (.at 5 (.load 1 false false)) [.t 134],
 gt 136 127 (.iad 4) [.t 133, .t 135],
 gt 137 127 (.fad 1) [.t 136],
 gt 138 127 (.loadp 1 false) [.t 137],
 gt 139 127 (.bin .add) [.t 131, .t 138],
 gt 140 127 (.bin .neq) [.t 130, .t 139],
 gt 141 127 (.mov false) [.t 140],
 gf 142 141 (.at 2 (.load 2 true false)) [.t 15],
 gf 143 141 (.at 5 (.load 9 true false)) [.t 19],
 gf 144 141 (.pl (.call 25)) [.t 142, .t 143],
 gf 145 141 (.at 2 (.load 2 true false)) [.t 15],
 gf 146 141 (.fad 4) [.t 19],
 gf 147 141 (.at 5 (.load 1 false false)) [.t 146],
 gf 148 141 (.mov false) [.t 4],
 gf 149 141 (.pl (.call 26)) [.t 145, .t 147, .t 148],
 gf 150 141 (.bin .neq) [.t 144, .t 149],
 gt 151 127 .pick [.t 141, .c (.p (.bool true)), .t 150],
 ii 152 .pick [.t 127, .t 151, .c (.p (.bool false))]])
 (.cond (.t 152)
 (.seq
 (.reg [mc 12 (.bool false)])
 .ret)
 .skip))
 (.seq
 (.gp (.reg [ii 153 (.load 9 true false) [.t 19],
 ⟨none, none, .store 9, [.t 16, .t 153]⟩]) (.lay 3 9))
 (.seq
 (.reg [mv 154 20])
 (.block 2
 (.seq
 (.reg [b1 156 .eql 154 (.int .i64 2),
 mt 155 156])
 (.cond (.t 155)
 (.seq
 (.reg [fa 157 3 19,
 ld 158 157,
 mv 159 5,
 b2 160 .eql 158 159,
 mv 161 160,
 gt 162 161 (.mov false) [.t 5],
 gt 163 161 (.fad 0) [.t 8],
 gt 164 161 (.load 1 false false) [.t 163],
 gt 165 161 (.bin .leq) [.t 162, .t 164],
 ii 166 .pick [.t 161, .t 165, .c (.p (.bool false))],
 mv 167 166,
 gt 168 167 (.fad 8) [.t 19],
 gt 169 167 (.load 1 false false) [.t 168],
 gt 170 167 (.mov false) [.t 18],
 gt 171 167 (.bin .add) [.t 170, .c (.p (.int .i64 1))],
 gt 172 167 (.bin .eql) [.t 169, .t 171],
 ii 173 .pick [.t 167, .t 172, .c (.p (.bool false))],
 mt 12 173])
 .ret)
 (.seq
 (.reg [b1 175 .eql 154 (.int .i64 5),
 mt 174 175])
 (.cond (.t 174)
 (.seq
 (.reg [fa 176 3 19,
 ld 177 176,
 fa 178 0 8,
 ld 179 178,
 b2 180 .eql 177 179,
 mv 181 180,
 gt 182 181 (.mov false) [.t 5],
 gt 183 181 (.fad 0) [.t 8],
 gt 184 181 (.load 1 false false) [.t 183],
 gt 185 181 (.bin .gtr) [.t 182, .t 184],
 ii 186 .pick [.t 181, .t 185, .c (.p (.bool false))],
 mv 187 186,
 gt 188 187 (.fad 5) [.t 19],
 gt 189 187 (.load 1 false false) [.t 188],
 gt 190 187 (.bin .eql) [.t 189, .c (.p (.int .i64 0))],
 ii 191 .pick [.t 187, .t 190, .c (.p (.bool false))],
 mt 12 191])
 .ret)
 (.seq
 (.seq
 (.reg [b1 193 .eql 154 (.int .i64 3),
 mt 192 193])
 (.cond (.t 192)
 .skip
 (.reg [b1 194 .eql 154 (.int .i64 4),
 mt 192 194])))
 (.cond (.t 192)
 (.seq
 (.seq
 (.gp (.reg [ii 196 (.load 5 true false) [.t 6],
 ii 197 (.load 4 true false) [.t 8],
 ii 198 (.load 2 true false) [.t 15],
 ii 199 (.load 9 true false) [.t 16],
 mv 200 18,
 ii 201 (.call 20) [.t 196, .t 197, .t 198, .t 199, .t 200],
 mv 195 201,
 ii 202 (.ext 0) [.t 195],
 ii 203 (.ext 1) [.t 195],
 ⟨some 23, none, .alloc 7 9 [.p (.int .i64 0), .p (.int .i64 0), .p (.int .i64 0), .p (.int .i64 0), .p (.int .i64 0), .p (.int .i64 0), .p (.int .i64 0), .p (.int .i64 0), .p (.int .i64 0)], []⟩,
 ⟨none, none, .store 9, [.t 23, .t 202]⟩,
 mt 24 203]) (.lay 7 9))
 (.seq
 (.reg [mv 204 24,
 b1 205 .neq 204 (.int .i64 0),
 mv 206 205,
 gf 207 206 (.load 9 true false) [.t 23],
 gf 208 206 (.load 9 true false) [.t 16],
 gf 209 206 (.eqs 9 true) [.t 207, .t 208],
 ii 210 .pick [.t 206, .c (.p (.bool true)), .t 209]])
 (.cond (.t 210)
 (.seq
 (.reg [mc 12 (.bool false)])
 .ret)
 .skip)))
 (.gp (.reg [fa 211 0 16,
 ⟨none, none, .store 1, [.t 211, .c (.p (.int .i64 2))]⟩]) (.lay 3 9)))
 .skip))))))))))))))
 (.reg [mv 90 18,
 b1 91 .add 90 (.int .i64 1),
 mt 18 91]))))))
 (.seq
 (.reg [mc 12 (.bool false)])
 .ret)))))))))))))⟩
theorem k3 : chkF Tryz.prog 3 F3 = true := by kernel_rfl
end Go.Proofs.YtnjphclbpgajpaaGreatDoor.Vc
namespace Go.Proofs.YtnjphclbpgajpaaGreatDoor.Vc
open Go.RowKit Ma
end Go.Proofs.YtnjphclbpgajpaaGreatDoor.Vc
namespace Go.Proofs.YtnjphclbpgajpaaGreatDoor.Vc
open Go.RowKit Ma
end Go.Proofs.YtnjphclbpgajpaaGreatDoor.Vc
namespace Go.Proofs.YtnjphclbpgajpaaGreatDoor.Vc
open Go.RowKit
def F19 : Fn := ⟨21, 3, [.cell 6 9],
 (.seq
 (.reg [ii 3 (.box 0 2) [.t 0],
 ⟨some 6, none, .alloc 1 9 [.p (.int .i64 0), .p (.int .i64 0), .p (.int .i64 0), .p (.int .i64 0), .p (.int .i64 0), .p (.int .i64 0), .p (.int .i64 0), .p (.int .i64 0), .p (.int .i64 0)], []⟩])
 (.seq
 (.gp (.reg [mv 8 1,
 mv 9 2,
 ⟨some 10, none, .build [.int .i64 0, .int .i64 0, .int .i64 0, .int .i64 0, .int .i64 0, .int .i64 0, .int .i64 0, .int .i64 0, .int .i64 0] [(0, 1), (1, 1), (2, 1)], [.c (.p (.int .i64 2)), .t 8, .t 9]⟩,
 ⟨some 7, none, .alloc 2 9 [.p (.int .i64 0), .p (.int .i64 0), .p (.int .i64 0), .p (.int .i64 0), .p (.int .i64 0), .p (.int .i64 0), .p (.int .i64 0), .p (.int .i64 0), .p (.int .i64 0)], []⟩,
 ⟨none, none, .store 9, [.t 7, .t 10]⟩]) (.lay 2 9))
 (.seq
 (.seq
 (.reg [ii 11 (.load 2 true false) [.t 3],
 ii 12 (.load 9 true false) [.t 7],
 ii 13 (.call 53) [.t 11, .t 12]])
 (.cond (.t 13)
 (.gp (.reg [fa 14 1 3,
 ld 15 14,
 ii 16 (.iad 4) [.t 15, .c (.p (.int .i64 0))],
 fa 17 3 16,
 ld 18 17,
 fa 19 5 7,
 ⟨none, none, .store 1, [.t 19, .t 18]⟩]) (.lay 2 9))
 .skip))
 (.seq
 (.gp (.reg [ii 20 (.load 9 true false) [.t 7],
 ⟨none, none, .store 9, [.t 6, .t 20]⟩]) (.lay 1 9))
 .ret))))⟩
theorem k19 : chkF Tryz.prog 19 F19 = true := by kernel_rfl
def F20 : Fn := ⟨121, 5, [.cell 10 9, .tmp 11],
 (.seq
 (.reg [ii 5 (.box 0 5) [.t 0],
 ii 6 (.box 1 4) [.t 1],
 ii 7 (.box 2 2) [.t 2],
 ii 8 (.box 3 9) [.t 3],
 ⟨some 10, none, .alloc 4 9 [.p (.int .i64 0), .p (.int .i64 0), .p (.int .i64 0), .p (.int .i64 0), .p (.int .i64 0), .p (.int .i64 0), .p (.int .i64 0), .p (.int .i64 0), .p (.int .i64 0)], []⟩,
 mc 11 (.int .i64 0)])
 (.seq
 (.seq
 (.reg [fa 13 0 8,
 ld 14 13,
 b1 15 .neq 14 (.int .i64 2),
 mv 16 15,
 gf 17 16 (.load 2 true false) [.t 7],
 gf 18 16 (.load 9 true false) [.t 8],
 gf 19 16 (.call 53) [.t 17, .t 18],
 gf 20 16 (.un .not) [.t 19],
 ii 21 .pick [.t 16, .c (.p (.bool true)), .t 20]])
 (.cond (.t 21)
 (.seq
 (.gp (.reg [ii 22 (.load 9 true false) [.t 8],
 ⟨none, none, .store 9, [.t 10, .t 22]⟩,
 mc 11 (.int .i64 0)]) (.lay 4 9))
 .ret)
 .skip))
 (.seq
 (.gp (.reg [fa 23 5 8,
 ld 24 23,
 b1 25 .sub 24 (.int .i64 1),
 fa 26 5 8,
 ⟨none, none, .store 1, [.t 26, .t 25]⟩]) (.lay 3 9))
 (.seq
 (.reg [fa 27 6 8,
 ld 28 27,
 b1 29 .leq 28 (.int .i64 0),
 mt 12 29])
 (.seq
 (.seq
 (.reg [mv 30 12])
 (.cond (.t 30)
 (.gp (.reg [fa 31 3 8,
 ld 32 31,
 b1 33 .add 32 (.int .i64 1),
 fa 34 3 8,
 ⟨none, none, .store 1, [.t 34, .t 33]⟩]) (.lay 3 9))
 (.gp (.reg [fa 35 6 8,
 ld 36 35,
 b1 37 .sub 36 (.int .i64 1),
 fa 38 6 8,
 ⟨none, none, .store 1, [.t 38, .t 37]⟩]) (.lay 3 9))))
 (.seq
 (.block 0
 (.seq
 (.reg [mv 40 12,
 mv 41 40,
 gt 42 41 (.fad 3) [.t 8],
 gt 43 41 (.load 1 false false) [.t 42],
 gt 44 41 (.fad 2) [.t 8],
 gt 45 41 (.load 1 false false) [.t 44],
 gt 46 41 (.bin .eql) [.t 43, .t 45],
 ii 47 .pick [.t 41, .t 46, .c (.p (.bool false))],
 mt 39 47])
 (.cond (.t 39)
 (.seq
 (.gp (.reg [mv 48 4,
 b1 49 .add 48 (.int .i64 1),
 fa 50 0 8,
 ⟨none, none, .store 1, [.t 50, .c (.p (.int .i64 4))]⟩,
 fa 51 8 8,
 ⟨none, none, .store 1, [.t 51, .t 49]⟩]) (.lay 3 9))
 (.seq
 (.gp (.reg [ii 52 (.load 9 true false) [.t 8],
 ⟨none, none, .store 9, [.t 10, .t 52]⟩,
 mc 11 (.int .i64 2)]) (.lay 4 9))
 .ret))
 (.seq
 (.regd [mv 54 12,
 mv 55 54,
 gt 56 55 (.fad 7) [.t 8],
 gt 57 55 (.at 3 (.load 1 false false)) [.t 56],
 gt 58 55 (.bin .geq) [.t 57, .c (.p (.int .i64 0))],
 ii 59 .pick [.t 55, .t 58, .c (.p (.bool false))],
 mv 60 59,
 gt 61 60 (.fad 7) [.t 8],
 gt 62 60 (.at 3 (.load 1 false false)) [.t 61],
 gt 63 60 (.fad 3) [.t 6],
 gt 64 60 (.at 1 (.load 1 false false)) [.t 63],
 gt 65 60 .lenD [.t 64],
 gt 66 60 (.bin .lss) [.t 62, .t 65],
 ii 67 .pick [.t 60, .t 66, .c (.p (.bool false))],
 mv 68 67,
 gt 69 68 (.fad 3) [.t 6],
 gt 70 68 (.at 1 (.load 1 false false)) [.t 69],
 gt 71 68 (.fad 7) [.t 8],
 gt 72 68 (.at 3 (.load 1 false false)) [.t 71],
 gt 73 68 (.iad 3) [.t 70, .t 72],
 gt 74 68 (.fad 1) [.t 73],
 gt 75 68 (.loadp 1 false) [.t 74],
 gt 76 68 (.fad 3) [.t 8],
 gt 77 68 (.at 3 (.load 1 false false)) [.t 76],
 gt 78 68 (.bin .eql) [.t 75, .t 77],
 ii 79 .pick [.t 68, .t 78, .c (.p (.bool false))],
 mt 53 79])
 (.cond (.t 53)
 (.seq
 (.gp (.reg [fa 80 0 8,
 ⟨none, none, .store 1, [.t 80, .c (.p (.int .i64 3))]⟩]) (.lay 3 9))
 (.seq
 (.gp (.reg [fa 81 7 8,
 ld 82 81,
 b1 83 .add 82 (.int .i64 1),
 fa 84 7 8,
 ⟨none, none, .store 1, [.t 84, .t 83]⟩]) (.lay 3 9))
 (.seq
 (.gp (.reg [ii 85 (.load 9 true false) [.t 8],
 ⟨none, none, .store 9, [.t 10, .t 85]⟩,
 mc 11 (.int .i64 3)]) (.lay 4 9))
 .ret)))
 (.seq
 (.reg [fa 87 5 8,
 ld 88 87,
 b1 89 .neq 88 (.int .i64 0),
 mt 86 89])
 (.cond (.t 86)
 (.seq
 (.gp (.reg [ii 90 (.load 9 true false) [.t 8],
 ⟨none, none, .store 9, [.t 10, .t 90]⟩,
 mc 11 (.int .i64 1)]) (.lay 4 9))
 .ret)
 (.seq
 (.reg [fa 92 4 8,
 ld 93 92,
 fa 94 1 7,
 ld 95 94,
 ii 96 .len [.t 95],
 b1 97 .sub 96 (.int .i64 1),
 b2 98 .eql 93 97,
 mt 91 98])
 (.cond (.t 91)
 (.seq
 (.gp (.reg [mv 99 4,
 b1 100 .add 99 (.int .i64 1),
 fa 101 0 8,
 ⟨none, none, .store 1, [.t 101, .c (.p (.int .i64 5))]⟩,
 fa 102 8 8,
 ⟨none, none, .store 1, [.t 102, .t 100]⟩]) (.lay 3 9))
 (.seq
 (.gp (.reg [ii 103 (.load 9 true false) [.t 8],
 ⟨none, none, .store 9, [.t 10, .t 103]⟩,
 mc 11 (.int .i64 5)]) (.lay 4 9))
 .ret))
 .skip)))))))))
 (.seq
 (.gp (.reg [fa 104 4 8,
 ld 105 104,
 b1 106 .add 105 (.int .i64 1),
 fa 107 4 8,
 ⟨none, none, .store 1, [.t 107, .t 106]⟩]) (.lay 3 9))
 (.seq
 (.gp (.regd [fa 108 1 7,
 ii 109 (.at 2 (.load 1 false false)) [.t 108],
 fa 110 4 8,
 ii 111 (.at 3 (.load 1 false false)) [.t 110],
 ii 112 (.iad 4) [.t 109, .t 111],
 fa 113 3 112,
 ii 114 (.loadp 1 false) [.t 113],
 fa 115 3 5,
 ii 116 (.at 0 (.load 1 false false)) [.t 115],
 fa 117 0 8,
 ⟨none, none, .at 3 (.store 1), [.t 117, .c (.p (.int .i64 1))]⟩,
 fa 118 5 8,
 ⟨none, none, .at 3 (.store 1), [.t 118, .t 114]⟩,
 fa 119 6 8,
 ⟨none, none, .at 3 (.store 1), [.t 119, .t 116]⟩]) (.lay 3 9))
 (.seq
 (.gp (.reg [ii 120 (.load 9 true false) [.t 8],
 ⟨none, none, .store 9, [.t 10, .t 120]⟩,
 mc 11 (.int .i64 4)]) (.lay 4 9))
 .ret)))))))))⟩
theorem k20 : chkF Tryz.prog 20 F20 = true := by kernel_rfl
def F22 : Fn := ⟨16, 1, [.tmp 2],
 (.seq
 (.reg [ii 1 (.box 0 9) [.t 0],
 mc 2 (.bool false)])
 (.seq
 (.reg [fa 3 0 1,
 ld 4 3,
 b1 5 .eql 4 (.int .i64 1),
 mv 6 5,
 gf 7 6 (.fad 0) [.t 1],
 gf 8 6 (.load 1 false false) [.t 7],
 gf 9 6 (.bin .eql) [.t 8, .c (.p (.int .i64 2))],
 ii 10 .pick [.t 6, .c (.p (.bool true)), .t 9],
 mv 11 10,
 gf 12 11 (.fad 0) [.t 1],
 gf 13 11 (.load 1 false false) [.t 12],
 gf 14 11 (.bin .eql) [.t 13, .c (.p (.int .i64 3))],
 ii 15 .pick [.t 11, .c (.p (.bool true)), .t 14],
 mt 2 15])
 .ret))⟩
theorem k22 : chkF Tryz.prog 22 F22 = true := by kernel_rfl
def F24 : Fn := ⟨19, 2, [.tmp 4],
 (.seq
 (.reg [ii 2 (.box 0 2) [.t 0],
 ii 3 (.box 1 9) [.t 1],
 mc 4 (.int .i64 0)])
 (.seq
 (.seq
 (.reg [ii 5 (.load 2 true false) [.t 2],
 ii 6 (.load 9 true false) [.t 3],
 ii 7 (.call 53) [.t 5, .t 6],
 ii 8 (.un .not) [.t 7]])
 (.cond (.t 8)
 (.seq
 (.reg [mc 4 (.int .i64 0)])
 .ret)
 .skip))
 (.seq
 (.regd [fa 9 1 3,
 ii 10 (.at 1 (.load 1 false false)) [.t 9],
 fa 11 1 2,
 ii 12 (.at 0 (.load 1 false false)) [.t 11],
 fa 13 4 3,
 ii 14 (.at 1 (.load 1 false false)) [.t 13],
 ii 15 (.iad 4) [.t 12, .t 14],
 fa 16 1 15,
 ii 17 (.loadp 1 false) [.t 16],
 b2 18 .add 10 17,
 mt 4 18])
 .ret)))⟩
theorem k24 : chkF Tryz.prog 24 F24 = true := by kernel_rfl
def F25 : Fn := ⟨11, 2, [.tmp 4],
 (.seq
 (.reg [ii 2 (.box 0 2) [.t 0],
 ii 3 (.box 1 9) [.t 1],
 mc 4 (.int .i64 0)])
 (.seq
 (.reg [ii 5 (.load 2 true false) [.t 2],
 fa 6 4 3,
 ld 7 6,
 fa 8 1 3,
 ld 9 8,
 ii 10 (.call 26) [.t 5, .t 7, .t 9],
 mt 4 10])
 .ret))⟩
theorem k25 : chkF Tryz.prog 25 F25 = true := by kernel_rfl
def F53 : Fn := ⟨16, 2, [.tmp 4],
 (.seq
 (.reg [ii 2 (.box 0 2) [.t 0],
 ii 3 (.box 1 9) [.t 1],
 mc 4 (.bool false)])
 (.seq
 (.reg [fa 5 4 3,
 ld 6 5,
 b1 7 .geq 6 (.int .i64 0),
 mv 8 7,
 gt 9 8 (.fad 4) [.t 3],
 gt 10 8 (.load 1 false false) [.t 9],
 gt 11 8 (.fad 1) [.t 2],
 gt 12 8 (.load 1 false false) [.t 11],
 gt 13 8 .len [.t 12],
 gt 14 8 (.bin .lss) [.t 10, .t 13],
 ii 15 .pick [.t 8, .t 14, .c (.p (.bool false))],
 mt 4 15])
 .ret))⟩
theorem k53 : chkF Tryz.prog 53 F53 = true := by kernel_rfl
def F44 : Fn := ⟨2, 0, [.tmp 0],
 (.seq
 (.reg [mc 0 (.bool false)])
 (.seq
 (.reg [ii 1 (.call 76) [],
 mt 0 1])
 .ret))⟩
theorem k44 : chkF Tryz.prog 44 F44 = true := by kernel_rfl
def F76 : Fn := ⟨182, 0, [.tmp 0],
 (.seq
 (.reg [mc 0 (.bool false)])
 (.seq
 (.reg [ii 24 (.ob (.callo 109 true)) [.c (.p (.int .i64 2))],
 mt 1 24])
 (.seq
 (.reg [ii 25 (.ob (.callo 110 true)) [.c (.p (.int .i64 2))],
 mt 2 25])
 (.seq
 (.reg [ii 26 (.ob (.callo 111 true)) [.c (.p (.int .i64 3))],
 mt 3 26])
 (.seq
 (.reg [ii 27 (.ob (.callo 112 true)) [.c (.p (.int .i64 1))],
 mt 4 27])
 (.seq
 (.reg [ii 28 (.ob (.callo 60 true)) [.c (.p (.int .i64 3))],
 mt 5 28])
 (.seq
 (.seq
 (.reg [mv 29 1,
 ii 30 (.ob (.eqp false)) [.t 29, .c (.p (.atom (.pointer none)))],
 mv 31 30,
 gf 32 31 (.mov false) [.t 2],
 gf 33 31 (.ob (.eqp false)) [.t 32, .c (.p (.atom (.pointer none)))],
 ii 34 .pick [.t 31, .c (.p (.bool true)), .t 33],
 mv 35 34,
 gf 36 35 (.mov false) [.t 3],
 gf 37 35 (.ob (.eqp false)) [.t 36, .c (.p (.atom (.pointer none)))],
 ii 38 .pick [.t 35, .c (.p (.bool true)), .t 37],
 mv 39 38,
 gf 40 39 (.mov false) [.t 4],
 gf 41 39 (.ob (.eqp false)) [.t 40, .c (.p (.atom (.pointer none)))],
 ii 42 .pick [.t 39, .c (.p (.bool true)), .t 41],
 mv 43 42,
 gf 44 43 (.mov false) [.t 5],
 gf 45 43 (.ob (.eqp false)) [.t 44, .c (.p (.atom (.pointer none)))],
 ii 46 .pick [.t 43, .c (.p (.bool true)), .t 45]])
 (.cond (.t 46)
 (.seq
 (.reg [mc 0 (.bool false)])
 .ret)
 .skip))
 (.seq
 (.reg [mv 47 1,
 ⟨some 48, none, .ob (.callo 113 true), [.t 47, .c (.p (.str ⟨#[120]⟩)), .c (.p (.int .i64 5)), .c (.p (.int .i64 1))]⟩,
 mv 49 1,
 ⟨some 50, none, .ob (.callo 113 true), [.t 49, .c (.p (.str ⟨#[121]⟩)), .c (.p (.int .i64 3)), .c (.p (.int .i64 9))]⟩,
 mv 51 1,
 ⟨some 52, none, .ob (.callo 113 true), [.t 51, .c (.p (.str ⟨#[122]⟩)), .c (.p (.int .i64 1)), .c (.p (.int .i64 1))]⟩,
 mt 6 48,
 mt 7 50,
 mt 8 52])
 (.seq
 (.reg [mv 54 1,
 ii 55 (.ob (.callo 114 false)) [.t 54],
 mv 53 55,
 ii 56 (.ext 0) [.t 53],
 ii 57 (.ext 1) [.t 53],
 mt 9 56,
 mt 10 57])
 (.seq
 (.reg [mv 58 2,
 ii 59 (.ob (.callo 115 false)) [.t 58, .c (.p (.int .i64 4))],
 mv 60 2,
 ii 61 (.ob (.callo 115 false)) [.t 60, .c (.p (.int .i64 5))],
 mt 11 59,
 mt 12 61])
 (.seq
 (.reg [mv 63 2,
 ii 64 (.ob (.callo 116 false)) [.t 63],
 mv 62 64,
 ii 65 (.ext 0) [.t 62],
 ii 66 (.ext 1) [.t 62],
 mt 13 65,
 mt 14 66])
 (.seq
 (.reg [mv 67 3,
 ⟨some 68, none, .ob (.callo 117 false), [.t 67, .c (.p (.str ⟨#[97]⟩))]⟩,
 mv 69 3,
 ⟨some 70, none, .ob (.callo 117 false), [.t 69, .c (.p (.str ⟨#[98]⟩))]⟩,
 mt 15 68,
 mt 16 70])
 (.seq
 (.reg [mv 71 3,
 ii 72 (.ob (.callo 118 false)) [.t 71, .c (.p (.int .i64 1))]])
 (.seq
 (.reg [mv 73 4,
 ii 74 (.ob (.callo 119 false)) [.t 73, .c (.p (.int .i64 7))],
 mv 75 4,
 ii 76 (.ob (.callo 119 false)) [.t 75, .c (.p (.int .i64 8))],
 mt 17 74,
 mt 18 76])
 (.seq
 (.reg [ii 78 (.ob (.callo 112 true)) [.c (.p (.int .i64 1))],
 mv 79 4,
 ii 80 (.ob (.callo 120 false)) [.t 78, .t 79],
 mv 77 80,
 ii 81 (.ext 0) [.t 77],
 ii 82 (.ext 1) [.t 77],
 mt 19 81,
 mt 20 82])
 (.seq
 (.reg [mv 83 5,
 ii 84 (.ob (.callo 91 true)) [.t 83, .c (.p (.int .i64 9)), .c (.p (.int .i64 4))],
 mt 21 84])
 (.seq
 (.reg [mv 85 5,
 ii 86 (.ob (.callo 63 false)) [.t 85, .c (.p (.int .i64 4))],
 mv 87 5,
 ii 88 (.ob (.callo 63 false)) [.t 87, .c (.p (.int .i64 9))],
 mt 22 86,
 mt 23 88])
 (.seq
 (.reg [ii 89 (.call 121) [],
 mv 90 89,
 gt 91 90 (.mov false) [.t 6],
 ii 92 .pick [.t 90, .t 91, .c (.p (.bool false))],
 mv 93 92,
 gt 94 93 (.mov false) [.t 7],
 ii 95 .pick [.t 93, .t 94, .c (.p (.bool false))],
 mv 96 95,
 gt 97 96 (.mov false) [.t 8],
 gt 98 96 (.un .not) [.t 97],
 ii 99 .pick [.t 96, .t 98, .c (.p (.bool false))],
 mv 100 99,
 gt 101 100 (.mov false) [.t 10],
 ii 102 .pick [.t 100, .t 101, .c (.p (.bool false))],
 mv 103 102,
 gt 104 103 (.mov false) [.t 9],
 ⟨some 105, (some (103, true)), .bin .eql, [.t 104, .c (.p (.str ⟨#[121]⟩))]⟩,
 ii 106 .pick [.t 103, .t 105, .c (.p (.bool false))],
 mv 107 106,
 gt 108 107 (.mov false) [.t 11],
 ii 109 .pick [.t 107, .t 108, .c (.p (.bool false))],
 mv 110 109,
 gt 111 110 (.mov false) [.t 12],
 ii 112 .pick [.t 110, .t 111, .c (.p (.bool false))],
 mv 113 112,
 gt 114 113 (.mov false) [.t 14],
 ii 115 .pick [.t 113, .t 114, .c (.p (.bool false))],
 mv 116 115,
 gt 117 116 (.mov false) [.t 13],
 gt 118 116 (.bin .eql) [.t 117, .c (.p (.int .i64 4))],
 ii 119 .pick [.t 116, .t 118, .c (.p (.bool false))],
 mv 120 119,
 gt 121 120 (.mov false) [.t 15],
 gt 122 120 (.bin .eql) [.t 121, .c (.p (.int .i64 1))],
 ii 123 .pick [.t 120, .t 122, .c (.p (.bool false))],
 mv 124 123,
 gt 125 124 (.mov false) [.t 16],
 gt 126 124 (.bin .eql) [.t 125, .c (.p (.int .i64 2))],
 ii 127 .pick [.t 124, .t 126, .c (.p (.bool false))],
 mv 128 127,
 gt 129 128 (.mov false) [.t 3],
 ⟨some 130, (some (128, true)), .ob (.callo 117 false), [.t 129, .c (.p (.str ⟨#[99]⟩))]⟩,
 gt 131 128 (.bin .eql) [.t 130, .c (.p (.int .i64 1))],
 ii 132 .pick [.t 128, .t 131, .c (.p (.bool false))],
 mv 133 132,
 gt 134 133 (.mov false) [.t 17],
 ii 135 .pick [.t 133, .t 134, .c (.p (.bool false))],
 mv 136 135,
 gt 137 136 (.mov false) [.t 18],
 gt 138 136 (.un .not) [.t 137],
 ii 139 .pick [.t 136, .t 138, .c (.p (.bool false))],
 mv 140 139,
 gt 141 140 (.mov false) [.t 19],
 gt 142 140 (.bin .eql) [.t 141, .c (.p (.int .i64 7))],
 ii 143 .pick [.t 140, .t 142, .c (.p (.bool false))],
 mv 144 143,
 gt 145 144 (.mov false) [.t 20],
 gt 146 144 (.bin .eql) [.t 145, .c (.p (.int .i64 2))],
 ii 147 .pick [.t 144, .t 146, .c (.p (.bool false))],
 mv 148 147,
 gt 149 148 (.mov false) [.t 21],
 ii 150 .pick [.t 148, .t 149, .c (.p (.bool false))],
 mv 151 150,
 gt 152 151 (.mov false) [.t 22],
 gt 153 151 .len [.t 152],
 gt 154 151 (.bin .eql) [.t 153, .c (.p (.int .i64 1))],
 ii 155 .pick [.t 151, .t 154, .c (.p (.bool false))],
 mv 156 155,
 gt 157 156 (.mov false) [.t 22],
 gt 158 156 (.iad 1) [.t 157, .c (.p (.int .i64 0))],
 gt 159 156 (.load 1 false false) [.t 158],
 gt 160 156 (.bin .eql) [.t 159, .c (.p (.int .i64 9))],
 ii 161 .pick [.t 156, .t 160, .c (.p (.bool false))],
 mv 162 161,
 gt 163 162 (.mov false) [.t 23],
 gt 164 162 .len [.t 163],
 gt 165 162 (.bin .eql) [.t 164, .c (.p (.int .i64 0))],
 ii 166 .pick [.t 162, .t 165, .c (.p (.bool false))],
 mv 167 166,
 gt 168 167 (.mov false) [.t 1],
 gt 169 167 (.ob (.callo 122 false)) [.t 168],
 gt 170 167 (.bin .eql) [.t 169, .c (.p (.int .i64 2))],
 ii 171 .pick [.t 167, .t 170, .c (.p (.bool false))],
 mv 172 171,
 gt 173 172 (.mov false) [.t 2],
 gt 174 172 (.ob (.callo 123 false)) [.t 173],
 gt 175 172 (.bin .eql) [.t 174, .c (.p (.int .i64 1))],
 ii 176 .pick [.t 172, .t 175, .c (.p (.bool false))],
 mv 177 176,
 gt 178 177 (.mov false) [.t 4],
 gt 179 177 (.ob (.callo 124 false)) [.t 178],
 gt 180 177 (.bin .eql) [.t 179, .c (.p (.int .i64 0))],
 ii 181 .pick [.t 177, .t 180, .c (.p (.bool false))],
 mt 0 181])
 .ret))))))))))))))))))⟩
theorem k76 : chkF Tryz.prog 76 F76 = true := by kernel_rfl
def F15 : Fn := ⟨150, 4, [.tmp 0],
 (.seq
 (.reg [mc 0 (.bool false)])
 (.seq
 (.gp (.reg [⟨some 15, none, .build [.int .i64 0, .int .i64 0, .int .i64 0, .int .i64 0] [(2, 1), (3, 1)], [.c (.p (.int .i64 5)), .c (.p (.int .i64 2))]⟩,
 ii 16 (.bsl 4 1) [.t 15],
 ⟨some 17, none, .build [.int .i64 0, .sl 4 true []] [(0, 1), (1, 1)], [.c (.p (.int .i64 1)), .t 16]⟩,
 ⟨some 1, none, .alloc 0 2 [.p (.int .i64 0), .ow 4 true []], []⟩,
 ⟨none, none, .store 2, [.t 1, .t 17]⟩]) (.lay 0 2))
 (.seq
 (.gp (.reg [ii 18 (.load 2 true false) [.t 1],
 ii 19 (.call 19) [.t 18, .c (.p (.int .i64 3)), .c (.p (.int .i64 2))],
 ⟨some 2, none, .alloc 1 9 [.p (.int .i64 0), .p (.int .i64 0), .p (.int .i64 0), .p (.int .i64 0), .p (.int .i64 0), .p (.int .i64 0), .p (.int .i64 0), .p (.int .i64 0), .p (.int .i64 0)], []⟩,
 ⟨none, none, .store 9, [.t 2, .t 19]⟩]) (.lay 1 9))
 (.seq
 (.gp (.reg [⟨some 21, none, .build [.int .i64 0, .int .i64 0, .int .i64 0, .int .i64 0, .sl 1 true []] [(0, 1)], [.c (.p (.int .i64 1))]⟩,
 ⟨some 22, none, .build [.int .i64 0, .int .i64 0, .int .i64 0, .sl 3 true []] [(0, 1), (1, 1), (2, 1)], [.c (.p (.int .i64 2)), .c (.p (.int .i64 5)), .c (.p (.int .i64 5))]⟩,
 ii 23 (.load 2 true false) [.t 1],
 ii 24 (.load 9 true false) [.t 2],
 ii 25 (.call 20) [.t 21, .t 22, .t 23, .t 24, .c (.p (.int .i64 7))],
 mv 20 25,
 ii 26 (.ext 0) [.t 20],
 ii 27 (.ext 1) [.t 20],
 ⟨some 3, none, .alloc 2 9 [.p (.int .i64 0), .p (.int .i64 0), .p (.int .i64 0), .p (.int .i64 0), .p (.int .i64 0), .p (.int .i64 0), .p (.int .i64 0), .p (.int .i64 0), .p (.int .i64 0)], []⟩,
 ⟨none, none, .store 9, [.t 3, .t 26]⟩,
 mt 4 27]) (.lay 2 9))
 (.seq
 (.gp (.reg [⟨some 29, none, .build [.int .i64 0, .int .i64 0, .int .i64 0, .int .i64 0, .sl 1 true []] [(0, 1)], [.c (.p (.int .i64 1))]⟩,
 ⟨some 30, none, .build [.int .i64 0, .int .i64 0, .int .i64 0, .sl 3 true []] [(0, 1), (1, 1), (2, 1)], [.c (.p (.int .i64 2)), .c (.p (.int .i64 5)), .c (.p (.int .i64 5))]⟩,
 ii 31 (.load 2 true false) [.t 1],
 ii 32 (.load 9 true false) [.t 3],
 ii 33 (.call 20) [.t 29, .t 30, .t 31, .t 32, .c (.p (.int .i64 8))],
 mv 28 33,
 ii 34 (.ext 0) [.t 28],
 ii 35 (.ext 1) [.t 28],
 ⟨some 5, none, .alloc 3 9 [.p (.int .i64 0), .p (.int .i64 0), .p (.int .i64 0), .p (.int .i64 0), .p (.int .i64 0), .p (.int .i64 0), .p (.int .i64 0), .p (.int .i64 0), .p (.int .i64 0)], []⟩,
 ⟨none, none, .store 9, [.t 5, .t 34]⟩,
 mt 6 35]) (.lay 3 9))
 (.seq
 (.reg [ii 36 (.ob (.callo 27 true)) [],
 ii 37 (.ob (.callo 36 true)) [],
 ii 38 (.ob (.callo 32 true)) [],
 mt 7 36,
 mt 8 37,
 mt 9 38])
 (.seq
 (.seq
 (.reg [mv 39 7,
 ii 40 (.ob (.eqp false)) [.t 39, .c (.p (.atom (.pointer none)))],
 mv 41 40,
 gf 42 41 (.mov false) [.t 8],
 gf 43 41 (.ob (.eqp false)) [.t 42, .c (.p (.atom (.pointer none)))],
 ii 44 .pick [.t 41, .c (.p (.bool true)), .t 43],
 mv 45 44,
 gf 46 45 (.mov false) [.t 9],
 gf 47 45 (.ob (.eqp false)) [.t 46, .c (.p (.atom (.pointer none)))],
 ii 48 .pick [.t 45, .c (.p (.bool true)), .t 47]])
 (.cond (.t 48)
 (.seq
 (.reg [mc 0 (.bool false)])
 .ret)
 .skip))
 (.seq
 (.reg [mv 49 7,
 ii 50 (.ob (.callo 28 true)) [.t 49, .c (.p (.int .i64 2)), .c (.p (.int .i64 9))]])
 (.seq
 (.reg [mv 51 7,
 ii 52 (.ob (.callo 28 true)) [.t 51, .c (.p (.int .i64 1)), .c (.p (.int .i64 9))]])
 (.seq
 (.reg [mv 53 8,
 ii 54 (.ob (.callo 37 false)) [.t 53, .c (.p (.int .i64 4)), .c (.p (.int .i64 1))],
 mt 10 54])
 (.seq
 (.reg [mv 56 8,
 ii 57 (.ob (.callo 38 false)) [.t 56],
 mv 55 57,
 ii 58 (.ext 0) [.t 55],
 ii 59 (.ext 1) [.t 55],
 mt 11 58,
 mt 12 59])
 (.seq
 (.reg [mv 60 9,
 ⟨some 61, none, .build [.int .i64 0, .int .i64 0, .int .i64 0, .int .i64 0, .int .i64 0] [(0, 1), (1, 1), (3, 1)], [.c (.p (.int .i64 2)), .c (.p (.int .i64 2)), .c (.p (.int .i64 5))]⟩,
 ii 62 (.ob (.callo 33 true)) [.t 60, .t 61],
 mt 13 62])
 (.seq
 (.reg [mv 63 9,
 ii 64 (.ob (.callo 34 true)) [.t 63, .c (.p (.int .i64 5))],
 mt 14 64])
 (.seq
 (.reg [ii 65 (.call 43) [],
 mv 66 65,
 gt 67 66 (.call 44) [],
 ii 68 .pick [.t 66, .t 67, .c (.p (.bool false))],
 mv 69 68,
 gt 70 69 (.fad 0) [.t 2],
 gt 71 69 (.load 1 false false) [.t 70],
 gt 72 69 (.bin .eql) [.t 71, .c (.p (.int .i64 2))],
 ii 73 .pick [.t 69, .t 72, .c (.p (.bool false))],
 mv 74 73,
 gt 75 74 (.load 9 true false) [.t 2],
 gt 76 74 (.call 22) [.t 75],
 ii 77 .pick [.t 74, .t 76, .c (.p (.bool false))],
 mv 78 77,
 gt 79 78 (.load 2 true false) [.t 1],
 gt 80 78 (.load 9 true false) [.t 2],
 gt 81 78 (.call 25) [.t 79, .t 80],
 gt 82 78 (.bin .eql) [.t 81, .c (.p (.int .i64 8))],
 ii 83 .pick [.t 78, .t 82, .c (.p (.bool false))],
 mv 84 83,
 gt 85 84 (.load 2 true false) [.t 1],
 gt 86 84 (.load 9 true false) [.t 2],
 gt 87 84 (.call 24) [.t 85, .t 86],
 gt 88 84 (.bin .eql) [.t 87, .c (.p (.int .i64 3))],
 ii 89 .pick [.t 84, .t 88, .c (.p (.bool false))],
 mv 90 89,
 gt 91 90 (.mov false) [.t 4],
 gt 92 90 (.bin .eql) [.t 91, .c (.p (.int .i64 1))],
 ii 93 .pick [.t 90, .t 92, .c (.p (.bool false))],
 mv 94 93,
 gt 95 94 (.fad 3) [.t 3],
 gt 96 94 (.load 1 false false) [.t 95],
 gt 97 94 (.bin .eql) [.t 96, .c (.p (.int .i64 1))],
 ii 98 .pick [.t 94, .t 97, .c (.p (.bool false))],
 mv 99 98,
 gt 100 99 (.mov false) [.t 6],
 gt 101 99 (.bin .eql) [.t 100, .c (.p (.int .i64 2))],
 ii 102 .pick [.t 99, .t 101, .c (.p (.bool false))],
 mv 103 102,
 gt 104 103 (.fad 8) [.t 5],
 gt 105 103 (.load 1 false false) [.t 104],
 gt 106 103 (.bin .eql) [.t 105, .c (.p (.int .i64 9))],
 ii 107 .pick [.t 103, .t 106, .c (.p (.bool false))],
 mv 108 107,
 gt 109 108 (.mov false) [.t 7],
 gt 110 108 (.ob (.callo 30 false)) [.t 109],
 gt 111 108 (.bin .eql) [.t 110, .c (.p (.int .i64 1))],
 ii 112 .pick [.t 108, .t 111, .c (.p (.bool false))],
 mv 113 112,
 gt 114 113 (.mov false) [.t 7],
 gt 115 113 (.ob (.callo 29 false)) [.t 114, .c (.p (.int .i64 1))],
 ii 116 .pick [.t 113, .t 115, .c (.p (.bool false))],
 mv 117 116,
 gt 118 117 (.mov false) [.t 7],
 gt 119 117 (.ob (.callo 31 false)) [.t 118],
 gt 120 117 (.bin .eql) [.t 119, .c (.p (.int .i64 1))],
 ii 121 .pick [.t 117, .t 120, .c (.p (.bool false))],
 mv 122 121,
 gt 123 122 (.mov false) [.t 10],
 ii 124 .pick [.t 122, .t 123, .c (.p (.bool false))],
 mv 125 124,
 gt 126 125 (.mov false) [.t 11],
 gt 127 125 (.bin .eql) [.t 126, .c (.p (.int .i64 4))],
 ii 128 .pick [.t 125, .t 127, .c (.p (.bool false))],
 mv 129 128,
 gt 130 129 (.mov false) [.t 12],
 ii 131 .pick [.t 129, .t 130, .c (.p (.bool false))],
 mv 132 131,
 gt 133 132 (.mov false) [.t 8],
 gt 134 132 (.ob (.callo 39 false)) [.t 133],
 gt 135 132 (.bin .eql) [.t 134, .c (.p (.int .i64 0))],
 ii 136 .pick [.t 132, .t 135, .c (.p (.bool false))],
 mv 137 136,
 gt 138 137 (.mov false) [.t 13],
 ii 139 .pick [.t 137, .t 138, .c (.p (.bool false))],
 mv 140 139,
 gt 141 140 (.mov false) [.t 14],
 gt 142 140 .len [.t 141],
 gt 143 140 (.bin .eql) [.t 142, .c (.p (.int .i64 1))],
 ii 144 .pick [.t 140, .t 143, .c (.p (.bool false))],
 mv 145 144,
 gt 146 145 (.mov false) [.t 9],
 gt 147 145 (.ob (.callo 35 true)) [.t 146],
 gt 148 145 (.bin .eql) [.t 147, .c (.p (.int .i64 0))],
 ii 149 .pick [.t 145, .t 148, .c (.p (.bool false))],
 mt 0 149])
 .ret))))))))))))))⟩
theorem k15 : chkF Tryz.prog 15 F15 = true := by kernel_rfl
end Go.Proofs.YtnjphclbpgajpaaGreatDoor.Vc
namespace Go.Proofs.YtnjphclbpgajpaaGreatDoor.Vc
open Go.RowKit Ma
structure Jb where
 st : Int
 rel : Int
 want : Int
 don : Int
 pc : Int
 left : Int
 ov : Int
 sec : Int
 fin : Int
def eJ (j : Jb) : PV := .agg [.int .i64 j.st, .int .i64 j.rel, .int .i64 j.want, .int .i64 j.don, .int .i64 j.pc, .int .i64 j.left, .int .i64 j.ov, .int .i64 j.sec, .int .i64 j.fin]
theorem active15 (j : Jb) : PureCall Tryz.prog 22 [eJ j] (.p (.bool (j.st == 1 || (j.st == 2 || j.st == 3)))) := by
 refine Fn.run k22 rfl ?_
 generalize Tryz.prog = P at *
 (repeat' ((conv => whnf); first | exact trivial | with_reducible refine zX ?_ | refine ⟨rfl, ?_⟩ | refine ⟨_, rfl, ?_⟩ | with_reducible refine zP ?_ | with_reducible refine zL ?_ | refine ⟨fun _ => ?_, fun _ => ?_⟩ | refine zn ?_ | refine zb rfl ?_ | refine zX ?_ | refine zo rfl ?_ | refine zs ?_ | intro _)); all_goals (try (conv => whnf))
 all_goals (refine bool_end (Bool.eq_iff_iff.2 ?_); simp only [beq_iff_eq, List.length_map, Bool.and_eq_true, Bool.or_eq_true, Bool.and_eq_false_iff, Bool.or_eq_false_iff, decide_eq_true_eq, decide_eq_false_iff_not, Bool.not_eq_true', Bool.not_eq_false', Bool.false_eq_true, Bool.true_eq_false, Bool.not_true, Bool.not_false, ge_iff_le, gt_iff_lt] at *; first | done | omega | (simp only [false_iff]; omega) | (simp only [true_iff]; omega) | grind)
end Go.Proofs.YtnjphclbpgajpaaGreatDoor.Vc
