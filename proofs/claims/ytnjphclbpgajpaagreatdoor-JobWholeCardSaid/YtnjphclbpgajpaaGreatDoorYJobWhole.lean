/- Contract of the law JobWhole. No condition. -/
import Derived.Test.YtnjphclbpgajpaaGreatDoorX09
import Derived.Test.YtnjphclbpgajpaaGreatDoorX08
import Derived.Test.YtnjphclbpgajpaaGreatDoorProg
import Derived.Test.YtnjphclbpgajpaaGreatDoorX11
import Derived.Test.YtnjphclbpgajpaaGreatDoorX10
import Derived.Test.YtnjphclbpgajpaaGreatDoorX16
set_option linter.unnecessarySimpa false
set_option linter.unusedSectionVars false
set_option linter.unusedSimpArgs false
set_option linter.unusedVariables false
set_option maxHeartbeats 4000000
set_option maxRecDepth 100000
namespace Go.Proofs.YtnjphclbpgajpaaGreatDoor.Vc
open Go.RowKit Ma
open Go.RowKit Ma
def QO(kind:Int)(nl:Bool)(ps:List Pc):Box:=⟨true,2,[[.p (.int .i64 kind),.p (.sl 4 nl (ps.map eP))]],false⟩
open Go.RowKit
def F4:Fn:=⟨122,6,[.tmp 12],
 (.sr [ii 6 (.box 0 5) [.t 0],
 ii 8 (.box 1 4) [.t 2],
 ii 10 (.box 2 9) [.t 4],
 mc 12 (.bool false)]
 (.sr [ii 20 (.call 15) [],
 mt 13 20]
 (.seq
 (.sr [mv 21 13,
 ii 22 (.un .not) [.t 21]]
 (.cond (.t 22)
 (.sr [mc 12 (.bool false)]
 .ret)
 .skip))
 (.seq
 (.gp (.reg [ii 23 (.load 5 true false) [.t 6],
 ii 24 (.call 16) [.t 23],
 ⟨none,none,.store 5,[.t 6,.t 24]⟩]) (.lay 0 5))
 (.seq
 (.gp (.reg [ii 26 (.load 5 true false) [.t 6],
 ii 27 (.load 4 true false) [.t 8],
 ii 28 (.call 17) [.t 26,.t 27],
 mv 25 28,
 ii 29 (.ext 0) [.t 25],
 ii 30 (.ext 1) [.t 25],
 ⟨none,none,.store 4,[.t 8,.t 29]⟩,
 mt 14 30]) (.lay 1 4))
 (.seq
 (.sr [mv 31 14,
 ii 32 (.un .not) [.t 31],
 mv 33 32,
 gf 34 33 (.mov false) [.t 5],
 gf 35 33 (.bin .lss) [.t 34,cI 0],
 ii 36 .pick [.t 33,.c (.p (.bool true)),.t 35],
 mv 37 36,
 gf 38 37 (.mov false) [.t 5],
 gf 39 37 (.bin .gtr) [.t 38,cI 1099511627776],
 ii 40 .pick [.t 37,.c (.p (.bool true)),.t 39]]
 (.cond (.t 40)
 (.sr [mc 12 (.bool true)]
 .ret)
 .skip))
 (.seq
 (.gp (.reg [ii 42 (.load 5 true false) [.t 6],
 mv 43 1,
 ii 44 (.load 4 true false) [.t 8],
 mv 45 3,
 ii 46 (.call 18) [.t 42,.t 43,.t 44,.t 45],
 mv 41 46,
 ii 47 (.ext 0) [.t 41],
 ii 48 (.ext 1) [.t 41],
 ⟨some 15,none,.alloc 3 2 [Z0,.ow 4 true []],[]⟩,
 ⟨none,none,.store 2,[.t 15,.t 47]⟩,
 mt 14 48]) (.lay 3 2))
 (.seq
 (.sr [mv 49 14,
 ii 50 (.un .not) [.t 49],
 mv 51 50,
 gf 52 51 (.fad 5) [.t 10],
 gf 53 51 (.load 1 false false) [.t 52],
 gf 54 51 (.bin .lss) [.t 53,cI 1],
 ii 55 .pick [.t 51,.c (.p (.bool true)),.t 54],
 mv 56 55,
 gf 57 56 (.fad 6) [.t 10],
 gf 58 56 (.load 1 false false) [.t 57],
 gf 59 56 (.bin .lss) [.t 58,cI 0],
 ii 60 .pick [.t 56,.c (.p (.bool true)),.t 59],
 mv 61 60,
 gf 62 61 (.fad 3) [.t 10],
 gf 63 61 (.load 1 false false) [.t 62],
 gf 64 61 (.bin .lss) [.t 63,cI 0],
 ii 65 .pick [.t 61,.c (.p (.bool true)),.t 64],
 mv 66 65,
 gf 67 66 (.fad 7) [.t 10],
 gf 68 66 (.load 1 false false) [.t 67],
 gf 69 66 (.bin .lss) [.t 68,cI 0],
 ii 70 .pick [.t 66,.c (.p (.bool true)),.t 69],
 mv 71 70,
 gf 72 71 (.fad 5) [.t 10],
 gf 73 71 (.load 1 false false) [.t 72],
 gf 74 71 (.bin .gtr) [.t 73,cI 1000],
 ii 75 .pick [.t 71,.c (.p (.bool true)),.t 74],
 mv 76 75,
 gf 77 76 (.fad 3) [.t 10],
 gf 78 76 (.load 1 false false) [.t 77],
 gf 79 76 (.bin .gtr) [.t 78,cI 1000],
 ii 80 .pick [.t 76,.c (.p (.bool true)),.t 79],
 mv 81 80,
 gf 82 81 (.fad 3) [.t 10],
 gf 83 81 (.load 1 false false) [.t 82],
 gf 84 81 (.fad 2) [.t 10],
 gf 85 81 (.load 1 false false) [.t 84],
 gf 86 81 (.bin .geq) [.t 83,.t 85],
 ii 87 .pick [.t 81,.c (.p (.bool true)),.t 86]]
 (.cond (.t 87)
 (.sr [mv 88 14,
 mt 12 88]
 .ret)
 .skip))
 (.seq
 (.gp (.reg [ii 90 (.load 5 true false) [.t 6],
 ii 91 (.load 4 true false) [.t 8],
 ii 92 (.load 2 true false) [.t 15],
 ii 93 (.load 9 true false) [.t 10],
 mv 94 5,
 ii 95 (.call 20) [.t 90,.t 91,.t 92,.t 93,.t 94],
 mv 89 95,
 ii 96 (.ext 0) [.t 89],
 ii 97 (.ext 1) [.t 89],
 ⟨some 16,none,.alloc 4 9 [Z0,Z0,Z0,Z0,Z0,Z0,Z0,Z0,Z0],[]⟩,
 ⟨none,none,.store 9,[.t 16,.t 96]⟩,
 mt 17 97]) (.lay 4 9))
 (.seq
 (.gp (.reg [ii 99 (.load 5 true false) [.t 6],
 ii 100 (.load 4 true false) [.t 8],
 ii 101 (.load 2 true false) [.t 15],
 ii 102 (.load 9 true false) [.t 10],
 mv 103 5,
 ii 104 (.call 21) [.t 99,.t 100,.t 101,.t 102,.t 103],
 mv 98 104,
 ii 105 (.ext 0) [.t 98],
 ii 106 (.ext 1) [.t 98],
 ⟨some 18,none,.alloc 5 9 [Z0,Z0,Z0,Z0,Z0,Z0,Z0,Z0,Z0],[]⟩,
 ⟨none,none,.store 9,[.t 18,.t 105]⟩,
 mt 19 106]) (.lay 5 9))
 (.seq
 (.regd [ii 107 (.at 4 (.load 9 true false)) [.t 16],
 ii 108 (.at 5 (.load 9 true false)) [.t 18],
 ii 109 (.eqs 9 false) [.t 107,.t 108],
 mv 110 109,
 gt 111 110 (.mov false) [.t 17],
 gt 112 110 (.mov false) [.t 19],
 gt 113 110 (.bin .eql) [.t 111,.t 112],
 ii 114 .pick [.t 110,.t 113,.c (.p (.bool false))],
 mv 115 114,
 gt 116 115 (.at 2 (.load 9 true false)) [.t 10],
 gt 117 115 (.pl (.call 22)) [.t 116],
 gt 118 115 (.at 2 (.load 9 true false)) [.t 10],
 gt 119 115 (.pl (.call 23)) [.t 118],
 gt 120 115 (.eqb false) [.t 117,.t 119],
 ii 121 .pick [.t 115,.t 120,.c (.p (.bool false))],
 mt 12 121])
 .ret)))))))))))⟩
theorem k4:aC Tryz.prog 4 F4=true:=by kernel_rfl
def F6:Fn:=⟨132,5,[.tmp 6],
 (.sr [ii 3 (.box 0 5) [.t 0],
 ii 4 (.box 1 4) [.t 1],
 mc 6 (.bool false)]
 (.sr [ii 17 (.call 15) [],
 mt 7 17]
 (.seq
 (.sr [mv 18 7,
 ii 19 (.un .not) [.t 18]]
 (.cond (.t 19)
 (.sr [mc 6 (.bool false)]
 .ret)
 .skip))
 (.seq
 (.gp (.reg [ii 20 (.load 5 true false) [.t 3],
 ii 21 (.call 16) [.t 20],
 ⟨none,none,.store 5,[.t 3,.t 21]⟩]) (.lay 0 5))
 (.seq
 (.gp (.reg [ii 23 (.load 5 true false) [.t 3],
 ii 24 (.load 4 true false) [.t 4],
 ii 25 (.call 17) [.t 23,.t 24],
 mv 22 25,
 ii 26 (.ext 0) [.t 22],
 ii 27 (.ext 1) [.t 22],
 ⟨none,none,.store 4,[.t 4,.t 26]⟩,
 mt 8 27]) (.lay 1 4))
 (.seq
 (.sr [mv 28 8,
 ii 29 (.un .not) [.t 28],
 mv 30 29,
 gf 31 30 (.mov false) [.t 2],
 gf 32 30 (.bin .lss) [.t 31,cI 1],
 ii 33 .pick [.t 30,.c (.p (.bool true)),.t 32],
 mv 34 33,
 gf 35 34 (.mov false) [.t 2],
 gf 36 34 (.fad 0) [.t 4],
 gf 37 34 (.load 1 false false) [.t 36],
 gf 38 34 (.bin .gtr) [.t 35,.t 37],
 ii 39 .pick [.t 34,.c (.p (.bool true)),.t 38]]
 (.cond (.t 39)
 (.sr [mc 6 (.bool true)]
 .ret)
 .skip))
 (.seq
 (.gp (.reg [fa 40 1 4,
 ld 41 40,
 fa 42 0 4,
 ld 43 42,
 ⟨some 44,none,.build [.int .i64 0,.int .i64 0,.int .i64 0,.int .i64 0] [(2,1),(3,1)],[.t 41,.t 43]⟩,
 ii 45 (.bsl 4 1) [.t 44],
 ⟨some 46,none,.build [.int .i64 0,.sl 4 true []] [(0,1),(1,1)],[cI 1,.t 45]⟩,
 ⟨some 9,none,.alloc 2 2 [Z0,.ow 4 true []],[]⟩,
 ⟨none,none,.store 2,[.t 9,.t 46]⟩]) (.lay 2 2))
 (.seq
 (.gp (.reg [ii 47 (.load 2 true false) [.t 9],
 mv 48 2,
 ii 49 (.call 19) [.t 47,cI 0,.t 48],
 ⟨some 10,none,.alloc 3 9 [Z0,Z0,Z0,Z0,Z0,Z0,Z0,Z0,Z0],[]⟩,
 ⟨none,none,.store 9,[.t 10,.t 49]⟩]) (.lay 3 9))
 (.sr [mc 11 (.int .i64 0)]
 (.seq
 (.sr [mc 12 (.int .i64 0)]
 (.block 0
 (.loop [0,1,6,7,8,13,14,15,16,17,18,19,20,21,22,23,24,25,26,27,28,29,30,31,32,33,34,35,36,37,38,39,40,41,42,43,44,45,46,47,48,49,50,51,52,53,54,55,56,57,58,59,60,61,62,63,64,65,66,67,68,69,70,71,72,73,74,75,76,77,78,79,80,81,82,83,84,85,86,87,88,89,90,91,92,93,94,95,96,97,98,99,100,101,102,103,104,105,106,107,108,109,110,111,112,113,114,115,116,117,118,119,120,121,122,123,124,125,126,127,128,129,130,131] [4]
 (.seq
 (.sr [mv 50 12,
 mv 51 2,
 b2 52 .lss 50 51]
 (.cond (.t 52)
 .skip
 (.exit 0)))
 (.seq
 (.block 1
 (.seq
 (.gp (.reg [ii 56 (.load 5 true false) [.t 3],
 ii 57 (.load 4 true false) [.t 4],
 ii 58 (.load 2 true false) [.t 9],
 ii 59 (.load 9 true false) [.t 10],
 mv 60 12,
 ii 61 (.call 20) [.t 56,.t 57,.t 58,.t 59,.t 60],
 mv 55 61,
 ii 62 (.ext 0) [.t 55],
 ii 63 (.ext 1) [.t 55],
 ⟨some 13,none,.alloc 4 9 [Z0,Z0,Z0,Z0,Z0,Z0,Z0,Z0,Z0],[]⟩,
 ⟨none,none,.store 9,[.t 13,.t 62]⟩,
 mt 14 63]) (.lay 4 9))
 (.seq
 (.sr [fa 64 3 13,
 ld 65 64,
 mv 66 12,
 b1 67 .add 66 (.int .i64 1),
 b2 68 .neq 65 67,
 mv 69 68,
 gf 70 69 (.mov false) [.t 14],
 gf 71 69 (.bin .eql) [.t 70,cI 2],
 gf 72 69 (.mov false) [.t 12],
 gf 73 69 (.bin .add) [.t 72,cI 1],
 gf 74 69 (.mov false) [.t 2],
 gf 75 69 (.bin .eql) [.t 73,.t 74],
 gf 76 69 (.eqb true) [.t 71,.t 75],
 ii 77 .pick [.t 69,.c (.p (.bool true)),.t 76],
 mv 78 77,
 gf 79 78 (.mov false) [.t 14],
 gf 80 78 (.bin .eql) [.t 79,cI 4],
 ii 81 .pick [.t 78,.c (.p (.bool true)),.t 80],
 mv 82 81,
 gf 83 82 (.mov false) [.t 14],
 gf 84 82 (.bin .eql) [.t 83,cI 5],
 ii 85 .pick [.t 82,.c (.p (.bool true)),.t 84]]
 (.cond (.t 85)
 (.sr [mc 6 (.bool false)]
 .ret)
 .skip))
 (.seq
 (.sr [mv 86 14,
 b1 87 .eql 86 (.int .i64 3)]
 (.cond (.t 87)
 (.sr [mv 88 11,
 b1 89 .add 88 (.int .i64 1),
 mt 11 89]
 (.gp (.reg [fa 90 0 13,
 ⟨none,none,.store 1,[.t 90,cI 2]⟩]) (.lay 4 9)))
 .skip))
 (.gp (.reg [ii 91 (.load 9 true false) [.t 13],
 ⟨none,none,.store 9,[.t 10,.t 91]⟩]) (.lay 3 9))))))
 (.reg [mv 53 12,
 b1 54 .add 53 (.int .i64 1),
 mt 12 54]))))))
 (.sr [mc 15 (.int .i64 0)]
 (.seq
 (.sr [mc 16 (.int .i64 0)]
 (.block 2
 (.loop [0,1,3,6,7,8,9,12,13,14,17,18,19,20,21,22,23,24,25,26,27,28,29,30,31,32,33,34,35,36,37,38,39,40,41,42,43,44,45,46,47,48,49,50,51,52,53,54,55,56,57,58,59,60,61,62,63,64,65,66,67,68,69,70,71,72,73,74,75,76,77,78,79,80,81,82,83,84,85,86,87,88,89,90,91,92,93,94,95,96,97,98,99,100,101,102,103,104,105,106,107,108,109,110,111,112,113,114,115,116,117,118,119,120,121,122,123,124,125,126,127,128,129,130,131] []
 (.seq
 (.sr [mv 92 16,
 fa 93 3 4,
 ld 94 93,
 ii 95 .len [.t 94],
 b2 96 .lss 92 95]
 (.cond (.t 96)
 .skip
 (.exit 2)))
 (.seq
 (.block 3
 (.sr [fa 99 3 4,
 ld 100 99,
 mv 101 16,
 ii 102 (.iad 3) [.t 100,.t 101],
 fa 103 1 102,
 ld 104 103,
 mv 105 2,
 b2 106 .lss 104 105]
 (.cond (.t 106)
 (.reg [mv 107 15,
 b1 108 .add 107 (.int .i64 1),
 mt 15 108])
 .skip)))
 (.reg [mv 97 16,
 b1 98 .add 97 (.int .i64 1),
 mt 16 98]))))))
 (.sr [mv 109 11,
 mv 110 15,
 b2 111 .eql 109 110,
 mv 112 111,
 gt 113 112 (.fad 0) [.t 10],
 gt 114 112 (.load 1 false false) [.t 113],
 gt 115 112 (.bin .eql) [.t 114,cI 4],
 ii 116 .pick [.t 112,.t 115,.c (.p (.bool false))],
 mv 117 116,
 gt 118 117 (.fad 8) [.t 10],
 gt 119 117 (.load 1 false false) [.t 118],
 gt 120 117 (.mov false) [.t 2],
 gt 121 117 (.bin .eql) [.t 119,.t 120],
 ii 122 .pick [.t 117,.t 121,.c (.p (.bool false))],
 mv 123 122,
 gt 124 123 (.fad 5) [.t 10],
 gt 125 123 (.load 1 false false) [.t 124],
 gt 126 123 (.fad 0) [.t 4],
 gt 127 123 (.load 1 false false) [.t 126],
 gt 128 123 (.mov false) [.t 2],
 gt 129 123 (.bin .sub) [.t 127,.t 128],
 gt 130 123 (.bin .eql) [.t 125,.t 129],
 ii 131 .pick [.t 123,.t 130,.c (.p (.bool false))],
 mt 6 131]
 .ret)))))))))))))⟩
theorem k6:aC Tryz.prog 6 F6=true:=by kernel_rfl
def F3:Fn:=⟨212,8,[.tmp 12],
 (.sr [ii 6 (.box 0 5) [.t 0],
 ii 8 (.box 1 4) [.t 2],
 mc 12 (.bool false)]
 (.sr [ii 25 (.call 15) [],
 mt 13 25]
 (.seq
 (.sr [mv 26 13,
 ii 27 (.un .not) [.t 26]]
 (.cond (.t 27)
 (.sr [mc 12 (.bool false)]
 .ret)
 .skip))
 (.seq
 (.gp (.reg [ii 28 (.load 5 true false) [.t 6],
 ii 29 (.call 16) [.t 28],
 ⟨none,none,.store 5,[.t 6,.t 29]⟩]) (.lay 0 5))
 (.seq
 (.gp (.reg [ii 31 (.load 5 true false) [.t 6],
 ii 32 (.load 4 true false) [.t 8],
 ii 33 (.call 17) [.t 31,.t 32],
 mv 30 33,
 ii 34 (.ext 0) [.t 30],
 ii 35 (.ext 1) [.t 30],
 ⟨none,none,.store 4,[.t 8,.t 34]⟩,
 mt 14 35]) (.lay 1 4))
 (.seq
 (.sr [mv 36 14,
 ii 37 (.un .not) [.t 36],
 mv 38 37,
 gf 39 38 (.mov false) [.t 4],
 gf 40 38 (.bin .lss) [.t 39,cI 0],
 ii 41 .pick [.t 38,.c (.p (.bool true)),.t 40],
 mv 42 41,
 gf 43 42 (.mov false) [.t 4],
 gf 44 42 (.bin .gtr) [.t 43,cI 1073741824],
 ii 45 .pick [.t 42,.c (.p (.bool true)),.t 44],
 mv 46 45,
 gf 47 46 (.mov false) [.t 5],
 gf 48 46 (.bin .lss) [.t 47,cI 1],
 ii 49 .pick [.t 46,.c (.p (.bool true)),.t 48],
 mv 50 49,
 gf 51 50 (.mov false) [.t 5],
 gf 52 50 (.bin .gtr) [.t 51,cI 300],
 ii 53 .pick [.t 50,.c (.p (.bool true)),.t 52]]
 (.cond (.t 53)
 (.sr [mc 12 (.bool true)]
 .ret)
 .skip))
 (.seq
 (.gp (.reg [ii 55 (.load 5 true false) [.t 6],
 mv 56 1,
 ii 57 (.load 4 true false) [.t 8],
 mv 58 3,
 ii 59 (.call 18) [.t 55,.t 56,.t 57,.t 58],
 mv 54 59,
 ii 60 (.ext 0) [.t 54],
 ii 61 (.ext 1) [.t 54],
 ⟨some 15,none,.alloc 2 2 [Z0,.ow 4 true []],[]⟩,
 ⟨none,none,.store 2,[.t 15,.t 60]⟩,
 mt 14 61]) (.lay 2 2))
 (.seq
 (.sr [mv 62 14,
 ii 63 (.un .not) [.t 62],
 mv 64 63,
 gf 65 64 (.fad 1) [.t 15],
 gf 66 64 (.load 1 false false) [.t 65],
 gf 67 64 .len [.t 66],
 gf 68 64 (.bin .eql) [.t 67,cI 0],
 ii 69 .pick [.t 64,.c (.p (.bool true)),.t 68]]
 (.cond (.t 69)
 (.sr [mc 12 (.bool false)]
 .ret)
 .skip))
 (.seq
 (.gp (.reg [ii 70 (.load 2 true false) [.t 15],
 mv 71 4,
 mv 72 5,
 ii 73 (.call 19) [.t 70,.t 71,.t 72],
 ⟨some 16,none,.alloc 3 9 [Z0,Z0,Z0,Z0,Z0,Z0,Z0,Z0,Z0],[]⟩,
 ⟨none,none,.store 9,[.t 16,.t 73]⟩]) (.lay 3 9))
 (.seq
 (.gp (.reg [mv 74 4,
 mv 75 5,
 fa 76 1 15,
 ld 77 76,
 ii 78 (.iad 4) [.t 77,cI 0],
 fa 79 3 78,
 ld 80 79,
 ⟨some 81,none,.build [.int .i64 0,.int .i64 0,.int .i64 0,.int .i64 0,.int .i64 0,.int .i64 0,.int .i64 0,.int .i64 0,.int .i64 0] [(0,1),(1,1),(2,1),(5,1)],[cI 2,.t 74,.t 75,.t 80]⟩,
 ⟨some 17,none,.alloc 4 9 [Z0,Z0,Z0,Z0,Z0,Z0,Z0,Z0,Z0],[]⟩,
 ⟨none,none,.store 9,[.t 17,.t 81]⟩]) (.lay 4 9))
 (.seq
 (.sr [ii 82 (.load 9 true false) [.t 16],
 ii 83 (.load 9 true false) [.t 17],
 ii 84 (.eqs 9 true) [.t 82,.t 83]]
 (.cond (.t 84)
 (.sr [mc 12 (.bool false)]
 .ret)
 .skip))
 (.seq
 (.sr [mv 85 4,
 mt 18 85]
 (.block 0
 (.loop [0,1,2,3,12,13,14,17,19,20,21,22,23,24,25,26,27,28,29,30,31,32,33,34,35,36,37,38,39,40,41,42,43,44,45,46,47,48,49,50,51,52,53,54,55,56,57,58,59,60,61,62,63,64,65,66,67,68,69,70,71,72,73,74,75,76,77,78,79,80,81,82,83,84,85,86,87,88,89,90,91,92,93,94,95,96,97,98,99,100,101,102,103,104,105,106,107,108,109,110,111,112,113,114,115,116,117,118,119,120,121,122,123,124,125,126,127,128,129,130,131,132,133,134,135,136,137,138,139,140,141,142,143,144,145,146,147,148,149,150,151,152,153,154,155,156,157,158,159,160,161,162,163,164,165,166,167,168,169,170,171,172,173,174,175,176,177,178,179,180,181,182,183,184,185,186,187,188,189,190,191,192,193,194,195,196,197,198,199,200,201,202,203,204,205,206,207,208,209,210,211] [5,6,7]
 (.seq
 (.sr [mv 86 18,
 mv 87 4,
 b1 88 .add 87 (.int .i64 500),
 b2 89 .lss 86 88]
 (.cond (.t 89)
 .skip
 (.exit 0)))
 (.seq
 (.block 1
 (.seq
 (.gp (.reg [ii 93 (.load 5 true false) [.t 6],
 ii 94 (.load 4 true false) [.t 8],
 ii 95 (.load 2 true false) [.t 15],
 ii 96 (.load 9 true false) [.t 16],
 mv 97 18,
 ii 98 (.call 20) [.t 93,.t 94,.t 95,.t 96,.t 97],
 mv 92 98,
 ii 99 (.ext 0) [.t 92],
 ii 100 (.ext 1) [.t 92],
 ⟨some 19,none,.alloc 5 9 [Z0,Z0,Z0,Z0,Z0,Z0,Z0,Z0,Z0],[]⟩,
 ⟨none,none,.store 9,[.t 19,.t 99]⟩,
 mt 20 100]) (.lay 5 9))
 (.seq
 (.gp (.reg [ii 102 (.load 5 true false) [.t 6],
 ii 103 (.load 4 true false) [.t 8],
 ii 104 (.load 2 true false) [.t 15],
 ii 105 (.load 9 true false) [.t 16],
 mv 106 18,
 ii 107 (.call 21) [.t 102,.t 103,.t 104,.t 105,.t 106],
 mv 101 107,
 ii 108 (.ext 0) [.t 101],
 ii 109 (.ext 1) [.t 101],
 ⟨some 21,none,.alloc 6 9 [Z0,Z0,Z0,Z0,Z0,Z0,Z0,Z0,Z0],[]⟩,
 ⟨none,none,.store 9,[.t 21,.t 108]⟩,
 mt 22 109]) (.lay 6 9))
 (.seq
 (.seq
 (.regd [ii 110 (.at 5 (.load 9 true false)) [.t 19],
 ii 111 (.at 6 (.load 9 true false)) [.t 21],
 ii 112 (.eqs 9 true) [.t 110,.t 111],
 mv 113 112,
 gf 114 113 (.mov false) [.t 20],
 gf 115 113 (.mov false) [.t 22],
 gf 116 113 (.bin .neq) [.t 114,.t 115],
 ii 117 .pick [.t 113,.c (.p (.bool true)),.t 116],
 mv 118 117,
 gf 119 118 (.at 5 (.load 9 true false)) [.t 19],
 gf 120 118 (.pl (.call 22)) [.t 119],
 gf 121 118 (.at 5 (.load 9 true false)) [.t 19],
 gf 122 118 (.pl (.call 23)) [.t 121],
 gf 123 118 (.eqb true) [.t 120,.t 122],
 ii 124 .pick [.t 118,.c (.p (.bool true)),.t 123]])
 (.cond (.t 124)
 (.sr [mc 12 (.bool false)]
 .ret)
 .skip))
 (.seq
 (.seq
 (.regd [ii 125 (.at 5 (.load 9 true false)) [.t 19],
 ii 126 (.pl (.call 22)) [.t 125],
 mv 127 126,
 gt 128 127 (.at 2 (.load 2 true false)) [.t 15],
 gt 129 127 (.at 5 (.load 9 true false)) [.t 19],
 gt 130 127 (.pl (.call 24)) [.t 128,.t 129],
 gt 131 127 (.mov false) [.t 4],
 gt 132 127 (.fad 1) [.t 15],
 gt 133 127 (.at 2 (.load 1 false false)) [.t 132],
 gt 134 127 (.fad 4) [.t 19],
 gt 135 127 (.at 5 (.load 1 false false)) [.t 134],
 gt 136 127 (.iad 4) [.t 133,.t 135],
 gt 137 127 (.fad 1) [.t 136],
 gt 138 127 (.loadp 1 false) [.t 137],
 gt 139 127 (.bin .add) [.t 131,.t 138],
 gt 140 127 (.bin .neq) [.t 130,.t 139],
 gt 141 127 (.mov false) [.t 140],
 gf 142 141 (.at 2 (.load 2 true false)) [.t 15],
 gf 143 141 (.at 5 (.load 9 true false)) [.t 19],
 gf 144 141 (.pl (.call 25)) [.t 142,.t 143],
 gf 145 141 (.at 2 (.load 2 true false)) [.t 15],
 gf 146 141 (.fad 4) [.t 19],
 gf 147 141 (.at 5 (.load 1 false false)) [.t 146],
 gf 148 141 (.mov false) [.t 4],
 gf 149 141 (.pl (.call 26)) [.t 145,.t 147,.t 148],
 gf 150 141 (.bin .neq) [.t 144,.t 149],
 gt 151 127 .pick [.t 141,.c (.p (.bool true)),.t 150],
 ii 152 .pick [.t 127,.t 151,.c (.p (.bool false))]])
 (.cond (.t 152)
 (.sr [mc 12 (.bool false)]
 .ret)
 .skip))
 (.seq
 (.gp (.reg [ii 153 (.load 9 true false) [.t 19],
 ⟨none,none,.store 9,[.t 16,.t 153]⟩]) (.lay 3 9))
 (.sr [mv 154 20]
 (.block 2
 (.sr [b1 156 .eql 154 (.int .i64 2),
 mt 155 156]
 (.cond (.t 155)
 (.sr [fa 157 3 19,
 ld 158 157,
 mv 159 5,
 b2 160 .eql 158 159,
 mv 161 160,
 gt 162 161 (.mov false) [.t 5],
 gt 163 161 (.fad 0) [.t 8],
 gt 164 161 (.load 1 false false) [.t 163],
 gt 165 161 (.bin .leq) [.t 162,.t 164],
 ii 166 .pick [.t 161,.t 165,.c (.p (.bool false))],
 mv 167 166,
 gt 168 167 (.fad 8) [.t 19],
 gt 169 167 (.load 1 false false) [.t 168],
 gt 170 167 (.mov false) [.t 18],
 gt 171 167 (.bin .add) [.t 170,cI 1],
 gt 172 167 (.bin .eql) [.t 169,.t 171],
 ii 173 .pick [.t 167,.t 172,.c (.p (.bool false))],
 mt 12 173]
 .ret)
 (.sr [b1 175 .eql 154 (.int .i64 5),
 mt 174 175]
 (.cond (.t 174)
 (.sr [fa 176 3 19,
 ld 177 176,
 fa 178 0 8,
 ld 179 178,
 b2 180 .eql 177 179,
 mv 181 180,
 gt 182 181 (.mov false) [.t 5],
 gt 183 181 (.fad 0) [.t 8],
 gt 184 181 (.load 1 false false) [.t 183],
 gt 185 181 (.bin .gtr) [.t 182,.t 184],
 ii 186 .pick [.t 181,.t 185,.c (.p (.bool false))],
 mv 187 186,
 gt 188 187 (.fad 5) [.t 19],
 gt 189 187 (.load 1 false false) [.t 188],
 gt 190 187 (.bin .eql) [.t 189,cI 0],
 ii 191 .pick [.t 187,.t 190,.c (.p (.bool false))],
 mt 12 191]
 .ret)
 (.seq
 (.sr [b1 193 .eql 154 (.int .i64 3),
 mt 192 193]
 (.cond (.t 192)
 .skip
 (.reg [b1 194 .eql 154 (.int .i64 4),
 mt 192 194])))
 (.cond (.t 192)
 (.seq
 (.seq
 (.gp (.reg [ii 196 (.load 5 true false) [.t 6],
 ii 197 (.load 4 true false) [.t 8],
 ii 198 (.load 2 true false) [.t 15],
 ii 199 (.load 9 true false) [.t 16],
 mv 200 18,
 ii 201 (.call 20) [.t 196,.t 197,.t 198,.t 199,.t 200],
 mv 195 201,
 ii 202 (.ext 0) [.t 195],
 ii 203 (.ext 1) [.t 195],
 ⟨some 23,none,.alloc 7 9 [Z0,Z0,Z0,Z0,Z0,Z0,Z0,Z0,Z0],[]⟩,
 ⟨none,none,.store 9,[.t 23,.t 202]⟩,
 mt 24 203]) (.lay 7 9))
 (.sr [mv 204 24,
 b1 205 .neq 204 (.int .i64 0),
 mv 206 205,
 gf 207 206 (.load 9 true false) [.t 23],
 gf 208 206 (.load 9 true false) [.t 16],
 gf 209 206 (.eqs 9 true) [.t 207,.t 208],
 ii 210 .pick [.t 206,.c (.p (.bool true)),.t 209]]
 (.cond (.t 210)
 (.sr [mc 12 (.bool false)]
 .ret)
 .skip)))
 (.gp (.reg [fa 211 0 16,
 ⟨none,none,.store 1,[.t 211,cI 2]⟩]) (.lay 3 9)))
 .skip))))))))))))))
 (.reg [mv 90 18,
 b1 91 .add 90 (.int .i64 1),
 mt 18 91]))))))
 (.sr [mc 12 (.bool false)]
 .ret)))))))))))))⟩
theorem k3:aC Tryz.prog 3 F3=true:=by kernel_rfl
def F7:Fn:=⟨179,5,[.tmp 6],
 (.sr [mc 6 (.bool false)]
 (.sr [ii 22 (.call 15) [],
 mt 7 22]
 (.seq
 (.sr [mv 23 7,
 ii 24 (.un .not) [.t 23]]
 (.cond (.t 24)
 (.sr [mc 6 (.bool false)]
 .ret)
 .skip))
 (.sr [mv 25 1,
 b1 26 .and 25 (.int .i64 3),
 mt 1 26]
 (.seq
 (.gp (.reg [mv 27 1,
 ⟨some 28,none,.build [.int .i64 0,.int .i64 0,.int .i64 0,.int .i64 0,.sl 1 true []] [(0,1),(3,1)],[cI 6,.t 27]⟩,
 ⟨some 8,none,.alloc 0 5 [Z0,Z0,Z0,Z0,.ow 1 true []],[]⟩,
 ⟨none,none,.store 5,[.t 8,.t 28]⟩]) (.lay 0 5))
 (.seq
 (.gp (.reg [⟨some 29,none,.build [.int .i64 0,.sl 4 true []] [(0,1)],[cI 2]⟩,
 ⟨some 9,none,.alloc 1 2 [Z0,.ow 4 true []],[]⟩,
 ⟨none,none,.store 2,[.t 9,.t 29]⟩]) (.lay 1 2))
 (.sr [mc 10 (.int .i64 0),
 mc 11 (.int .i64 0)]
 (.seq
 (.sr [mc 12 (.int .i64 0)]
 (.block 0
 (.loop [6,7,13,14,15,16,17,18,19,20,21,22,23,24,25,26,27,28,29,30,31,32,33,34,35,36,37,38,39,40,41,42,43,44,45,46,47,48,49,50,51,52,53,54,55,56,57,58,59,60,61,62,63,64,65,66,67,68,69,70,71,72,73,74,75,76,77,78,79,80,81,82,83,84,85,86,87,88,89,90,91,92,93,94,95,96,97,98,99,100,101,102,103,104,105,106,107,108,109,110,111,112,113,114,115,116,117,118,119,120,121,122,123,124,125,126,127,128,129,130,131,132,133,134,135,136,137,138,139,140,141,142,143,144,145,146,147,148,149,150,151,152,153,154,155,156,157,158,159,160,161,162,163,164,165,166,167,168,169,170,171,172,173,174,175,176,177,178] []
 (.seq
 (.sr [mv 30 12,
 mv 31 0,
 ii 32 .len [.t 31],
 b2 33 .lss 30 32,
 mv 34 33,
 gt 35 34 (.mov false) [.t 12],
 gt 36 34 (.bin .lss) [.t 35,cI 5],
 ii 37 .pick [.t 34,.t 36,.c (.p (.bool false))]]
 (.cond (.t 37)
 .skip
 (.exit 0)))
 (.seq
 (.block 1
 (.sr [mv 40 0,
 mv 41 12,
 ii 42 (.iad 1) [.t 40,.t 41],
 ld 43 42,
 b1 44 .and 43 (.int .i64 7),
 ii 45 (.bin .add) [cI 1,.t 44],
 mt 13 45]
 (.sr [mv 46 10,
 mv 47 13,
 b2 48 .add 46 47,
 mt 10 48]
 (.seq
 (.sr [mv 49 12,
 b1 50 .gtr 49 (.int .i64 0)]
 (.cond (.t 50)
 (.reg [mv 51 13,
 mv 52 1,
 b2 53 .add 51 52,
 mt 13 53])
 .skip))
 (.seq
 (.gp (.reg [fa 54 1 9,
 ii 55 (.load 1 false true) [.t 54],
 mv 56 12,
 mv 57 11,
 mv 58 13,
 b1 59 .add 58 (.int .i64 2),
 mv 60 13,
 ⟨some 61,none,.build [.int .i64 0,.int .i64 0,.int .i64 0,.int .i64 0] [(0,1),(1,1),(2,1),(3,1)],[.t 56,.t 57,.t 59,.t 60]⟩,
 ii 62 (.bsl 4 1) [.t 61],
 ii 63 (.app 4 32) [.t 55,.t 62],
 fa 64 1 9,
 ⟨none,none,.store 1,[.t 64,.t 63]⟩]) (.lay 1 2))
 (.reg [mv 65 11,
 mv 66 13,
 b1 67 .add 66 (.int .i64 2),
 b2 68 .add 65 67,
 mt 11 68]))))))
 (.reg [mv 38 12,
 b1 39 .add 38 (.int .i64 1),
 mt 12 39]))))))
 (.sr [mv 69 2,
 b1 70 .and 69 (.int .i64 31),
 ii 71 (.bin .add) [cI 1,.t 70],
 mt 2 71]
 (.seq
 (.sr [fa 72 1 9,
 ld 73 72,
 ii 74 .len [.t 73],
 b1 75 .eql 74 (.int .i64 0)]
 (.cond (.t 75)
 (.sr [⟨some 76,none,.build [.int .i64 0,.int .i64 0,.int .i64 0,.int .i64 0,.int .i64 0,.int .i64 0,.int .i64 0,.int .i64 0,.int .i64 0] [(0,1)],[cI 4]⟩,
 ii 77 (.call 22) [.t 76],
 ii 78 (.un .not) [.t 77],
 mt 6 78]
 .ret)
 .skip))
 (.seq
 (.gp (.reg [mv 79 10,
 mv 80 11,
 ⟨some 81,none,.build [.int .i64 0,.int .i64 0,.int .i64 0,.sl 3 true []] [(0,1),(1,1),(2,1)],[.t 79,.t 80,cI 200]⟩,
 ⟨some 14,none,.alloc 2 4 [Z0,Z0,Z0,.ow 3 true []],[]⟩,
 ⟨none,none,.store 4,[.t 14,.t 81]⟩]) (.lay 2 4))
 (.seq
 (.gp (.reg [ii 82 (.load 2 true false) [.t 9],
 mv 83 2,
 ii 84 (.call 19) [.t 82,cI 0,.t 83],
 ⟨some 15,none,.alloc 3 9 [Z0,Z0,Z0,Z0,Z0,Z0,Z0,Z0,Z0],[]⟩,
 ⟨none,none,.store 9,[.t 15,.t 84]⟩]) (.lay 3 9))
 (.sr [mc 16 (.int .i64 0),
 mc 17 (.int .i64 0)]
 (.seq
 (.sr [mc 18 (.int .i64 0)]
 (.block 2
 (.loop [0,6,7,11,12,13,19,20,21,22,23,24,25,26,27,28,29,30,31,32,33,34,35,36,37,38,39,40,41,42,43,44,45,46,47,48,49,50,51,52,53,54,55,56,57,58,59,60,61,62,63,64,65,66,67,68,69,70,71,72,73,74,75,76,77,78,79,80,81,82,83,84,85,86,87,88,89,90,91,92,93,94,95,96,97,98,99,100,101,102,103,104,105,106,107,108,109,110,111,112,113,114,115,116,117,118,119,120,121,122,123,124,125,126,127,128,129,130,131,132,133,134,135,136,137,138,139,140,141,142,143,144,145,146,147,148,149,150,151,152,153,154,155,156,157,158,159,160,161,162,163,164,165,166,167,168,169,170,171,172,173,174,175,176,177,178] [4]
 (.seq
 (.sr [mv 85 18,
 b1 86 .lss 85 (.int .i64 100)]
 (.cond (.t 86)
 .skip
 (.exit 2)))
 (.seq
 (.block 3
 (.seq
 (.gp (.reg [ii 90 (.load 5 true false) [.t 8],
 ii 91 (.load 4 true false) [.t 14],
 ii 92 (.load 2 true false) [.t 9],
 ii 93 (.load 9 true false) [.t 15],
 mv 94 18,
 ii 95 (.call 20) [.t 90,.t 91,.t 92,.t 93,.t 94],
 mv 89 95,
 ii 96 (.ext 0) [.t 89],
 ii 97 (.ext 1) [.t 89],
 ⟨some 19,none,.alloc 4 9 [Z0,Z0,Z0,Z0,Z0,Z0,Z0,Z0,Z0],[]⟩,
 ⟨none,none,.store 9,[.t 19,.t 96]⟩,
 mt 20 97]) (.lay 4 9))
 (.sr [mv 98 16,
 b1 99 .add 98 (.int .i64 1),
 mt 16 99]
 (.seq
 (.sr [mv 100 20,
 b1 101 .eql 100 (.int .i64 4)]
 (.cond (.t 101)
 (.seq
 (.seq
 (.regd [fa 102 5 15,
 ii 103 (.at 3 (.load 1 false false)) [.t 102],
 b1 104 .neq 103 (.int .i64 1),
 mv 105 104,
 gf 106 105 (.fad 4) [.t 19],
 gf 107 105 (.at 4 (.load 1 false false)) [.t 106],
 gf 108 105 (.fad 4) [.t 15],
 gf 109 105 (.at 3 (.load 1 false false)) [.t 108],
 gf 110 105 (.bin .add) [.t 109,cI 1],
 gf 111 105 (.bin .neq) [.t 107,.t 110],
 ii 112 .pick [.t 105,.c (.p (.bool true)),.t 111],
 mv 113 112,
 gf 114 113 (.fad 4) [.t 19],
 gf 115 113 (.at 4 (.load 1 false false)) [.t 114],
 gf 116 113 (.bin .lss) [.t 115,cI 0],
 ii 117 .pick [.t 113,.c (.p (.bool true)),.t 116],
 mv 118 117,
 gf 119 118 (.fad 4) [.t 19],
 gf 120 118 (.at 4 (.load 1 false false)) [.t 119],
 gf 121 118 (.fad 1) [.t 9],
 gf 122 118 (.at 1 (.load 1 false false)) [.t 121],
 gf 123 118 .lenD [.t 122],
 gf 124 118 (.bin .geq) [.t 120,.t 123],
 ii 125 .pick [.t 118,.c (.p (.bool true)),.t 124],
 mv 126 125,
 gf 127 126 (.fad 6) [.t 19],
 gf 128 126 (.at 4 (.load 1 false false)) [.t 127],
 gf 129 126 (.mov false) [.t 1],
 gf 130 126 (.bin .neq) [.t 128,.t 129],
 ii 131 .pick [.t 126,.c (.p (.bool true)),.t 130],
 mv 132 131,
 gf 133 132 (.fad 5) [.t 19],
 gf 134 132 (.at 4 (.load 1 false false)) [.t 133],
 gf 135 132 (.fad 1) [.t 9],
 gf 136 132 (.at 1 (.load 1 false false)) [.t 135],
 gf 137 132 (.fad 4) [.t 19],
 gf 138 132 (.at 4 (.load 1 false false)) [.t 137],
 gf 139 132 (.iad 4) [.t 136,.t 138],
 gf 140 132 (.fad 3) [.t 139],
 gf 141 132 (.loadp 1 false) [.t 140],
 gf 142 132 (.bin .neq) [.t 134,.t 141],
 ii 143 .pick [.t 132,.c (.p (.bool true)),.t 142]])
 (.cond (.t 143)
 (.sr [mc 6 (.bool false)]
 .ret)
 .skip))
 (.sr [mv 144 17,
 b1 145 .add 144 (.int .i64 1),
 mt 17 145]
 (.gp (.reg [fa 146 0 19,
 ⟨none,none,.store 1,[.t 146,cI 2]⟩]) (.lay 4 9))))
 .skip))
 (.seq
 (.gp (.reg [ii 147 (.load 9 true false) [.t 19],
 ⟨none,none,.store 9,[.t 15,.t 147]⟩]) (.lay 3 9))
 (.sr [mv 148 20,
 b1 149 .eql 148 (.int .i64 2),
 mv 150 149,
 gf 151 150 (.mov false) [.t 20],
 gf 152 150 (.bin .eql) [.t 151,cI 5],
 ii 153 .pick [.t 150,.c (.p (.bool true)),.t 152]]
 (.cond (.t 153)
 (.exit 2)
 .skip)))))))
 (.reg [mv 87 18,
 b1 88 .add 87 (.int .i64 1),
 mt 18 88]))))))
 (.sr [mv 154 2,
 mv 155 10,
 ii 156 .mn [.t 154,.t 155],
 mt 21 156]
 (.sr [fa 157 3 15,
 ld 158 157,
 mv 159 21,
 b2 160 .eql 158 159,
 mv 161 160,
 gt 162 161 (.fad 0) [.t 15],
 gt 163 161 (.load 1 false false) [.t 162],
 gt 164 161 (.bin .eql) [.t 163,cI 4],
 gt 165 161 (.mov false) [.t 2],
 gt 166 161 (.mov false) [.t 10],
 gt 167 161 (.bin .leq) [.t 165,.t 166],
 gt 168 161 (.eqb false) [.t 164,.t 167],
 ii 169 .pick [.t 161,.t 168,.c (.p (.bool false))],
 mv 170 169,
 gt 171 170 (.mov false) [.t 16],
 gt 172 170 (.mov false) [.t 21],
 gt 173 170 (.mov false) [.t 17],
 gt 174 170 (.mov false) [.t 1],
 gt 175 170 (.bin .mul) [.t 173,.t 174],
 gt 176 170 (.bin .add) [.t 172,.t 175],
 gt 177 170 (.bin .eql) [.t 171,.t 176],
 ii 178 .pick [.t 170,.t 177,.c (.p (.bool false))],
 mt 6 178]
 .ret))))))))))))))))⟩
theorem k7:aC Tryz.prog 7 F7=true:=by kernel_rfl
open Go.RowKit Ma
structure Jb where
 st:Int
 rel:Int
 want:Int
 don:Int
 pc:Int
 left:Int
 ov:Int
 sec:Int
 fin:Int
def eJ(j:Jb):PV:=.agg [.int .i64 j.st,.int .i64 j.rel,.int .i64 j.want,.int .i64 j.don,.int .i64 j.pc,.int .i64 j.left,.int .i64 j.ov,.int .i64 j.sec,.int .i64 j.fin]
def bU(ps:List Pc)(j:Jb):Bool:=decide (j.pc≥0)&&decide (j.pc<(ps.length:Int))
theorem mB(k:Int)(nl:Bool)(ps:List Pc)(j:Jb):aB Tryz.prog 53 [AA k nl ps,eJ j] (.p (.bool (bU ps j))):=by
 have e:bU ps j=(decide (j.pc≥0)&&decide (j.pc<((ps.map eP).length:Int))):=by simp[bU]
 rw[e];refine Fn.run YN rfl ?_;generalize Tryz.prog=P at *
 (repeat'((conv=>whnf);first|exact trivial|(with_reducible first|refine zX ?_|refine zP ?_|refine zL ?_)|refine⟨rfl,?_⟩|refine⟨_,rfl,?_⟩|refine⟨fun _=>?_,fun _=>?_⟩|refine zn ?_|refine zb rfl ?_|refine zX ?_|refine zo rfl ?_|refine zs ?_|intro _));all_goals(try(conv=>whnf))
 all_goals (refine aO (Bool.eq_iff_iff.2 ?_);simp only[beq_iff_eq,List.length_map,aY,Bool.or_eq_true,Bool.and_eq_false_iff,Bool.or_eq_false_iff,decide_eq_true_eq,decide_eq_false_iff_not,Bool.not_eq_true',Bool.not_eq_false',Bool.false_eq_true,Bool.true_eq_false,Bool.not_true,Bool.not_false,ge_iff_le,gt_iff_lt] at *;first|done|omega|(simp only[false_iff];omega)|(simp only[true_iff];omega)|grind)
theorem tR(j:Jb):aB Tryz.prog 22 [eJ j] (.p (.bool (j.st ==1||(j.st ==2||j.st ==3)))):=by
 refine Fn.run YJ rfl ?_;generalize Tryz.prog=P at *
 (repeat'((conv=>whnf);first|exact trivial|(with_reducible first|refine zX ?_|refine zP ?_|refine zL ?_)|refine⟨rfl,?_⟩|refine⟨_,rfl,?_⟩|refine⟨fun _=>?_,fun _=>?_⟩|refine zn ?_|refine zb rfl ?_|refine zX ?_|refine zo rfl ?_|refine zs ?_|intro _));all_goals(try(conv=>whnf))
 all_goals (refine aO (Bool.eq_iff_iff.2 ?_);simp only[beq_iff_eq,List.length_map,aY,Bool.or_eq_true,Bool.and_eq_false_iff,Bool.or_eq_false_iff,decide_eq_true_eq,decide_eq_false_iff_not,Bool.not_eq_true',Bool.not_eq_false',Bool.false_eq_true,Bool.true_eq_false,Bool.not_true,Bool.not_false,ge_iff_le,gt_iff_lt] at *;first|done|omega|(simp only[false_iff];omega)|(simp only[true_iff];omega)|grind)
end Go.Proofs.YtnjphclbpgajpaaGreatDoor.Vc
namespace Go.Proofs.YtnjphclbpgajpaaGreatDoor.Ma
variable {cores lag move C D T:Int}
theorem iB{L:List Pc}{x:Pc}:gA lag move (L++[x])↔gA lag move L/\∀p,L.getLast?=some p->p.off+p.len+lag<=x.off/\move<x.c:=by
 induction L with
 |nil=>simp[gA]
 |cons a L ih=>
  cases L with
  |nil=>simp[gA]
  |cons b L=>
   have e:(a ::b ::L)++[x]=a ::b ::(L++[x]):=rfl;rw[e];have e2:(b ::L)++[x]=b ::(L++[x]):=rfl;rw[e2] at ih;simp only[gA,ih,List.getLast?_cons_cons]
   constructor
   ·rintro⟨h1,h2,h3⟩;exact⟨⟨h1,h2⟩,h3⟩
   ·rintro⟨⟨h1,h2⟩,h3⟩;exact⟨h1,h2,h3⟩
structure Pre (cores lag move:Int) (L:List Pc):Prop where
 pcs:∀p,p∈L->p.ok cores=true
 apart:L.Pairwise fun a b=>a.core≠b.core
 first:dP L=0
 next:gA lag move L
theorem Pre.nil:Pre cores lag move []:=⟨by simp,List.Pairwise.nil,rfl,trivial⟩
theorem lL{L:List Pc}{x:Pc}:Pre cores lag move (L++[x])↔Pre cores lag move L/\x.ok cores=true/\(∀p,p∈L->p.core≠x.core)/\(L=[]->x.off=0)/\∀p,L.getLast?=some p->p.off+p.len+lag<=x.off/\move<x.c:=by
 have hf:dP (L++[x])=0↔dP L=0/\(L=[]->x.off=0):=by
  cases L with
  |nil=>simp[dP]
  |cons a L=>simp[dP]
 constructor
 ·rintro⟨h1,h2,h3,h4⟩
  rw[List.pairwise_append] at h2;rw[hf] at h3;rw[iB] at h4;exact⟨⟨fun p hp=>h1 p (by simp[hp]),h2.1,h3.1,h4.1⟩,h1 x (by simp),fun p hp=>h2.2.2 p hp x (by simp),h3.2,h4.2⟩
 ·rintro⟨⟨h1,h2,h3,h4⟩,h5,h6,h7,h8⟩
  refine⟨fun p hp=>?_,?_,hf.2 ⟨h3,h7⟩,iB.2 ⟨h4,h8⟩⟩
  ·rcases List.mem_append.1 hp with hp|hp
   ·exact h1 p hp
   ·simp only[List.mem_singleton] at hp;subst hp;exact h5
  ·rw[List.pairwise_append]
   exact⟨h2,by simp,fun a ha b hb=>by simp only[List.mem_singleton] at hb;subst hb;exact h6 a ha⟩
theorem Pre.take{L:List Pc}(h:Pre cores lag move L):∀n:Nat,Pre cores lag move (L.take n):=by
 suffices ∀(k n:Nat),L.length=n+k->Pre cores lag move (L.take n) by
  intro n
  by_cases hn:n<=L.length
  ·exact this (L.length-n) n (by omega)
  ·rw[List.take_of_length_le (by omega)];exact h
 intro k
 induction k with
 |zero=>intro n hn;rw[List.take_of_length_le (by omega)];exact h
 |succ k ih=>
  intro n hn;have h1:=ih (n+1) (by omega)
  have hlt:n<L.length:=by omega
  rw[List.take_succ_eq_append_getElem hlt,lL] at h1;exact h1.1
theorem Pre.add{ps:List Pc}{i:Nat}(hi:i<ps.length)(h:Pre cores lag move (ps.take i))(h1:ps[i].ok cores=true)(h2:∀p,p∈ps.take i->p.core≠ps[i].core)(h3:i=0->ps[i].off=0)
  (h4:∀j (hj:j<ps.length),i=j+1->ps[j].off+ps[j].len+lag<=ps[i].off/\move<ps[i].c):Pre cores lag move (ps.take (i+1)):=by
 rw[List.take_succ_eq_append_getElem hi,lL];refine⟨h,h1,h2,fun e=>h3 ?_,fun p hp=>?_⟩
 ·have:=congrArg List.length e
  rw[List.length_take,List.length_nil] at this;omega
 ·cases i with
  |zero=>simp at hp
  |succ j=>
   have hj:j<ps.length:=by omega
   rw[List.take_succ_eq_append_getElem hj,List.getLast?_append] at hp;have:p=ps[j]:=by simpa using hp.symm
   subst this;exact h4 j hj rfl
theorem gX{ps:List Pc}{i:Nat}(hi:i<ps.length):fM (ps.take (i+1))=fM (ps.take i)+ps[i].c:=by
 rw[List.take_succ_eq_append_getElem hi,rF];simp[fM]
open Classical in
variable {cores lag move C D T:Int}
def HC(T:Int)(ls:List (List Ld))(ps:List Pc):Prop:=∀q,q∈ps->0<=q.core/\∃l,ls[q.core.toNat]?=some l/\iP l q.c q.len T=true
theorem WinOk.asks{ls:List (List Ld)}{ps:List Pc}{w:Int}(h:WinOk lag move C D T ls ps w):HC T ls ps:=by
 intro q hq;obtain⟨i,hi⟩:=List.getElem?_of_mem hq;obtain⟨_,e2,_,_,_,e6,l,e7,e8⟩:=h.each i q hi;exact⟨e6,l,e7,by rw[e2];exact e8⟩
theorem ZeroOk.asks{ls:List (List Ld)}{ps:List Pc}(h:ZeroOk lag move C D T ls ps):HC T ls ps:=by
 obtain⟨a,b,x,h1,h2,h3,h4,h5,h6,h7,h8,rfl⟩:=h.it;rw[List.getElem?_eq_getElem h2,Option.getD_some] at h7;rw[List.getElem?_eq_getElem h3,Option.getD_some] at h8;intro q hq;simp only[List.mem_cons,List.not_mem_nil,or_false] at hq;rcases hq with rfl|rfl
 ·exact⟨by simp only;omega,_,by simp only[Int.toNat_natCast];exact List.getElem?_eq_getElem h2,h7⟩
 ·exact⟨by simp only;omega,_,by simp only[Int.toNat_natCast];exact List.getElem?_eq_getElem h3,h8⟩
theorem qG{L:List Pc}(h:gA lag move L):∀(i:Nat) (hi:i+1<L.length),L[i].off+L[i].len+lag<=L[i+1].off/\move<L[i+1].c:=by
 induction L with
 |nil=>intro i hi;simp at hi
 |cons a L ih=>
  cases L with
  |nil=>intro i hi;simp at hi
  |cons b L=>
   intro i hi
   cases i with
   |zero=>exact h.1
   |succ i=>exact ih h.2 i (by simpa using hi)
variable {cores lag move C D T:Int}
def fS(m:Int)(p:Nat):Int:=if p=0 then 0 else m
def cV(W:List Pc)(p:Nat):Int:=(W[p]?.map (·.c)).getD 0
def b6(m:Int)(W:List Pc):Nat->Int
 |0=>0
 |p+1=>b6 m W p+(cV W p-fS m p)
theorem cU{W:List Pc}{p:Nat}(h:p<W.length):cV W p=W[p].c:=by simp[cV,h]
theorem nU{m:Int}{W:List Pc}:∀{p:Nat},p+1<=W.length->b6 m W (p+1)=fM (W.take (p+1))-(p:Int)*m:=by
 intro p
 induction p with
 |zero=>
  intro h;rw[gX (by omega)]
  simp[b6,fS,fM,cU (show 0<W.length by omega)]
 |succ p ih=>
  intro h;rw[b6,ih (by omega),gX (i:=p+1) (by omega),cU (by omega),fS,if_neg (by omega)]
  have:((p+1:Nat):Int)*m=(p:Int)*m+m:=by rw[Int.natCast_succ,Int.add_mul,Int.one_mul]
  omega
theorem PlanOk.base{nsec:Nat}{kind:Int}{W:List Pc}(h:PlanOk cores lag move C D nsec kind W):b6 move W W.length=C:=by
 have hne:W.length≠0:=fun e=>h.one (List.length_eq_zero_iff.1 e)
 obtain⟨n,hn⟩:∃n,W.length=n+1:=⟨W.length-1,by omega⟩
 have h1:=nU (m:=move) (W:=W) (p:=n) (by omega)
 rw[<-hn,List.take_length,h.sum,hn] at h1;rw[hn,h1];have:(((n+1:Nat):Int)-1)=(n:Int):=by omega
 rw[this];omega
def Good(m:Int)(W:List Pc):Prop:=0<=m/\∀p,p<W.length->fS m p<cV W p
theorem PlanOk.good{nsec:Nat}{kind:Int}{W:List Pc}(h:PlanOk cores lag move C D nsec kind W)(hm:0<=move):Good move W:=by
 refine⟨hm,fun p hp=>?_⟩
 rw[cU hp,fS];have h1:=Pc.ok_iff.1 (h.pcs _ (List.getElem_mem hp))
 split
 ·omega
 ·obtain⟨q,rfl⟩:∃q,p=q+1:=⟨p-1,by omega⟩
  exact(qG h.next q hp).2
theorem eY{m:Int}{W:List Pc}(h:Good m W):∀{q p:Nat},p<=q->q<=W.length->b6 m W p<=b6 m W q:=by
 intro q
 induction q with
 |zero=>
  intro p hp _;have:p=0:=by omega
  subst this;exact Int.le_refl _
 |succ q ih=>
  intro p hp hq
  by_cases e:p=q+1
  ·subst e;exact Int.le_refl _
  ·have h1:=ih (p:=p) (by omega) (by omega)
   have h2:=h.2 q (by omega)
   rw[b6];omega
def aQ(m:Int)(W:List Pc)(p:Nat)(e:Int):Int:=b6 m W p+max 0 (e-fS m p)
def aV(m:Int)(p:Nat)(e:Int):Int:=max 0 (fS m p-e)
theorem dF{m:Int}(h:0<=m)(p:Nat):0<=fS m p/\fS m p<=m:=by unfold fS;split<;>omega
theorem pS{m:Int}{W:List Pc}{p:Nat}{e:Int}:(aV m p e<=0->aQ m W p (e+1)=aQ m W p e+1/\aV m p (e+1)=aV m p e) /\
  (¬aV m p e<=0->aQ m W p (e+1)=aQ m W p e/\aV m p (e+1)=aV m p e-1):=by
 unfold aQ aV
 constructor<;>intro h<;>constructor<;>omega
theorem qO{m:Int}{W:List Pc}{p:Nat}(h:Good m W)(hp:p<W.length):aQ m W p (cV W p)=b6 m W (p+1):=by
 have:=h.2 p hp;unfold aQ;rw[b6];omega
theorem lV{m:Int}{W:List Pc}{p:Nat}(h:0<=m):aQ m W p 0=b6 m W p/\aV m p 0=fS m p:=by
 have:=dF h p;unfold aQ aV
 constructor<;>omega
theorem pD{m:Int}{W:List Pc}{p:Nat}{e:Int}(h:Good m W)(hp:p<W.length)(he:e<=cV W p):aQ m W p e<=b6 m W W.length:=by
 have h1:=h.2 p hp;have h2:=eY h (p:=p+1) (q:=W.length) (by omega) (by omega)
 rw[b6] at h2;unfold aQ;omega
theorem pP{m:Int}{W:List Pc}{p:Nat}{e:Int}(h:Good m W)(hp:p<W.length)(he:e+1=cV W p):aV m p e<=0:=by
 have h1:=h.2 p hp;unfold aV;omega
end Go.Proofs.YtnjphclbpgajpaaGreatDoor.Ma
namespace Go.Proofs.YtnjphclbpgajpaaGreatDoor.Vc
open Go.RowKit Ma
def jM(secs:List Sec)(i:Int):Int:=(secs[i.toNat]?.map (·.at_)).getD 0
def aS(j:Jb):Jb:=if j.ov<=0 then ⟨j.st,j.rel,j.want,IntKind.wrap IntKind.i64 (j.don+1),j.pc,IntKind.wrap IntKind.i64 (j.left-1),j.ov,j.sec,j.fin⟩ else ⟨j.st,j.rel,j.want,j.don,j.pc,IntKind.wrap IntKind.i64 (j.left-1),IntKind.wrap IntKind.i64 (j.ov-1),j.sec,j.fin⟩
def b9(mv now:Int)(secs:List Sec)(ps:List Pc)(j:Jb):Jb×Int :=
 if j.st=2/\0<=j.pc/\j.pc<(ps.length:Int) then
  if j.ov<=0/\IntKind.wrap IntKind.i64 (j.don+1)=j.want then (⟨4,(aS j).rel,(aS j).want,(aS j).don,(aS j).pc,(aS j).left,(aS j).ov,(aS j).sec,IntKind.wrap IntKind.i64 (now+1)⟩,2)
  else if j.ov<=0/\0<=j.sec/\j.sec<(secs.length:Int)/\jM secs j.sec=IntKind.wrap IntKind.i64 (j.don+1) then (⟨3,(aS j).rel,(aS j).want,(aS j).don,(aS j).pc,(aS j).left,(aS j).ov,IntKind.wrap IntKind.i64 (j.sec+1),(aS j).fin⟩,3)
  else if ¬IntKind.wrap IntKind.i64 (j.left-1)=0 then (aS j,1)
  else if j.pc+1=(ps.length:Int) then (⟨5,(aS j).rel,(aS j).want,(aS j).don,(aS j).pc,(aS j).left,(aS j).ov,(aS j).sec,IntKind.wrap IntKind.i64 (now+1)⟩,5)
  else (⟨1,(aS j).rel,(aS j).want,(aS j).don,IntKind.wrap IntKind.i64 (j.pc+1),cV ps (IntKind.wrap IntKind.i64 (j.pc+1)).toNat,mv,(aS j).sec,(aS j).fin⟩,4)
 else (j,0)
def jR(r:Jb×Int):DV:=.tup [.p (eJ r.1),.p (.int .i64 r.2)]
theorem HB{ps:List Pc}(hps:ps.length<=1000){j:Jb}(h:0<=j.pc/\j.pc<(ps.length:Int)):IntKind.wrap IntKind.i64 (j.pc+1)=j.pc+1:=aJ (by omega) (by omega)
section
variable {mv now:Int} {secs:List Sec} {ps:List Pc} {j:Jb}
theorem VG(hr:j.st=2/\0<=j.pc/\j.pc<(ps.length:Int))(h1:j.ov<=0)(h2:IntKind.wrap IntKind.i64 (j.don+1)=j.want) :
  b9 mv now secs ps j=(⟨4,j.rel,j.want,IntKind.wrap IntKind.i64 (j.don+1),j.pc,IntKind.wrap IntKind.i64 (j.left-1),j.ov,j.sec,IntKind.wrap IntKind.i64 (now+1)⟩,2):=by
 unfold b9 aS;rw[if_pos hr,if_pos ⟨h1,h2⟩,if_pos h1]
theorem YA(hr:j.st=2/\0<=j.pc/\j.pc<(ps.length:Int))(h1:j.ov<=0)(h2:¬IntKind.wrap IntKind.i64 (j.don+1)=j.want)(h3:0<=j.sec/\j.sec<(secs.length:Int)/\jM secs j.sec=IntKind.wrap IntKind.i64 (j.don+1)) :
  b9 mv now secs ps j=(⟨3,j.rel,j.want,IntKind.wrap IntKind.i64 (j.don+1),j.pc,IntKind.wrap IntKind.i64 (j.left-1),j.ov,IntKind.wrap IntKind.i64 (j.sec+1),j.fin⟩,3):=by
 unfold b9 aS;rw[if_pos hr,if_neg (fun e=>h2 e.2),if_pos ⟨h1,h3⟩,if_pos h1]
theorem M5(hr:j.st=2/\0<=j.pc/\j.pc<(ps.length:Int))(h1:j.ov<=0)(h2:¬IntKind.wrap IntKind.i64 (j.don+1)=j.want)(h3:¬(0<=j.sec/\j.sec<(secs.length:Int)/\jM secs j.sec=IntKind.wrap IntKind.i64 (j.don+1)))(h4:¬IntKind.wrap IntKind.i64 (j.left-1)=0) :
  b9 mv now secs ps j=(⟨j.st,j.rel,j.want,IntKind.wrap IntKind.i64 (j.don+1),j.pc,IntKind.wrap IntKind.i64 (j.left-1),j.ov,j.sec,j.fin⟩,1):=by
 unfold b9 aS;rw[if_pos hr,if_neg (fun e=>h2 e.2),if_neg (fun e=>h3 e.2),if_pos h4,if_pos h1]
theorem TO(hr:j.st=2/\0<=j.pc/\j.pc<(ps.length:Int))(h1:¬j.ov<=0)(h4:¬IntKind.wrap IntKind.i64 (j.left-1)=0) :
  b9 mv now secs ps j=(⟨j.st,j.rel,j.want,j.don,j.pc,IntKind.wrap IntKind.i64 (j.left-1),IntKind.wrap IntKind.i64 (j.ov-1),j.sec,j.fin⟩,1):=by
 unfold b9 aS;rw[if_pos hr,if_neg (fun e=>h1 e.1),if_neg (fun e=>h1 e.1),if_pos h4,if_neg h1]
theorem NJ(hr:j.st=2/\0<=j.pc/\j.pc<(ps.length:Int))(h1:j.ov<=0)(h2:¬IntKind.wrap IntKind.i64 (j.don+1)=j.want)(h3:¬(0<=j.sec/\j.sec<(secs.length:Int)/\jM secs j.sec=IntKind.wrap IntKind.i64 (j.don+1)))(h4:IntKind.wrap IntKind.i64 (j.left-1)=0)(h5:j.pc+1=(ps.length:Int)) :
  b9 mv now secs ps j=(⟨5,j.rel,j.want,IntKind.wrap IntKind.i64 (j.don+1),j.pc,IntKind.wrap IntKind.i64 (j.left-1),j.ov,j.sec,IntKind.wrap IntKind.i64 (now+1)⟩,5):=by
 unfold b9 aS;rw[if_pos hr,if_neg (fun e=>h2 e.2),if_neg (fun e=>h3 e.2),if_neg (fun e=>e h4),if_pos h5,if_pos h1]
theorem tm5(hr:j.st=2/\0<=j.pc/\j.pc<(ps.length:Int))(h1:¬j.ov<=0)(h4:IntKind.wrap IntKind.i64 (j.left-1)=0)(h5:j.pc+1=(ps.length:Int)) :
  b9 mv now secs ps j=(⟨5,j.rel,j.want,j.don,j.pc,IntKind.wrap IntKind.i64 (j.left-1),IntKind.wrap IntKind.i64 (j.ov-1),j.sec,IntKind.wrap IntKind.i64 (now+1)⟩,5):=by
 unfold b9 aS;rw[if_pos hr,if_neg (fun e=>h1 e.1),if_neg (fun e=>h1 e.1),if_neg (fun e=>e h4),if_pos h5,if_neg h1]
theorem LZ(hr:j.st=2/\0<=j.pc/\j.pc<(ps.length:Int))(h1:j.ov<=0)(h2:¬IntKind.wrap IntKind.i64 (j.don+1)=j.want)(h3:¬(0<=j.sec/\j.sec<(secs.length:Int)/\jM secs j.sec=IntKind.wrap IntKind.i64 (j.don+1)))(h4:IntKind.wrap IntKind.i64 (j.left-1)=0)(h5:¬j.pc+1=(ps.length:Int)){y:Int}(hy:cV ps (IntKind.wrap IntKind.i64 (j.pc+1)).toNat=y) :
  b9 mv now secs ps j=(⟨1,j.rel,j.want,IntKind.wrap IntKind.i64 (j.don+1),IntKind.wrap IntKind.i64 (j.pc+1),y,mv,j.sec,j.fin⟩,4):=by
 subst hy;unfold b9 aS;rw[if_pos hr,if_neg (fun e=>h2 e.2),if_neg (fun e=>h3 e.2),if_neg (fun e=>e h4),if_neg h5,if_pos h1]
theorem tm4(hr:j.st=2/\0<=j.pc/\j.pc<(ps.length:Int))(h1:¬j.ov<=0)(h4:IntKind.wrap IntKind.i64 (j.left-1)=0)(h5:¬j.pc+1=(ps.length:Int)){y:Int}(hy:cV ps (IntKind.wrap IntKind.i64 (j.pc+1)).toNat=y) :
  b9 mv now secs ps j=(⟨1,j.rel,j.want,j.don,IntKind.wrap IntKind.i64 (j.pc+1),y,mv,j.sec,j.fin⟩,4):=by
 subst hy;unfold b9 aS;rw[if_pos hr,if_neg (fun e=>h1 e.1),if_neg (fun e=>h1 e.1),if_neg (fun e=>e h4),if_neg h5,if_neg h1]
end
theorem D5(c:Cf)(t:Tk)(k:Int)(nl:Bool)(ps:List Pc)(hps:ps.length<=1000)(j:Jb)(now:Int) :
  aB Tryz.prog 20 [jB c,eT t,AA k nl ps,eJ j,.int .i64 now] (jR (b9 c.move now t.secs ps j)):=by
 have hth:=mB k nl ps j;have hm:=bA;have hpl:((ps.map eP).length:Int)=ps.length:=by simp
 have hsl:((t.secs.map eS).length:Int)=t.secs.length:=by simp
 have hwl:IntKind.wrap .i64 (((ps.map eP).length:Int)-1)=((ps.map eP).length:Int)-1:=aJ (by omega) (by omega)
 by_cases hst:j.st=2
 ·have b0:(j.st !=2)=false:=by simp[hst]
  by_cases hr:0<=j.pc/\j.pc<(ps.length:Int)
  ·have hR:j.st=2/\0<=j.pc/\j.pc<(ps.length:Int):=⟨hst,hr⟩
   have hwp:=HB hps hr;have ht:bU ps j=true:=by simp[bU,hr]
   rw[ht] at hth
   by_cases hO:j.ov<=0
   ·have bO:decide (j.ov<=0)=true:=decide_eq_true hO
    by_cases hD:IntKind.wrap IntKind.i64 (j.don+1)=j.want
    ·have bD:(IntKind.wrap IntKind.i64 (j.don+1) ==j.want)=true:=by simp[hD]
     rw[VG (mv:=c.move) (now:=now) hR hO hD];refine Fn.run mJ rfl ?_;generalize Tryz.prog=P at *
     (repeat'((conv=>whnf);first|exact trivial|(with_reducible first|refine zX ?_|refine zP ?_|refine zL ?_)|refine⟨rfl,?_⟩|refine⟨_,rfl,?_⟩|refine⟨fun _=>?_,fun _=>?_⟩|refine zn ?_|refine zb rfl ?_|refine zX ?_|refine zo rfl ?_|refine zs ?_|intro _));all_goals(try(conv=>whnf))
     all_goals rfl
    ·have bD:(IntKind.wrap IntKind.i64 (j.don+1) ==j.want)=false:=by simp[hD]
     by_cases hS:0<=j.sec
     ·have bS:decide (j.sec≥0)=true:=decide_eq_true hS
      by_cases hS2:j.sec<(t.secs.length:Int)
      ·have bS2:decide (j.sec<((t.secs.map eS).length:Int))=true:=decide_eq_true (by omega)
       have hsn:j.sec.toNat<t.secs.length:=by omega
       have hs1:(t.secs.map eS)[j.sec.toNat]?=some (.agg [.int .i64 t.secs[j.sec.toNat].res,.int .i64 t.secs[j.sec.toNat].at_,.int .i64 t.secs[j.sec.toNat].len]):=by simp[hsn,eS]
       have hat:jM t.secs j.sec=t.secs[j.sec.toNat].at_:=by simp[jM,hsn]
       generalize t.secs[j.sec.toNat]=x at *
       by_cases hE:x.at_=IntKind.wrap IntKind.i64 (j.don+1)
       ·have bE:(x.at_ ==IntKind.wrap IntKind.i64 (j.don+1))=true:=by simp[hE]
        rw[YA (mv:=c.move) (now:=now) hR hO hD ⟨hS,hS2,by rw[hat];exact hE⟩]
        refine Fn.run mJ rfl ?_;generalize Tryz.prog=P at *
        (repeat'((conv=>whnf);first|exact trivial|(with_reducible first|refine zX ?_|refine zP ?_|refine zL ?_)|refine⟨rfl,?_⟩|refine⟨_,rfl,?_⟩|refine⟨fun _=>?_,fun _=>?_⟩|refine zn ?_|refine zb rfl ?_|refine zX ?_|refine zo rfl ?_|refine zs ?_|intro _));all_goals(try(conv=>whnf))
        all_goals rfl
       ·have bE:(x.at_ ==IntKind.wrap IntKind.i64 (j.don+1))=false:=by simp[hE]
        have hA:¬(0<=j.sec/\j.sec<(t.secs.length:Int)/\jM t.secs j.sec=IntKind.wrap IntKind.i64 (j.don+1)):=fun h=>hE (by rw[<-hat];exact h.2.2)
        by_cases hL:IntKind.wrap IntKind.i64 (j.left-1)=0
        ·have bL:(IntKind.wrap IntKind.i64 (j.left-1) !=0)=false:=by simp[hL]
         by_cases hP:j.pc+1=(ps.length:Int)
         ·have bP:(j.pc ==IntKind.wrap IntKind.i64 (((ps.map eP).length:Int)-1))=true:=by rw[hwl];simp;omega
          have hres:=NJ (mv:=c.move) (now:=now) hR hO hD hA hL hP;rw[hres];refine Fn.run mJ rfl ?_;generalize Tryz.prog=P at *
          (repeat'((conv=>whnf);first|exact trivial|(with_reducible first|refine zX ?_|refine zP ?_|refine zL ?_)|refine⟨rfl,?_⟩|refine⟨_,rfl,?_⟩|refine⟨fun _=>?_,fun _=>?_⟩|refine zn ?_|refine zb rfl ?_|refine zX ?_|refine zo rfl ?_|refine zs ?_|intro _));all_goals(try(conv=>whnf))
          all_goals rfl
         ·have bP:(j.pc ==IntKind.wrap IntKind.i64 (((ps.map eP).length:Int)-1))=false:=by rw[hwl];simp;omega
          have hpn:(IntKind.wrap IntKind.i64 (j.pc+1)).toNat<ps.length:=by rw[hwp];omega
          have hp0:0<=IntKind.wrap IntKind.i64 (j.pc+1):=by rw[hwp];omega
          have hp1:(ps.map eP)[(IntKind.wrap IntKind.i64 (j.pc+1)).toNat]?=some (.agg [.int .i64 ps[(IntKind.wrap IntKind.i64 (j.pc+1)).toNat].core,.int .i64 ps[(IntKind.wrap IntKind.i64 (j.pc+1)).toNat].off,.int .i64 ps[(IntKind.wrap IntKind.i64 (j.pc+1)).toNat].len,.int .i64 ps[(IntKind.wrap IntKind.i64 (j.pc+1)).toNat].c]):=by simp[hpn,eP]
          have hres:=LZ (mv:=c.move) (now:=now) hR hO hD hA hL hP (cU hpn);rw[hres];generalize ps[(IntKind.wrap IntKind.i64 (j.pc+1)).toNat]=y at *;refine Fn.run mJ rfl ?_;generalize Tryz.prog=P at *
          (repeat'((conv=>whnf);first|exact trivial|(with_reducible first|refine zX ?_|refine zP ?_|refine zL ?_)|refine⟨rfl,?_⟩|refine⟨_,rfl,?_⟩|refine⟨fun _=>?_,fun _=>?_⟩|refine zn ?_|refine zb rfl ?_|refine zX ?_|refine zo rfl ?_|refine zs ?_|intro _));all_goals(try(conv=>whnf))
          all_goals rfl
        ·have bL:(IntKind.wrap IntKind.i64 (j.left-1) !=0)=true:=by simp[hL]
         have hres:=M5 (mv:=c.move) (now:=now) hR hO hD hA hL;rw[hres];refine Fn.run mJ rfl ?_;generalize Tryz.prog=P at *
         (repeat'((conv=>whnf);first|exact trivial|(with_reducible first|refine zX ?_|refine zP ?_|refine zL ?_)|refine⟨rfl,?_⟩|refine⟨_,rfl,?_⟩|refine⟨fun _=>?_,fun _=>?_⟩|refine zn ?_|refine zb rfl ?_|refine zX ?_|refine zo rfl ?_|refine zs ?_|intro _));all_goals(try(conv=>whnf))
         all_goals rfl
      ·have bS2:decide (j.sec<((t.secs.map eS).length:Int))=false:=decide_eq_false (by omega)
       have hA:¬(0<=j.sec/\j.sec<(t.secs.length:Int)/\jM t.secs j.sec=IntKind.wrap IntKind.i64 (j.don+1)):=fun h=>hS2 h.2.1
       by_cases hL:IntKind.wrap IntKind.i64 (j.left-1)=0
       ·have bL:(IntKind.wrap IntKind.i64 (j.left-1) !=0)=false:=by simp[hL]
        by_cases hP:j.pc+1=(ps.length:Int)
        ·have bP:(j.pc ==IntKind.wrap IntKind.i64 (((ps.map eP).length:Int)-1))=true:=by rw[hwl];simp;omega
         have hres:=NJ (mv:=c.move) (now:=now) hR hO hD hA hL hP;rw[hres];refine Fn.run mJ rfl ?_;generalize Tryz.prog=P at *
         (repeat'((conv=>whnf);first|exact trivial|(with_reducible first|refine zX ?_|refine zP ?_|refine zL ?_)|refine⟨rfl,?_⟩|refine⟨_,rfl,?_⟩|refine⟨fun _=>?_,fun _=>?_⟩|refine zn ?_|refine zb rfl ?_|refine zX ?_|refine zo rfl ?_|refine zs ?_|intro _));all_goals(try(conv=>whnf))
         all_goals rfl
        ·have bP:(j.pc ==IntKind.wrap IntKind.i64 (((ps.map eP).length:Int)-1))=false:=by rw[hwl];simp;omega
         have hpn:(IntKind.wrap IntKind.i64 (j.pc+1)).toNat<ps.length:=by rw[hwp];omega
         have hp0:0<=IntKind.wrap IntKind.i64 (j.pc+1):=by rw[hwp];omega
         have hp1:(ps.map eP)[(IntKind.wrap IntKind.i64 (j.pc+1)).toNat]?=some (.agg [.int .i64 ps[(IntKind.wrap IntKind.i64 (j.pc+1)).toNat].core,.int .i64 ps[(IntKind.wrap IntKind.i64 (j.pc+1)).toNat].off,.int .i64 ps[(IntKind.wrap IntKind.i64 (j.pc+1)).toNat].len,.int .i64 ps[(IntKind.wrap IntKind.i64 (j.pc+1)).toNat].c]):=by simp[hpn,eP]
         have hres:=LZ (mv:=c.move) (now:=now) hR hO hD hA hL hP (cU hpn);rw[hres];generalize ps[(IntKind.wrap IntKind.i64 (j.pc+1)).toNat]=y at *;refine Fn.run mJ rfl ?_;generalize Tryz.prog=P at *
         (repeat'((conv=>whnf);first|exact trivial|(with_reducible first|refine zX ?_|refine zP ?_|refine zL ?_)|refine⟨rfl,?_⟩|refine⟨_,rfl,?_⟩|refine⟨fun _=>?_,fun _=>?_⟩|refine zn ?_|refine zb rfl ?_|refine zX ?_|refine zo rfl ?_|refine zs ?_|intro _));all_goals(try(conv=>whnf))
         all_goals rfl
       ·have bL:(IntKind.wrap IntKind.i64 (j.left-1) !=0)=true:=by simp[hL]
        have hres:=M5 (mv:=c.move) (now:=now) hR hO hD hA hL;rw[hres];refine Fn.run mJ rfl ?_;generalize Tryz.prog=P at *
        (repeat'((conv=>whnf);first|exact trivial|(with_reducible first|refine zX ?_|refine zP ?_|refine zL ?_)|refine⟨rfl,?_⟩|refine⟨_,rfl,?_⟩|refine⟨fun _=>?_,fun _=>?_⟩|refine zn ?_|refine zb rfl ?_|refine zX ?_|refine zo rfl ?_|refine zs ?_|intro _));all_goals(try(conv=>whnf))
        all_goals rfl
     ·have bS:decide (j.sec≥0)=false:=decide_eq_false hS
      have hA:¬(0<=j.sec/\j.sec<(t.secs.length:Int)/\jM t.secs j.sec=IntKind.wrap IntKind.i64 (j.don+1)):=fun h=>hS h.1
      by_cases hL:IntKind.wrap IntKind.i64 (j.left-1)=0
      ·have bL:(IntKind.wrap IntKind.i64 (j.left-1) !=0)=false:=by simp[hL]
       by_cases hP:j.pc+1=(ps.length:Int)
       ·have bP:(j.pc ==IntKind.wrap IntKind.i64 (((ps.map eP).length:Int)-1))=true:=by rw[hwl];simp;omega
        have hres:=NJ (mv:=c.move) (now:=now) hR hO hD hA hL hP;rw[hres];refine Fn.run mJ rfl ?_;generalize Tryz.prog=P at *
        (repeat'((conv=>whnf);first|exact trivial|(with_reducible first|refine zX ?_|refine zP ?_|refine zL ?_)|refine⟨rfl,?_⟩|refine⟨_,rfl,?_⟩|refine⟨fun _=>?_,fun _=>?_⟩|refine zn ?_|refine zb rfl ?_|refine zX ?_|refine zo rfl ?_|refine zs ?_|intro _));all_goals(try(conv=>whnf))
        all_goals rfl
       ·have bP:(j.pc ==IntKind.wrap IntKind.i64 (((ps.map eP).length:Int)-1))=false:=by rw[hwl];simp;omega
        have hpn:(IntKind.wrap IntKind.i64 (j.pc+1)).toNat<ps.length:=by rw[hwp];omega
        have hp0:0<=IntKind.wrap IntKind.i64 (j.pc+1):=by rw[hwp];omega
        have hp1:(ps.map eP)[(IntKind.wrap IntKind.i64 (j.pc+1)).toNat]?=some (.agg [.int .i64 ps[(IntKind.wrap IntKind.i64 (j.pc+1)).toNat].core,.int .i64 ps[(IntKind.wrap IntKind.i64 (j.pc+1)).toNat].off,.int .i64 ps[(IntKind.wrap IntKind.i64 (j.pc+1)).toNat].len,.int .i64 ps[(IntKind.wrap IntKind.i64 (j.pc+1)).toNat].c]):=by simp[hpn,eP]
        have hres:=LZ (mv:=c.move) (now:=now) hR hO hD hA hL hP (cU hpn);rw[hres];generalize ps[(IntKind.wrap IntKind.i64 (j.pc+1)).toNat]=y at *;refine Fn.run mJ rfl ?_;generalize Tryz.prog=P at *
        (repeat'((conv=>whnf);first|exact trivial|(with_reducible first|refine zX ?_|refine zP ?_|refine zL ?_)|refine⟨rfl,?_⟩|refine⟨_,rfl,?_⟩|refine⟨fun _=>?_,fun _=>?_⟩|refine zn ?_|refine zb rfl ?_|refine zX ?_|refine zo rfl ?_|refine zs ?_|intro _));all_goals(try(conv=>whnf))
        all_goals rfl
      ·have bL:(IntKind.wrap IntKind.i64 (j.left-1) !=0)=true:=by simp[hL]
       have hres:=M5 (mv:=c.move) (now:=now) hR hO hD hA hL;rw[hres];refine Fn.run mJ rfl ?_;generalize Tryz.prog=P at *
       (repeat'((conv=>whnf);first|exact trivial|(with_reducible first|refine zX ?_|refine zP ?_|refine zL ?_)|refine⟨rfl,?_⟩|refine⟨_,rfl,?_⟩|refine⟨fun _=>?_,fun _=>?_⟩|refine zn ?_|refine zb rfl ?_|refine zX ?_|refine zo rfl ?_|refine zs ?_|intro _));all_goals(try(conv=>whnf))
       all_goals rfl
   ·have bO:decide (j.ov<=0)=false:=decide_eq_false hO
    by_cases hL:IntKind.wrap IntKind.i64 (j.left-1)=0
    ·have bL:(IntKind.wrap IntKind.i64 (j.left-1) !=0)=false:=by simp[hL]
     by_cases hP:j.pc+1=(ps.length:Int)
     ·have bP:(j.pc ==IntKind.wrap IntKind.i64 (((ps.map eP).length:Int)-1))=true:=by rw[hwl];simp;omega
      have hres:=tm5 (mv:=c.move) (now:=now) (secs:=t.secs) hR hO hL hP;rw[hres];refine Fn.run mJ rfl ?_;generalize Tryz.prog=P at *
      (repeat'((conv=>whnf);first|exact trivial|(with_reducible first|refine zX ?_|refine zP ?_|refine zL ?_)|refine⟨rfl,?_⟩|refine⟨_,rfl,?_⟩|refine⟨fun _=>?_,fun _=>?_⟩|refine zn ?_|refine zb rfl ?_|refine zX ?_|refine zo rfl ?_|refine zs ?_|intro _));all_goals(try(conv=>whnf))
      all_goals rfl
     ·have bP:(j.pc ==IntKind.wrap IntKind.i64 (((ps.map eP).length:Int)-1))=false:=by rw[hwl];simp;omega
      have hpn:(IntKind.wrap IntKind.i64 (j.pc+1)).toNat<ps.length:=by rw[hwp];omega
      have hp0:0<=IntKind.wrap IntKind.i64 (j.pc+1):=by rw[hwp];omega
      have hp1:(ps.map eP)[(IntKind.wrap IntKind.i64 (j.pc+1)).toNat]?=some (.agg [.int .i64 ps[(IntKind.wrap IntKind.i64 (j.pc+1)).toNat].core,.int .i64 ps[(IntKind.wrap IntKind.i64 (j.pc+1)).toNat].off,.int .i64 ps[(IntKind.wrap IntKind.i64 (j.pc+1)).toNat].len,.int .i64 ps[(IntKind.wrap IntKind.i64 (j.pc+1)).toNat].c]):=by simp[hpn,eP]
      have hres:=tm4 (mv:=c.move) (now:=now) (secs:=t.secs) hR hO hL hP (cU hpn);rw[hres];generalize ps[(IntKind.wrap IntKind.i64 (j.pc+1)).toNat]=y at *;refine Fn.run mJ rfl ?_;generalize Tryz.prog=P at *
      (repeat'((conv=>whnf);first|exact trivial|(with_reducible first|refine zX ?_|refine zP ?_|refine zL ?_)|refine⟨rfl,?_⟩|refine⟨_,rfl,?_⟩|refine⟨fun _=>?_,fun _=>?_⟩|refine zn ?_|refine zb rfl ?_|refine zX ?_|refine zo rfl ?_|refine zs ?_|intro _));all_goals(try(conv=>whnf))
      all_goals rfl
    ·have bL:(IntKind.wrap IntKind.i64 (j.left-1) !=0)=true:=by simp[hL]
     have hres:=TO (mv:=c.move) (now:=now) (secs:=t.secs) hR hO hL;rw[hres];refine Fn.run mJ rfl ?_;generalize Tryz.prog=P at *
     (repeat'((conv=>whnf);first|exact trivial|(with_reducible first|refine zX ?_|refine zP ?_|refine zL ?_)|refine⟨rfl,?_⟩|refine⟨_,rfl,?_⟩|refine⟨fun _=>?_,fun _=>?_⟩|refine zn ?_|refine zb rfl ?_|refine zX ?_|refine zo rfl ?_|refine zs ?_|intro _));all_goals(try(conv=>whnf))
     all_goals rfl
  ·have e:b9 c.move now t.secs ps j=(j,0):=by unfold b9;rw[if_neg (fun h=>hr h.2)]
   rw[e];have ht:bU ps j=false:=by rw[Bool.eq_false_iff];simp only[bU,ne_eq,aY,decide_eq_true_eq];omega
   rw[ht] at hth;refine Fn.run mJ rfl ?_;generalize Tryz.prog=P at *
   (repeat'((conv=>whnf);first|exact trivial|(with_reducible first|refine zX ?_|refine zP ?_|refine zL ?_)|refine⟨rfl,?_⟩|refine⟨_,rfl,?_⟩|refine⟨fun _=>?_,fun _=>?_⟩|refine zn ?_|refine zb rfl ?_|refine zX ?_|refine zo rfl ?_|refine zs ?_|intro _));all_goals(try(conv=>whnf))
   all_goals rfl
 ·have e:b9 c.move now t.secs ps j=(j,0):=by unfold b9;rw[if_neg (fun h=>hst h.1)]
  rw[e];have b0:(j.st !=2)=true:=by simp[hst]
  refine Fn.run mJ rfl ?_;generalize Tryz.prog=P at *
  (repeat'((conv=>whnf);first|exact trivial|(with_reducible first|refine zX ?_|refine zP ?_|refine zL ?_)|refine⟨rfl,?_⟩|refine⟨_,rfl,?_⟩|refine⟨fun _=>?_,fun _=>?_⟩|refine zn ?_|refine zb rfl ?_|refine zX ?_|refine zo rfl ?_|refine zs ?_|intro _));all_goals(try(conv=>whnf))
  all_goals rfl
open Go.RowKit Ma
open Go.RowKit Ma
open Go.RowKit Ma
open Go.RowKit Ma
theorem eU{α:Type}(m:Nat)(l:List α):(0:Int)<=(if (m:Int)<(l.length:Int) then (m:Int) else (l.length:Int))/\(if (m:Int)<(l.length:Int) then (m:Int) else (l.length:Int))<=(l.length:Int) /\
  l.take (if (m:Int)<(l.length:Int) then (m:Int) else (l.length:Int)).toNat=l.take m:=by
 split
 ·rename_i h
  exact⟨by omega,by omega,by rw[Int.toNat_natCast]⟩
 ·rename_i h
  exact⟨by omega,by omega,by rw[Int.toNat_natCast,List.take_length,List.take_of_length_le (by omega)]⟩
theorem k9{α:Type}(m:Nat)(k:Int)(hk:k=m)(l:List α):l.take (if k<(l.length:Int) then k else (l.length:Int)).toNat=l.take m:=by subst hk;exact(eU m l).2.2
theorem dM{α β:Type}(f : α -> β)(l:List α):(l.map f).isEmpty=l.isEmpty:=by cases l<;>rfl
theorem xS(nl:Bool)(l:List Ld):aB Tryz.prog 78 [sL nl l] (.ow 3 (l.take 10).isEmpty ((l.take 10).map eL)):=by
 have hm:=bA;obtain⟨f1,f2,f3⟩:=eU 10 (l.map eL);have e:(l.map eL).take 10=(l.take 10).map eL:=by rw[List.map_take]
 have hlen:((l.map eL).take 10).length<=10:=by simp;omega
 have hA1:(([]:List PV).length+((l.map eL).take (if ((10:Nat):Int)<((l.map eL).length:Int) then ((10:Nat):Int) else ((l.map eL).length:Int)).toNat).length)*24<=140737488355328:=by rw[f3];simp only[List.length_nil];omega
 have hA2:([]:List PV).length+((l.map eL).take (if ((10:Nat):Int)<((l.map eL).length:Int) then ((10:Nat):Int) else ((l.map eL).length:Int)).toNat).length<=maxLen:=by rw[f3];simp only[List.length_nil];omega
 refine Fn.run k78 rfl ?_;generalize Tryz.prog=P at *
 (repeat'((conv=>whnf);first|exact trivial|(with_reducible first|refine zX ?_|refine zP ?_|refine zL ?_)|refine⟨rfl,?_⟩|refine⟨_,rfl,?_⟩|refine⟨fun _=>?_,fun _=>?_⟩|refine zn ?_|refine zb rfl ?_|refine zX ?_|refine zo rfl ?_|refine zs ?_|intro _));all_goals(try(conv=>whnf))
 rw[k9 10 10 rfl, <-List.map_take,dM]
 rfl
def Cf.cut(c:Cf):Cf:=⟨c.cores,c.syncs,c.lag,c.move,(c.res.take 8).isEmpty,c.res.take 8⟩
def Cf.def0:Cf:=⟨2,1,1,1,false,[0]⟩
def AI(c:Cf):Cf:=if c.cut.ok then c.cut else Cf.def0
theorem uE(c:Cf):aB Tryz.prog 45 [jB c] (.p (jB c.cut)):=by
 have hm:=bA;obtain⟨f1,f2,f3⟩:=eU 8 (c.res.map eI);have hlen:((c.res.map eI).take 8).length<=8:=by simp;omega
 have hA1:(([]:List PV).length+((c.res.map eI).take (if ((8:Nat):Int)<((c.res.map eI).length:Int) then ((8:Nat):Int) else ((c.res.map eI).length:Int)).toNat).length)*8<=140737488355328:=by rw[f3];simp only[List.length_nil];omega
 have hA2:([]:List PV).length+((c.res.map eI).take (if ((8:Nat):Int)<((c.res.map eI).length:Int) then ((8:Nat):Int) else ((c.res.map eI).length:Int)).toNat).length<=maxLen:=by rw[f3];simp only[List.length_nil];omega
 refine Fn.run k45 rfl ?_;generalize Tryz.prog=P at *
 (repeat'((conv=>whnf);first|exact trivial|(with_reducible first|refine zX ?_|refine zP ?_|refine zL ?_)|refine⟨rfl,?_⟩|refine⟨_,rfl,?_⟩|refine⟨fun _=>?_,fun _=>?_⟩|refine zn ?_|refine zb rfl ?_|refine zX ?_|refine zo rfl ?_|refine zs ?_|intro _));all_goals(try(conv=>whnf))
 rw[k9 8 8 rfl, <-List.map_take,dM]
 rfl
theorem vE(c:Cf):aB Tryz.prog 16 [jB c] (.p (jB (AI c))):=by
 have h1:=uE c;have h2:=AV c.cut (by simp[Cf.cut];omega)
 unfold AI
 cases hok:c.cut.ok with
 |true=>
  rw[hok] at h2;rw[if_pos rfl];generalize c.cut=d at *;simp only[jB] at *;refine Fn.run YM rfl ?_;generalize Tryz.prog=P at *
  (repeat'((conv=>whnf);first|exact trivial|(with_reducible first|refine zX ?_|refine zP ?_|refine zL ?_)|refine⟨rfl,?_⟩|refine⟨_,rfl,?_⟩|refine⟨fun _=>?_,fun _=>?_⟩|refine zn ?_|refine zb rfl ?_|refine zX ?_|refine zo rfl ?_|refine zs ?_|intro _));all_goals(try(conv=>whnf))
  all_goals rfl
 |false=>
  rw[hok] at h2;rw[if_neg (by decide)]
  generalize c.cut=d at *;simp only[jB] at *;refine Fn.run YM rfl ?_;generalize Tryz.prog=P at *
  (repeat'((conv=>whnf);first|exact trivial|(with_reducible first|refine zX ?_|refine zP ?_|refine zL ?_)|refine⟨rfl,?_⟩|refine⟨_,rfl,?_⟩|refine⟨fun _=>?_,fun _=>?_⟩|refine zn ?_|refine zb rfl ?_|refine zX ?_|refine zo rfl ?_|refine zs ?_|intro _));all_goals(try(conv=>whnf))
  all_goals rfl
noncomputable def keep (l:List Ld):List Ld:=if dO (l.take 10) then l.take 10 else []
noncomputable def bH (ls:LL) (k:Nat):List Ld:=match ls[k]? with
 |some p=>keep p.2
 |none=>[]
noncomputable def bT (n:Nat) (ls:LL):List (List Ld):=(List.range n).map (bH ls)
def vY(x:List Ld):Bool×List Ld:=(x.isEmpty,x)
structure CoInv (n:Nat) (ls:LL) (i:Nat) (rows:List (List DV)):Prop where
 len:rows.length=n
 at_:∀k,k<n->∃d,rows[k]?=some [d]/\((d=.ow 3 true []/\(k<i->bH ls k=[]))\/d=.p (eC (vY (bH ls k))))
theorem qH{n:Nat}{ls:LL}{i:Nat}{rows:List (List DV)}(h:CoInv n ls i rows)(hi:n<=i\/ls.length<=i):aW rows=(bT n ls).map fun x=>[DV.p (eC (vY x))]:=by
 rw[hH]
 apply List.ext_getElem?
 intro k;rw[List.getElem?_map,List.getElem?_map]
 by_cases hk:k<n
 ·obtain⟨d,h1,h2⟩:=h.at_ k hk
  have e:(bT n ls)[k]?=some (bH ls k):=by simp[bT,hk]
  rw[h1,e];simp only[Option.map_some];rcases h2 with ⟨rfl,h2⟩|rfl
  ·have:bH ls k=[]:=by
    by_cases hki:k<i
    ·exact h2 hki
    ·have:ls[k]?=none:=List.getElem?_eq_none (by omega)
     simp[bH,this]
   rw[this];rfl
  ·rfl
 ·have e1:rows[k]?=none:=List.getElem?_eq_none (by rw[h.len];omega)
  have e2:(bT n ls)[k]?=none:=List.getElem?_eq_none (by simp[bT];omega)
  rw[e1,e2];rfl
theorem nQ{n:Nat}{ls:LL}{i:Nat}{rows:List (List DV)}(h:CoInv n ls i rows)(hi:i<n){v:DV}(hv:v=.p (eC (vY (bH ls i)))):CoInv n ls (i+1) (aF rows i [v]):=by
 refine⟨by rw[aI,h.len],fun k hk=>?_⟩
 obtain⟨d,h1,h2⟩:=h.at_ k hk;rw[getElem?_setL]
 by_cases e:k=i
 ·subst e;rw[if_pos rfl,h1];exact⟨v,rfl,.inr hv⟩
 ·rw[if_neg e];exact⟨d,h1,h2.imp (fun h=>⟨h.1,fun hk=>h.2 (by omega)⟩) id⟩
theorem nO{n:Nat}{ls:LL}{i:Nat}{rows:List (List DV)}(h:CoInv n ls i rows)(he:bH ls i=[]):CoInv n ls (i+1) rows:=by
 refine⟨h.len,fun k hk=>?_⟩
 obtain⟨d,h1,h2⟩:=h.at_ k hk;refine⟨d,h1,h2.imp (fun h=>⟨h.1,fun hk=>?_⟩) id⟩
 by_cases e:k=i
 ·subst e;exact he
 ·exact h.2 (by omega)
theorem q9{α:Type}(f : α->PV)(l:List α):c9 (l.map fun x=>[DV.p (f x)])=true:=by
 induction l with
 |nil=>rfl
 |cons a l ih=>simp[c9,xY,DV.isP,ih]
theorem qR{α:Type}(f : α->PV)(l:List α):fZ false (l.map fun x=>[DV.p (f x)])=some (l.map f):=by
 induction l with
 |nil=>rfl
 |cons a l ih=>simp[fZ,fA,ih]
theorem v7{b:List (Option Box)}{k size n:Nat}{ag:Bool}{bx:Box}{rows:List PV}(hb:bF b k=some bx)(h:bx.live=false/\(ag=true\/size=1)/\size=bx.size/\n=bx.rows.length)
  (hr:fZ ag bx.rows=some rows):DV.frz b (.bs k size ag 0 n)=some (.sl size false rows):=by
 simp only[DV.frz,hb];rw[if_pos ⟨h.1,h.2.1,h.2.2.1,trivial,h.2.2.2⟩,hr]
theorem tS{b:List (Option Box)}{d:DV}{x:PV}{N:PV->Prop}(h:DV.frz b d=some x)(hn:N x):(match DV.frz b d with|some x=>N x|none=>False):=by rw[h];exact hn
theorem xZ(c:Cf)(n:Nat)(hn:c.cores=n)(hn2:n<=1000)(nl:Bool)(ls:LL):aB Tryz.prog 49 [jB c,KW nl ls] (.p (KW false ((bT n ls).map vY))):=by
 have hm:=bA;obtain⟨cc,c1,c2,c3,c4,c5⟩:=c;simp only at hn;subst hn;have hld:=fun (p:Bool×List Ld)=>xS p.1 p.2
 have hft:=fun (p:Bool×List Ld)=>IL (p.2.take 10).isEmpty (p.2.take 10)
 have g1:(0:Int)<=(n:Int):=by omega
 have g2:(n:Int)*24<=140737488355328:=by omega
 have g3:(n:Int)<=maxLen:=by omega
 refine Fn.run k49 rfl ?_;generalize Tryz.prog=P at *
 (repeat'((conv=>whnf);first|exact trivial|(with_reducible first|refine zX ?_|refine zP ?_|refine zL ?_)|refine⟨rfl,?_⟩|refine⟨_,rfl,?_⟩|refine⟨fun _=>?_,fun _=>?_⟩|refine zn ?_|refine zb rfl ?_|refine zX ?_|refine zo rfl ?_|refine zs ?_|intro _));all_goals(try(conv=>whnf))
 refine aX (fun m s=>∃(i:Nat) (rows:List (List DV)),m+i=n/\CoInv n ls i rows /\
  s=⟨gM 35 [(1,.p (KW nl ls)),(2,.addr 0 5 0 0),(5,.bs 1 1 false 0 n),(6,.p (.int .i64 i))],[some (H9 ⟨n,c1,c2,c3,c4,c5⟩ true),some ⟨true,1,rows,false⟩]⟩) n ?_ ?_
 ·conv=>whnf
  refine⟨0,List.replicate n [.ow 3 true []],rfl,⟨by simp,fun k hk=>⟨.ow 3 true [],by simp[hk],.inl ⟨rfl,fun h=>absurd h (Nat.not_lt_zero k)⟩⟩⟩,?_⟩
  rfl
 ·rintro m st b N ⟨i,rows,hmi,hI,e⟩ hN
  cases e
  by_cases hlt:i<n/\i<ls.length
  ·obtain⟨hl1,hl2⟩:=hlt
   have hrow:(ls.map eC)[i]?=some (sL ls[i].1 ls[i].2):=by simp[hl2,eC]
   have hb1:decide ((i:Int)<(n:Int))=true:=l8 hl1;have hb:=l8 (n:=(ls.map eC).length) (by simpa using hl2)
   have h1:=hld ls[i];have h2:=hft ls[i];obtain⟨d,hd,_⟩:=hI.at_ i hl1;have hd':rows[0+((i:Int)).toNat]?=some [d]:=by simpa using hd
   have hil:(i:Int)<(n:Int):=by omega
   have hca:bH ls i=keep ls[i].2:=by simp[bH,hl2]
   generalize ls[i]=p at *
   cases hfit:dO (p.2.take 10) with
   |true=>
    rw[hfit] at h2
    (repeat'((conv=>whnf);first|exact trivial|(with_reducible first|refine zX ?_|refine zP ?_|refine zL ?_)|refine⟨rfl,?_⟩|refine⟨_,rfl,?_⟩|refine⟨fun _=>?_,fun _=>?_⟩|refine zn ?_|refine zb rfl ?_|refine zX ?_|refine zo rfl ?_|refine zs ?_|intro _));all_goals(try(conv=>whnf))
    rw[fY (n:=n) hl1 (by omega)]
    refine hN (m-1) _ (by omega) ⟨i+1,_,by omega,nQ hI hl1 (v:=.p (eC (vY (p.2.take 10)))) ?_,?_⟩
    ·rw[hca];unfold keep;rw[if_pos hfit]
    ·simp only[Int.toNat_natCast,Nat.zero_add]
     rfl
   |false=>
    rw[hfit] at h2
    (repeat'((conv=>whnf);first|exact trivial|(with_reducible first|refine zX ?_|refine zP ?_|refine zL ?_)|refine⟨rfl,?_⟩|refine⟨_,rfl,?_⟩|refine⟨fun _=>?_,fun _=>?_⟩|refine zn ?_|refine zb rfl ?_|refine zX ?_|refine zo rfl ?_|refine zs ?_|intro _));all_goals(try(conv=>whnf))
    rw[fY (n:=n) hl1 (by omega)]
    refine hN (m-1) _ (by omega) ⟨i+1,rows,by omega,nO hI ?_,rfl⟩
    rw[hca];unfold keep;rw[if_neg (by rw[hfit];decide)]
  ·have hend:=qH hI (by omega)
   have hlen:(aW rows).length=n:=by rw[hend];simp[bT]
   have hap:c9 (aW rows)=true:=by rw[hend];exact q9 _ _
   have hrp:fZ false (aW rows)=some (((bT n ls).map vY).map eC):=by rw[hend,qR (fun x=>eC (vY x)),List.map_map];rfl
   by_cases hl1:i<n
   ·have hb1:decide ((i:Int)<(n:Int))=true:=l8 hl1
    have hb:=nA (i:=i) (n:=(ls.map eC).length) (by simp;omega)
    (repeat'((conv=>whnf);first|exact trivial|(with_reducible first|refine zX ?_|refine zP ?_|refine zL ?_)|refine⟨rfl,?_⟩|refine⟨_,rfl,?_⟩|refine⟨fun _=>?_,fun _=>?_⟩|refine zn ?_|refine zb rfl ?_|refine zX ?_|refine zo rfl ?_|refine zs ?_|intro _));all_goals(try(conv=>whnf))
    all_goals (try refine And.intro hap ?_)
    all_goals exact tS (v7 (k:=1) (size:=1) (n:=n) (ag:=false) (bx:=⟨false,1,aW rows,false⟩) rfl ⟨rfl,.inr rfl,rfl,hlen.symm⟩ hrp) rfl
   ·have hb1:decide ((i:Int)<(n:Int))=false:=nA hl1
    (repeat'((conv=>whnf);first|exact trivial|(with_reducible first|refine zX ?_|refine zP ?_|refine zL ?_)|refine⟨rfl,?_⟩|refine⟨_,rfl,?_⟩|refine⟨fun _=>?_,fun _=>?_⟩|refine zn ?_|refine zb rfl ?_|refine zX ?_|refine zo rfl ?_|refine zs ?_|intro _));all_goals(try(conv=>whnf))
    all_goals (try refine And.intro hap ?_)
    all_goals exact tS (v7 (k:=1) (size:=1) (n:=n) (ag:=false) (bx:=⟨false,1,aW rows,false⟩) rfl ⟨rfl,.inr rfl,rfl,hlen.symm⟩ hrp) rfl
open Go.RowKit Ma
theorem y6:Cf.def0.ok=true:=by decide
theorem DR(c:Cf):(AI c).ok=true:=by
 unfold AI
 split
 ·assumption
 ·exact y6
theorem zI{c:Cf}(h:c.ok=true):pE c/\c.res.length<=6:=by
 unfold Cf.ok at h;simp only[aY,decide_eq_true_eq] at h;exact⟨h.1,h.2.1⟩
theorem vI(l:List Ld):(keep l).length<=10:=by
 unfold keep
 split
 ·simp;omega
 ·simp
theorem qD(l:List Ld):dO (keep l)=true:=by
 unfold keep
 split
 ·assumption
 ·rw[eD];exact⟨by decide,.inl rfl⟩
theorem nL(ls:LL)(k:Nat):(bH ls k).length<=10:=by
 unfold bH
 split
 ·exact vI _
 ·simp
theorem kX(ls:LL)(k:Nat):dO (bH ls k)=true:=by
 unfold bH
 split
 ·exact qD _
 ·rw[eD];exact⟨by decide,.inl rfl⟩
theorem nC{n:Nat}{ls:LL}{y:List Ld}(h:y∈bT n ls):y.length<=10:=by
 obtain⟨k,_,rfl⟩:=List.mem_map.1 h;exact nL _ _
theorem lE{n:Nat}{ls:LL}{y:List Ld}(h:y∈bT n ls):dO y=true:=by
 obtain⟨k,_,rfl⟩:=List.mem_map.1 h;exact kX _ _
theorem iO(n:Nat)(ls:LL):(bT n ls).length=n:=by simp[bT]
theorem yH{L:List (List Ld)}(h:∀y,y∈L->y.length<=10)(hn:L.length<=1000):LLok (L.map vY):=by
 refine⟨fun p hp h1=>?_,fun p hp=>?_,by simpa using hn⟩
 ·obtain⟨y,_,rfl⟩:=List.mem_map.1 hp
  exact List.isEmpty_iff.1 h1
 ·obtain⟨y,hy,rfl⟩:=List.mem_map.1 hp
  have:=h y hy;simp only[vY];omega
open Go.RowKit Ma
def eQ(p:Ma.Place):PV:=.agg [.int .i64 p.core,.int .i64 p.x]
open Go.RowKit Ma
section
variable (lt:Ma.Place->Ma.Place->Bool) (f:FuncId) (cv:Ma.Place->Ma.Place->Int) (hf:∀a b,aB Tryz.prog f [eQ a,eQ b] (.p (.int .i64 (cv a b)))) (hlt:∀a b,decide (cv a b<0)=lt a b) (l:List Ma.Place) (hl:l.length<=12) (ag:Bool)
include hf hlt hl
end
open Go.RowKit Ma
open Go.RowKit Ma
open Go.RowKit Ma
theorem EF(c:Cf)(t:Tk)(hl:t.secs.length<=1000)(hlc:c.res.length<=1000):aB Tryz.prog 48 [jB c,eT t] (.p (.bool (t.ok c.res.length))):=by
 have hm:=bA;have hwi:=fun n=>yE n 1 200
 have hwj:=fun n m=>yE n 1 m
 unfold Tk.ok
 by_cases hh:r8 t
 ·rw[decide_eq_true hh,Bool.true_and]
  obtain⟨a1,a2,a3,a4,a5⟩:=hh;have b1:decide (t.C<1)=false:=decide_eq_false (by omega)
  have b2:decide (t.D<t.C)=false:=decide_eq_false (by omega)
  have b3:decide (t.T<t.D)=false:=decide_eq_false (by omega)
  have b4:decide (t.T>200)=false:=decide_eq_false (by omega)
  have b5:decide (((t.secs.map eS).length:Int)>2)=false:=decide_eq_false (by simp;omega)
  have hC1:IntKind.wrap .i64 (t.C-1)=t.C-1:=aJ (by omega) (by omega)
  refine Fn.run YG rfl ?_;generalize Tryz.prog=P at *
  (repeat'((conv=>whnf);first|exact trivial|(with_reducible first|refine zX ?_|refine zP ?_|refine zL ?_)|refine⟨rfl,?_⟩|refine⟨_,rfl,?_⟩|refine⟨fun _=>?_,fun _=>?_⟩|refine zn ?_|refine zb rfl ?_|refine zX ?_|refine zo rfl ?_|refine zs ?_|intro _));all_goals(try(conv=>whnf))
  refine aX (fun n s=>∃(i:Nat) (last:Int),n+i=t.secs.length/\0<=last/\(i=0->last=0)/\(∀j,i=j+1->∃q,t.secs[j]?=some q/\q.at_=last)/\dC c.res.length t.C last (t.secs.drop i)=dC c.res.length t.C 0 t.secs /\
   s=⟨gM 89 [(2,.addr 0 5 0 0),(3,.addr 1 4 0 0),(5,.p (.int .i64 i))],[some (H9 c true),some (SI t),none]⟩) t.secs.length ?_ ?_
  ·conv=>whnf
   exact⟨0,0,rfl,Int.le_refl _,fun _=>rfl,(fun j h=>by cases h),rfl,rfl⟩
  ·rintro n st b N ⟨i,last,hi,hlast,hz,hp,hI,e⟩ hN
   cases e
   by_cases hlt:i<t.secs.length
   ·have hrow:(t.secs.map eS)[i]?=some (.agg [.int .i64 t.secs[i].res,.int .i64 t.secs[i].at_,.int .i64 t.secs[i].len]):=by simp[hlt,eS]
    have hb:=l8 (n:=(t.secs.map eS).length) (by simpa using hlt)
    have hsome:t.secs[i]?=some t.secs[i]:=by simp[hlt]
    rw[List.drop_eq_getElem_cons hlt] at hI;simp only[dC] at hI;have hw:=hwi t.secs[i].len;have hv:=hwj t.secs[i].at_ (IntKind.wrap .i64 (t.C-1));generalize hsi:t.secs[i]=x at *
    have step:∀y:Bool,(((decide (0<=x.res)&&(decide (x.res<(c.res.length:Int))&&(decide (1<=x.len)&&(decide (x.len<=200)&&(decide (last<x.at_)&&decide (x.at_<t.C))))))=true->y=dC c.res.length t.C x.at_ (t.secs.drop (i+1))) ->
      ((decide (0<=x.res)&&(decide (x.res<(c.res.length:Int))&&(decide (1<=x.len)&&(decide (x.len<=200)&&(decide (last<x.at_)&&decide (x.at_<t.C))))))=false->y=false)->y=dC c.res.length t.C 0 t.secs):=by
     intro y h1 h2;rw[<-hI]
     cases hd:(decide (0<=x.res)&&(decide (x.res<(c.res.length:Int))&&(decide (1<=x.len)&&(decide (x.len<=200)&&(decide (last<x.at_)&&decide (x.at_<t.C)))))) with
     |true=>
      rw[h1 hd];simp only[aY] at hd;simp[hd]
     |false=>
      rw[h2 hd];simp only[Bool.and_eq_false_iff] at hd;rcases hd with h|h|h|h|h|h<;>simp[h]
    by_cases c1:0<=x.res/\x.res<(c.res.length:Int)/\1<=x.len/\x.len<=200/\last<x.at_/\x.at_<t.C
    ·obtain⟨c1,c2,c3,c4,c5,c6⟩:=c1
     have d1:decide (x.res<0)=false:=decide_eq_false (by omega)
     have d2:decide (x.res≥((c.res.map eI).length:Int))=false:=decide_eq_false (by simp;omega)
     have d3:(decide (1<=x.len)&&decide (x.len<=200))=true:=by simp[c3,c4]
     have d4:(decide (1<=x.at_)&&decide (x.at_<=IntKind.wrap .i64 (t.C-1)))=true:=by rw[hC1];simp;omega
     rw[d3] at hw;rw[d4] at hv;rw[decide_eq_true c1,decide_eq_true c2,decide_eq_true c3,decide_eq_true c4,decide_eq_true c5,decide_eq_true c6] at hI;simp only[Bool.true_and] at hI
     cases i with
     |zero=>
      have d5:decide (((0:Nat):Int)>0)=false:=by decide
      (repeat'((conv=>whnf);first|exact trivial|(with_reducible first|refine zX ?_|refine zP ?_|refine zL ?_)|refine⟨rfl,?_⟩|refine⟨_,rfl,?_⟩|refine⟨fun _=>?_,fun _=>?_⟩|refine zn ?_|refine zb rfl ?_|refine zX ?_|refine zo rfl ?_|refine zs ?_|intro _));all_goals(try(conv=>whnf))
      refine hN (n-1) _ (by omega) ⟨1,x.at_,by omega,by omega,(fun h=>by cases h),(fun j hj=>?_),hI,rfl⟩
      have:j=0:=by omega
      subst this;exact⟨x,hsome,rfl⟩
     |succ j=>
      obtain⟨q,hq,hql⟩:=hp j rfl;have hw1:IntKind.wrap .i64 (((j+1:Nat):Int)-1)=(j:Int):=by rw[aJ (by omega) (by omega)];omega
      have d5:decide (((j+1:Nat):Int)>0)=true:=decide_eq_true (by omega)
      have d6:0<=IntKind.wrap .i64 (((j+1:Nat):Int)-1):=by rw[hw1];omega
      have hrow2:(t.secs.map eS)[(IntKind.wrap .i64 (((j+1:Nat):Int)-1)).toNat]?=some (.agg [.int .i64 q.res,.int .i64 q.at_,.int .i64 q.len]):=by
       rw[hw1,Int.toNat_natCast,List.getElem?_map,hq];rfl
      have d7:decide (x.at_<=q.at_)=false:=decide_eq_false (by omega)
      (repeat'((conv=>whnf);first|exact trivial|(with_reducible first|refine zX ?_|refine zP ?_|refine zL ?_)|refine⟨rfl,?_⟩|refine⟨_,rfl,?_⟩|refine⟨fun _=>?_,fun _=>?_⟩|refine zn ?_|refine zb rfl ?_|refine zX ?_|refine zo rfl ?_|refine zs ?_|intro _));all_goals(try(conv=>whnf))
      rw[fY (n:=t.secs.length) hlt (by omega)]
      refine hN (n-1) _ (by omega) ⟨j+2,x.at_,by omega,by omega,(fun h=>by cases h),(fun k hk=>?_),hI,rfl⟩
      have:k=j+1:=by omega
      subst this;exact⟨x,hsome,rfl⟩
    ·have hfalse:dC c.res.length t.C 0 t.secs=false:=by
      rw[<-hI];simp only[Bool.and_eq_false_iff,decide_eq_false_iff_not];omega
     rw[hfalse];clear step hI
     cases i with
     |zero=>
      have hz0:=hz rfl;subst hz0;have d5:decide (((0:Nat):Int)>0)=false:=by decide
      have hno:(decide (x.res<0)||(decide (x.res≥((c.res.map eI).length:Int))||(!(decide (1<=x.len)&&decide (x.len<=200)) || !(decide (1<=x.at_)&&decide (x.at_<=IntKind.wrap .i64 (t.C-1))))))=true:=by
       rw[hC1];simp only[Bool.or_eq_true,decide_eq_true_eq,List.length_map,Bool.not_eq_true',Bool.and_eq_false_iff,decide_eq_false_iff_not];omega
      generalize (decide (1<=x.len)&&decide (x.len<=200))=y3 at *;generalize (decide (1<=x.at_)&&decide (x.at_<=IntKind.wrap .i64 (t.C-1)))=y4 at *
      (repeat'((conv=>whnf);first|exact trivial|(with_reducible first|refine zX ?_|refine zP ?_|refine zL ?_)|refine⟨rfl,?_⟩|refine⟨_,rfl,?_⟩|refine⟨fun _=>?_,fun _=>?_⟩|refine zn ?_|refine zb rfl ?_|refine zX ?_|refine zo rfl ?_|refine zs ?_|intro _));all_goals(try(conv=>whnf))
      all_goals first
       |exact aO rfl
       | (exfalso
          have e1:decide (x.res<0)=false:=by assumption
          have e2:decide (x.res≥((c.res.map eI).length:Int))=false:=by assumption
          have e3:(!y3)=false:=by first|assumption|(simp;assumption)
          have e4:(!y4)=false:=by first|assumption|(simp;assumption)
          rw[e1,e2,e3,e4] at hno;exact absurd hno (by decide))
     |succ j=>
      obtain⟨q,hq,hql⟩:=hp j rfl;have hw1:IntKind.wrap .i64 (((j+1:Nat):Int)-1)=(j:Int):=by rw[aJ (by omega) (by omega)];omega
      have d5:decide (((j+1:Nat):Int)>0)=true:=decide_eq_true (by omega)
      have d6:0<=IntKind.wrap .i64 (((j+1:Nat):Int)-1):=by rw[hw1];omega
      have hrow2:(t.secs.map eS)[(IntKind.wrap .i64 (((j+1:Nat):Int)-1)).toNat]?=some (.agg [.int .i64 q.res,.int .i64 q.at_,.int .i64 q.len]):=by
       rw[hw1,Int.toNat_natCast,List.getElem?_map,hq];rfl
      have hno:(decide (x.res<0)||(decide (x.res≥((c.res.map eI).length:Int))||(!(decide (1<=x.len)&&decide (x.len<=200))||(!(decide (1<=x.at_)&&decide (x.at_<=IntKind.wrap .i64 (t.C-1)))||decide (x.at_<=q.at_)))))=true:=by
       rw[hC1];simp only[Bool.or_eq_true,decide_eq_true_eq,List.length_map,Bool.not_eq_true',Bool.and_eq_false_iff,decide_eq_false_iff_not];omega
      generalize (decide (1<=x.len)&&decide (x.len<=200))=y3 at *;generalize (decide (1<=x.at_)&&decide (x.at_<=IntKind.wrap .i64 (t.C-1)))=y4 at *
      (repeat'((conv=>whnf);first|exact trivial|(with_reducible first|refine zX ?_|refine zP ?_|refine zL ?_)|refine⟨rfl,?_⟩|refine⟨_,rfl,?_⟩|refine⟨fun _=>?_,fun _=>?_⟩|refine zn ?_|refine zb rfl ?_|refine zX ?_|refine zo rfl ?_|refine zs ?_|intro _));all_goals(try(conv=>whnf))
      all_goals first
       |exact aO rfl
       | (exfalso
          have e1:decide (x.res<0)=false:=by assumption
          have e2:decide (x.res≥((c.res.map eI).length:Int))=false:=by assumption
          have e3:(!y3)=false:=by first|assumption|(simp;assumption)
          have e4:(!y4)=false:=by first|assumption|(simp;assumption)
          have e5:decide (x.at_<=q.at_)=false:=by assumption
          rw[e1,e2,e3,e4,e5] at hno;exact absurd hno (by decide))
   ·have hb:=nA (n:=(t.secs.map eS).length) (by simpa using hlt)
    rw[List.drop_of_length_le (by omega)] at hI
    rw[<-hI]
    (repeat'((conv=>whnf);first|exact trivial|(with_reducible first|refine zX ?_|refine zP ?_|refine zL ?_)|refine⟨rfl,?_⟩|refine⟨_,rfl,?_⟩|refine⟨fun _=>?_,fun _=>?_⟩|refine zn ?_|refine zb rfl ?_|refine zX ?_|refine zo rfl ?_|refine zs ?_|intro _));all_goals(try(conv=>whnf))
    exact aO rfl
 ·rw[decide_eq_false hh,Bool.false_and]
  have hno:(decide (t.C<1)||(decide (t.D<t.C)||(decide (t.T<t.D)||(decide (t.T>200)||decide (((t.secs.map eS).length:Int)>2)))))=true:=FD hh
  refine Fn.run YG rfl ?_;generalize Tryz.prog=P at *
  (repeat'((conv=>whnf);first|exact trivial|(with_reducible first|refine zX ?_|refine zP ?_|refine zL ?_)|refine⟨rfl,?_⟩|refine⟨_,rfl,?_⟩|refine⟨fun _=>?_,fun _=>?_⟩|refine zn ?_|refine zb rfl ?_|refine zX ?_|refine zo rfl ?_|refine zs ?_|intro _));all_goals(try(conv=>whnf))
  all_goals first
   |exact aO rfl
   | (exfalso
      have e1:decide (t.C<1)=false:=by assumption
      have e2:decide (t.D<t.C)=false:=by assumption
      have e3:decide (t.T<t.D)=false:=by assumption
      have e4:decide (t.T>200)=false:=by assumption
      have e5:decide (((t.secs.map eS).length:Int)>2)=false:=by assumption
      rw[e1,e2,e3,e4,e5] at hno;exact absurd hno (by decide))
open Go.RowKit Ma
theorem sA{t:Tk}{n:Int}(h:t.ok n=true):r8 t:=by
 unfold Tk.ok at h;simp only[aY,decide_eq_true_eq] at h;exact h.1
theorem sK{c:Cf}(h:c.ok=true):pE c/\c.res.length<=6:=by
 unfold Cf.ok at h;simp only[aY,decide_eq_true_eq] at h;exact⟨h.1,h.2.1⟩
theorem HT{c:Cf}{t:Tk}{n:Int}(hc:c.ok=true)(ht:t.ok n=true):Lim c.cores c.lag c.move t.C t.D t.T:=by
 obtain⟨⟨⟨a1,a2⟩,_,⟨a3,a4⟩,a5,a6⟩,_⟩:=sK hc;obtain⟨b1,b2,b3,b4,_⟩:=sA ht;exact⟨a1,a2,a3,a4,a5,a6,b1,b2,b3,b4⟩
open Go.RowKit Ma
open Go.RowKit Ma
open Go.RowKit Ma
open Go.RowKit Ma
open Go.RowKit Ma
def Tk.cut(t:Tk):Tk:=⟨t.C,t.D,t.T,(t.secs.take 4).isEmpty,t.secs.take 4⟩
theorem D6(c:Tk):aB Tryz.prog 47 [eT c] (.p (eT c.cut)):=by
 have hm:=bA;obtain⟨f1,f2,f3⟩:=eU 4 (c.secs.map eS);have hlen:((c.secs.map eS).take 4).length<=4:=by simp;omega
 have hA1:(([]:List PV).length+((c.secs.map eS).take (if ((4:Nat):Int)<((c.secs.map eS).length:Int) then ((4:Nat):Int) else ((c.secs.map eS).length:Int)).toNat).length)*24<=140737488355328:=by rw[f3];simp only[List.length_nil];omega
 have hA2:([]:List PV).length+((c.secs.map eS).take (if ((4:Nat):Int)<((c.secs.map eS).length:Int) then ((4:Nat):Int) else ((c.secs.map eS).length:Int)).toNat).length<=maxLen:=by rw[f3];simp only[List.length_nil];omega
 refine Fn.run k47 rfl ?_;generalize Tryz.prog=P at *
 (repeat'((conv=>whnf);first|exact trivial|(with_reducible first|refine zX ?_|refine zP ?_|refine zL ?_)|refine⟨rfl,?_⟩|refine⟨_,rfl,?_⟩|refine⟨fun _=>?_,fun _=>?_⟩|refine zn ?_|refine zb rfl ?_|refine zX ?_|refine zo rfl ?_|refine zs ?_|intro _));all_goals(try(conv=>whnf))
 rw[k9 4 4 rfl, <-List.map_take,dM]
 rfl
theorem NZ(c:Cf)(t:Tk)(hl:c.res.length<=1000):aB Tryz.prog 17 [jB c,eT t] (.tup [.p (eT t.cut),.p (.bool (t.cut.ok c.res.length))]):=by
 have h1:=D6 t;have h2:=EF c t.cut (by simp[Tk.cut];omega) hl
 generalize t.cut=d at *;generalize d.ok c.res.length=y at *;simp only[jB,eT] at *;refine Fn.run k17 rfl ?_;generalize Tryz.prog=P at *
 (repeat'((conv=>whnf);first|exact trivial|(with_reducible first|refine zX ?_|refine zP ?_|refine zL ?_)|refine⟨rfl,?_⟩|refine⟨_,rfl,?_⟩|refine⟨fun _=>?_,fun _=>?_⟩|refine zn ?_|refine zb rfl ?_|refine zX ?_|refine zo rfl ?_|refine zs ?_|intro _));all_goals(try(conv=>whnf))
 all_goals rfl
open Go.RowKit Ma
instance:No ((true ==true)=false):=⟨by decide⟩
instance:No ((false ==false)=false):=⟨by decide⟩
instance:No ((true ==false)=true):=⟨by decide⟩
instance:No ((false ==true)=true):=⟨by decide⟩
instance:No ((true ==true) = !true):=⟨by decide⟩
instance:No ((false ==false) = !true):=⟨by decide⟩
instance:No ((true ==false) = !false):=⟨by decide⟩
instance:No ((false ==true) = !false):=⟨by decide⟩
structure Kept (c:Cf) (nl:Bool) (ls:LL) (d:Cf) (L:LL):Prop where
 ok:d.ok=true
 cf:aB Tryz.prog 16 [jB c] (.p (jB d))
 co:aB Tryz.prog 49 [jB d,KW nl ls] (.p (KW false L))
 ll:LLok L
 len:(L.length:Int)=d.cores
 few:L.length<=6
 each:∀p,p∈L->dO p.2=true/\p.2.length<=10/\p.1=p.2.isEmpty
theorem VC(c:Cf)(nl:Bool)(ls:LL):∃d L,Kept c nl ls d L:=by
 have hok:=DR c;obtain⟨⟨⟨q1,q2⟩,_⟩,_⟩:=zI hok;obtain⟨n,hn⟩:∃n:Nat,(AI c).cores=n:=⟨(AI c).cores.toNat,by omega⟩
 have hlen:=fun y hy=>nC (n:=n) (ls:=ls) (y:=y) hy
 have hfit:=fun y hy=>lE (n:=n) (ls:=ls) (y:=y) hy
 have hL:=iO n ls;refine⟨AI c,(bT n ls).map vY,hok,vE c,xZ (AI c) n hn (by omega) nl ls,yH hlen (by omega),by simp;omega,by simp;omega,fun p hp=>?_⟩
 obtain⟨y,hy,rfl⟩:=List.mem_map.1 hp;exact⟨hfit y hy,hlen y hy,rfl⟩
open Go.RowKit Ma
theorem PU(k:Int)(nl:Bool)(ps:List Pc)(rel want:Int):aB Tryz.prog 19 [AA k nl ps,.int .i64 rel,.int .i64 want] (.p (eJ ⟨2,rel,want,0,0,cV ps 0,0,0,0⟩)):=by
 have h:=mB k nl ps ⟨2,rel,want,0,0,0,0,0,0⟩
 cases ps with
 |nil=>
  have ht:bU [] ⟨2,rel,want,0,0,0,0,0,0⟩=false:=by simp[bU]
  rw[ht] at h;refine Fn.run X6 rfl ?_;generalize Tryz.prog=P at *
  (repeat'((conv=>whnf);first|exact trivial|(with_reducible first|refine zX ?_|refine zP ?_|refine zL ?_)|refine⟨rfl,?_⟩|refine⟨_,rfl,?_⟩|refine⟨fun _=>?_,fun _=>?_⟩|refine zn ?_|refine zb rfl ?_|refine zX ?_|refine zo rfl ?_|refine zs ?_|intro _));all_goals(try(conv=>whnf))
  all_goals rfl
 |cons p ps=>
  have ht:bU (p ::ps) ⟨2,rel,want,0,0,0,0,0,0⟩=true:=by simp[bU]
  rw[ht] at h;have e:cV (p ::ps) 0=p.c:=rfl;rw[e];refine Fn.run X6 rfl ?_;generalize Tryz.prog=P at *
  (repeat'((conv=>whnf);first|exact trivial|(with_reducible first|refine zX ?_|refine zP ?_|refine zL ?_)|refine⟨rfl,?_⟩|refine⟨_,rfl,?_⟩|refine⟨fun _=>?_,fun _=>?_⟩|refine zn ?_|refine zb rfl ?_|refine zX ?_|refine zo rfl ?_|refine zs ?_|intro _));all_goals(try(conv=>whnf))
  all_goals rfl
end Go.Proofs.YtnjphclbpgajpaaGreatDoor.Vc
namespace Go.Proofs.YtnjphclbpgajpaaGreatDoor.Ma
end Go.Proofs.YtnjphclbpgajpaaGreatDoor.Ma
namespace Go.Proofs.YtnjphclbpgajpaaGreatDoor.Vc
open Go.RowKit Ma
open Go.RowKit Ma
def nF(m rel want:Int)(W:List Pc)(p:Nat)(e:Int)(s:Nat)(st:Int):Jb:=⟨st,rel,want,aQ m W p e,p,cV W p-e,aV m p e,s,0⟩
structure JobOk (m want C:Int) (W:List Pc) (secs:List Sec):Prop where
 good:Ma.Good m W
 base:b6 m W W.length=C
 m5:m<=5
 few:W.length<=1000
 c:∀p,p<W.length->cV W p<=1000
 w1:1<=want
 w2:want<=1000
 C2:C<=1000
 hsecs:secs=[]\/W.length=1
 ats:∀s,s∈secs->s.at_<C
 few2:secs.length<=1000
structure OnWay (m want:Int) (W:List Pc) (p:Nat) (e:Int):Prop where
 hp:p<W.length
 e0:0<=e
 e1:e<cV W p
 d:aQ m W p e<want
inductive TickIs (m rel want C now:Int) (W:List Pc) (secs:List Sec) (p:Nat) (e:Int) (s:Nat):Jb×Int->Prop
 |ends (h1:want<=C) (h2:aQ m W p e+1=want) (h3:aV m p e<=0):TickIs m rel want C now W secs p e s (⟨4,rel,want,want,p,cV W p-(e+1),aV m p e,s,now+1⟩,2)
 |asks (h:OnWay m want W p (e+1)) (h1:s<secs.length) (h2:jM secs s=aQ m W p e+1) (h3:aV m p e<=0):TickIs m rel want C now W secs p e s (nF m rel want W p (e+1) (s+1) 3,3)
 |goes (h:OnWay m want W p (e+1)) (h1:¬(aV m p e<=0/\s<secs.length/\jM secs s=aQ m W p e+1)):TickIs m rel want C now W secs p e s (nF m rel want W p (e+1) s 2,1)
 |cut (h:C<want) (h1:p+1=W.length) (h2:e+1=cV W p):TickIs m rel want C now W secs p e s (⟨5,rel,want,C,p,0,0,s,now+1⟩,5)
 |moves (h:OnWay m want W (p+1) 0) (h1:e+1=cV W p):TickIs m rel want C now W secs p e s (nF m rel want W (p+1) 0 s 1,4)
theorem uI{m rel want C now:Int}{W:List Pc}{secs:List Sec}(H:JobOk m want C W secs){p:Nat}{e:Int}{s:Nat}(h:OnWay m want W p e)(hs:s<=secs.length)(hn:0<=now/\now<=2000000000000) :
  TickIs m rel want C now W secs p e s (b9 m now secs W (nF m rel want W p e s 2)):=by
 have hp:=h.hp;have he0:=h.e0;have he1:=h.e1;have hd:=h.d;have hm0:=H.good.1;have hm5:=H.m5;have hfew:=H.few;have hcp:=H.c p hp;have hw1:=H.w1;have hw2:=H.w2;have hC2:=H.C2;have hf2:=H.few2;have hov:=dF hm0 p
 have hD0:0<=aQ m W p e:=by
  have:=eY H.good (p:=0) (q:=p) (by omega) (by omega)
  unfold aQ;simp only[b6] at this;omega
 have hD1:aQ m W p (e+1)<=C:=by rw[<-H.base];exact pD H.good hp (by omega)
 have hO0:0<=aV m p e/\aV m p e<=5:=by unfold aV;omega
 obtain⟨n1,n2⟩:=pS (m:=m) (W:=W) (p:=p) (e:=e);have hfull:=fun he=>pP (e:=e) H.good hp he
 have hend:e+1=cV W p->aQ m W p (e+1)=b6 m W (p+1):=fun he=>by rw[he];exact qO H.good hp
 have w1:IntKind.wrap IntKind.i64 (now+1)=now+1:=aJ (by omega) (by omega)
 have w2:IntKind.wrap IntKind.i64 (cV W p-e-1)=cV W p-(e+1):=by rw[aJ (by omega) (by omega)];omega
 have w3:IntKind.wrap IntKind.i64 (aV m p e-1)=aV m p e-1:=aJ (by omega) (by omega)
 have w4:IntKind.wrap IntKind.i64 ((p:Int)+1)=(p:Int)+1:=aJ (by omega) (by omega)
 have w5:IntKind.wrap IntKind.i64 ((s:Int)+1)=(s:Int)+1:=aJ (by omega) (by omega)
 have w6:IntKind.wrap IntKind.i64 (aQ m W p e+1)=aQ m W p e+1:=by
  have:aQ m W p e<=C:=by rw[<-H.base];exact pD H.good hp (by omega)
  exact aJ (by omega) (by omega)
 unfold nF;generalize hJ:(⟨2,rel,want,aQ m W p e,p,cV W p-e,aV m p e,s,0⟩:Jb)=J;have j1:J.st=2/\0<=J.pc/\J.pc<(W.length:Int):=by subst hJ;exact⟨rfl,by simp only;omega,by simp only;omega⟩
 have g1:J.rel=rel:=by subst hJ;rfl
 have g2:J.want=want:=by subst hJ;rfl
 have g3:J.don=aQ m W p e:=by subst hJ;rfl
 have g4:J.pc=p:=by subst hJ;rfl
 have g5:J.left=cV W p-e:=by subst hJ;rfl
 have g6:J.ov=aV m p e:=by subst hJ;rfl
 have g7:J.sec=s:=by subst hJ;rfl
 have g8:J.fin=0:=by subst hJ;rfl
 have g9:J.st=2:=j1.1;clear hJ
 by_cases hO:aV m p e<=0
 ·obtain⟨n3,n4⟩:=n1 hO
  by_cases hw:aQ m W p e+1=want
  ·rw[VG j1 (by rw[g6];exact hO) (by rw[g3,g2,w6];exact hw)]
   rw[g1,g2,g3,g4,g5,g6,g7,w1,w2,w6,hw];exact .ends (by omega) hw hO
  ·have hw':¬IntKind.wrap IntKind.i64 (J.don+1)=J.want:=by rw[g3,g2,w6];exact hw
   by_cases ha:s<secs.length/\jM secs s=aQ m W p e+1
   ·have hl1:W.length=1:=by
     rcases H.hsecs with e0|e0
     ·rw[e0] at ha;simp at ha
     ·exact e0
    have hp0:p=0:=by omega
    subst hp0
    have hat:jM secs s<C:=by
     have hlt:s<secs.length:=ha.1;have:jM secs s=secs[s].at_:=by simp[jM,hlt]
     rw[this];exact H.ats _ (List.getElem_mem hlt)
    have hb:=H.base;rw[hl1] at hb;simp only[b6,fS,if_true] at hb;have hde:aQ m W 0 e=e:=by unfold aQ;simp only[b6,fS,if_true];omega
    rw[YA j1 (by rw[g6];exact hO) hw' (by rw[g7,g3,w6];exact⟨by omega,by omega,ha.2⟩)]
    rw[g1,g2,g3,g4,g5,g6,g7,g8,w2,w5,w6];have hT:=TickIs.asks (m:=m) (rel:=rel) (want:=want) (C:=C) (now:=now) (W:=W) (secs:=secs) (p:=0) (e:=e) (s:=s) ⟨hp,by omega,by omega,by omega⟩ ha.1 ha.2 hO
    unfold nF at hT;rw[n3,n4] at hT
    simpa using hT
   ·have ha':¬(0<=J.sec/\J.sec<(secs.length:Int)/\jM secs J.sec=IntKind.wrap IntKind.i64 (J.don+1)):=by
     rw[g7,g3,w6];exact fun hh=>ha ⟨by omega,hh.2.2⟩
    by_cases hz:e+1=cV W p
    ·have hz':IntKind.wrap IntKind.i64 (J.left-1)=0:=by rw[g5,w2];omega
     have hb:=hend hz
     by_cases hl:p+1=W.length
     ·rw[NJ j1 (by rw[g6];exact hO) hw' ha' hz' (by rw[g4];omega)]
      rw[hl,H.base] at hb;rw[g1,g2,g3,g4,g5,g6,g7,w1,w2,w6];have q1:aQ m W p e+1=C:=by omega
      have q2:cV W p-(e+1)=0:=by omega
      have q3:aV m p e=0:=by omega
      rw[q1,q2,q3];exact .cut (by omega) hl hz
     ·have hp1:p+1<W.length:=by omega
      have hcv:cV W (IntKind.wrap IntKind.i64 (J.pc+1)).toNat=cV W (p+1):=by rw[g4,w4];congr 1
      rw[LZ j1 (by rw[g6];exact hO) hw' ha' hz' (by rw[g4];omega) hcv]
      rw[g1,g2,g3,g4,g7,g8,w4,w6];obtain⟨z1,z2⟩:=lV (m:=m) (W:=W) (p:=p+1) hm0;have hgp:=H.good.2 (p+1) hp1;have hop:=dF hm0 (p+1);have hT:=TickIs.moves (m:=m) (rel:=rel) (want:=want) (C:=C) (now:=now) (W:=W) (secs:=secs) (p:=p) (e:=e) (s:=s) ⟨hp1,by omega,by omega,by omega⟩ hz
      unfold nF at hT;have z3:fS m (p+1)=m:=by unfold fS;rw[if_neg (by omega)]
      rw[z1,z2,z3,Int.sub_zero] at hT;have q1:aQ m W p e+1=b6 m W (p+1):=by omega
      rw[q1]
      simpa using hT
    ·have hz':¬IntKind.wrap IntKind.i64 (J.left-1)=0:=by rw[g5,w2];omega
     rw[M5 j1 (by rw[g6];exact hO) hw' ha' hz']
     rw[g1,g2,g3,g4,g5,g6,g7,g8,g9,w2,w6];have hT:=TickIs.goes (m:=m) (rel:=rel) (want:=want) (C:=C) (now:=now) (W:=W) (secs:=secs) (p:=p) (e:=e) (s:=s) ⟨hp,by omega,by omega,by omega⟩ (fun hh=>ha hh.2)
     unfold nF at hT;rw[n3,n4] at hT;exact hT
 ·obtain⟨n3,n4⟩:=n2 hO
  have hz':¬IntKind.wrap IntKind.i64 (J.left-1)=0:=by rw[g5,w2];intro hz;exact hO (hfull (by omega))
  rw[TO j1 (by rw[g6];exact hO) hz']
  rw[g1,g2,g3,g4,g5,g6,g7,g8,g9,w2,w3];have hT:=TickIs.goes (m:=m) (rel:=rel) (want:=want) (C:=C) (now:=now) (W:=W) (secs:=secs) (p:=p) (e:=e) (s:=s) ⟨hp,by omega,by rw[g5,w2] at hz';omega,by omega⟩ (fun hh=>hO hh.1)
  unfold nF at hT;rw[n3,n4] at hT;exact hT
def iJ(W:List Pc)(p:Nat)(e:Int):Int:=fM (W.take p)+e
theorem sQ{W:List Pc}{p:Nat}(hp:p<W.length){e:Int}(he:e+1=cV W p):iJ W (p+1) 0=iJ W p e+1:=by
 have:=gX hp;rw[cU hp] at he;unfold iJ;omega
theorem iH{n C:Int}:∀{secs:List Sec} {last:Int},dC n C last secs=true->∀s,s∈secs->last<s.at_/\s.at_<C
 |[],_,_,s,hs=>by simp at hs
 |x ::xs,last,h,s,hs=>by
  simp only[dC,aY,decide_eq_true_eq] at h;rcases List.mem_cons.1 hs with rfl|hs
  ·exact⟨h.2.2.2.2.1,h.2.2.2.2.2.1⟩
  ·have:=iH h.2.2.2.2.2.2 s hs;omega
theorem lX{n C:Int}:∀{secs:List Sec} {last:Int},dC n C last secs=true->secs.Pairwise fun a b=>a.at_<b.at_
 |[],_,_=>.nil
 |x ::xs,last,h=>by
  simp only[dC,aY,decide_eq_true_eq] at h;exact .cons (fun s hs=>(iH h.2.2.2.2.2.2 s hs).1) (lX h.2.2.2.2.2.2)
theorem CG{cores lag move C D T kind n want:Int}{W:List Pc}{secs:List Sec}(hl:Lim cores lag move C D T)(hp:PlanOk cores lag move C D secs.length kind W)(h6:W.length<=6)(hs:secs≠[]->W.length=1)(hsec:dC n C 0 secs=true)(hf:secs.length<=2)
  (w1:1<=want) (w2:want<=1000):JobOk move want C W secs/\fM W<=240:=by
 have hC:=hl.CD;have hD:=hl.DT;have hT:=hl.T2;have hm:=hl.m2;have hm1:=hl.m1;refine⟨⟨hp.good hl.m1,hp.base,hl.m2,by omega,fun p hlt=>?_,w1,w2,by omega,?_,fun s h=>(iH hsec s h).2,by omega⟩,?_⟩
 ·have:=Pc.ok_iff.1 (hp.pcs _ (List.getElem_mem hlt))
  rw[cU hlt];omega
 ·cases secs with
  |nil=>exact .inl rfl
  |cons x xs=>exact .inr (hs (by simp))
 ·have h1:1<=W.length:=by have:=hp.one;cases W with|nil=>exact absurd rfl this|cons _ _=>simp
  have h2:((W.length:Int)-1)*move<=5*5:=Int.mul_le_mul (by omega) hm hm1 (by omega)
  have:=hp.sum;omega
open Go.RowKit Ma
def bX(a b c d e f g h i:Int):Box:=⟨true,9,[[.p (.int .i64 a),.p (.int .i64 b),.p (.int .i64 c),.p (.int .i64 d),.p (.int .i64 e),.p (.int .i64 f),.p (.int .i64 g),.p (.int .i64 h),.p (.int .i64 i)]],false⟩
open Go.RowKit Ma
theorem UH(c:Cf)(t:Tk)(want:Int):aB Tryz.prog 6 [jB c,eT t,.int .i64 want] (.p (.bool true)):=by
 have hbeg:aB Tryz.prog 15 [] (.p (.bool true)):=pR;have hm:=bA;obtain⟨d,L,K⟩:=VC c true [];have h19:=K.cf;have hrl:=(sK K.ok).2;have h21:=NZ d t (by omega)
 generalize t.cut=u at *
 cases hok:u.ok d.res.length with
 |false=>
  rw[hok] at h21;clear hm hrl K;simp only[jB,eT] at h19 h21;refine Fn.run k6 rfl ?_;generalize Tryz.prog=P at *
  (repeat'((conv=>whnf);first|exact trivial|(with_reducible first|refine zX ?_|refine zP ?_|refine zL ?_)|refine⟨rfl,?_⟩|refine⟨_,rfl,?_⟩|refine⟨fun _=>?_,fun _=>?_⟩|refine zn ?_|refine zb rfl ?_|refine zX ?_|refine zo rfl ?_|refine zs ?_|intro _));all_goals(try(conv=>whnf))
  all_goals rfl
 |true=>
  rw[hok] at h21;have hlim:=HT K.ok hok
  by_cases hg:1<=want/\want<=u.C
  ·have hok':dC d.res.length u.C 0 u.secs=true/\u.secs.length<=2:=by
    have h2:=(sA hok).2.2.2.2;unfold Tk.ok at hok;simp only[aY] at hok;exact⟨hok.2,h2⟩
   have hplan:PlanOk d.cores d.lag d.move u.C u.D u.secs.length 1 [⟨0,0,u.D,u.C⟩]:=CS hlim (Int.le_refl 0) (by have:=hlim.c1;omega)
   have hC:u.C<=200:=by have:=hlim.CD;have:=hlim.DT;have:=hlim.T2;omega
   obtain⟨H, -⟩:=CG (want:=want) hlim hplan (by simp) (fun _=>rfl) hok'.1 hok'.2 hg.1 (by omega)
   have g3:decide (want<1)=false:=decide_eq_false (by omega)
   have g4:decide (want>u.C)=false:=decide_eq_false (by omega)
   have hN:=PU 1 false [⟨0,0,u.D,u.C⟩] 0 want;have hTk:=fun j now=>D5 d u 1 false [⟨0,0,u.D,u.C⟩] (by simp) j now
   have hway:=fun (e:Int) (s:Nat) h hs now hn=>uI (rel:=0) (now:=now) (p:=0) (e:=e) (s:=s) H h hs hn
   have hdo:∀e:Int,0<=e->aQ d.move [⟨0,0,u.D,u.C⟩] 0 e=e:=fun e he=>by unfold aQ fS;simp only[b6,if_true];omega
   have hov:∀e:Int,0<=e->aV d.move 0 e=0:=fun e he=>by unfold aV fS;simp only[if_true];omega
   have hcv:cV [⟨0,0,u.D,u.C⟩] 0=u.C:=rfl;have hrise:=lX hok'.1;have hats:=fun s hs=>iH hok'.1 s hs
   have hf2:=hok'.2;simp only[jB,eT,AA,eJ,List.map_cons,List.map_nil,eP,hcv] at h19 h21 hN;clear hok hplan hlim K hrl hok';refine Fn.run k6 rfl ?_;generalize Tryz.prog=P at *
   (repeat'((conv=>whnf);first|exact trivial|(with_reducible first|refine zX ?_|refine zP ?_|refine zL ?_)|refine⟨rfl,?_⟩|refine⟨_,rfl,?_⟩|refine⟨fun _=>?_,fun _=>?_⟩|refine zn ?_|refine zb rfl ?_|refine zX ?_|refine zo rfl ?_|refine zs ?_|intro _));all_goals(try(conv=>whnf))
   refine aX (fun n s=>∃(i:Int) (q:Nat) (bx:Box),0<=i/\i<=want/\q<=u.secs.length/\(n:Int)=want-i/\(∀(z:Nat) s,u.secs[z]?=some s->(z<q->s.at_<=i/\s.at_<want)/\(q<=z->i<s.at_\/i=want/\want<=s.at_)) /\
    (i<want->bx=bX 2 0 want (aQ d.move [⟨0,0,u.D,u.C⟩] 0 i) 0 (u.C-i) (aV d.move 0 i) q 0)/\(i=want->∃ov:Int,bx=bX 4 0 want want 0 (u.C-want) ov q want) /\
    s=⟨gM 132 [(2,.p (.int .i64 want)),(3,.addr 0 5 0 0),(4,.addr 1 4 0 0),(9,.addr 2 2 0 0),(10,.addr 3 9 0 0),(11,.p (.int .i64 q)),(12,.p (.int .i64 i))],
     [some (H9 d true),some (SI u),some (QO 1 false [⟨0,0,u.D,u.C⟩]),some bx,none]⟩) want.toNat ?_ ?_
   ·conv=>whnf
    refine⟨0,0,_,Int.le_refl _,by omega,Nat.zero_le _,by omega,fun z s hs=>⟨fun h=>absurd h (Nat.not_lt_zero _),fun _=>.inl (hats s (cD hs)).1⟩,fun _=>rfl,fun h=>by omega,?_⟩
    rw[hov 0 (Int.le_refl _),hdo 0 (Int.le_refl _),Int.sub_zero]
    rfl
   ·rintro n st b N ⟨i,q,bx,hi0,hiw,hq,hn,hz,hj,hj4,e0⟩ hN'
    cases e0
    by_cases hlt:i<want
    ·have hbx:=hj hlt
     subst hbx;have hdi:=hdo i hi0;have hdi1:=hdo (i+1) (by omega)
     have hw:OnWay d.move want [⟨0,0,u.D,u.C⟩] 0 i:=⟨by simp,hi0,by rw[hcv];omega,by rw[hdi];exact hlt⟩
     have hT:=hTk (nF d.move 0 want [⟨0,0,u.D,u.C⟩] 0 i q 2) i;have hcase:=hway i q hw hq i (by omega)
     have l1:decide (i<want)=true:=decide_eq_true hlt;have hw1:IntKind.wrap IntKind.i64 (i+1)=i+1:=aJ (by omega) (by omega)
     have hq1:IntKind.wrap IntKind.i64 ((q:Int)+1)=((q+1:Nat):Int):=by rw[aJ (by omega) (by omega)];omega
     generalize b9 d.move i u.secs [⟨0,0,u.D,u.C⟩] (nF d.move 0 want [⟨0,0,u.D,u.C⟩] 0 i q 2)=r at *
     cases hcase with
     |ends h1 h2 h3=>
      rw[hdi] at h2;have f1:(want !=IntKind.wrap IntKind.i64 (i+1))=false:=by rw[hw1];simp;omega
      have f2:(IntKind.wrap IntKind.i64 (i+1) ==want)=true:=by rw[hw1];simp;omega
      have c3:(!(((2:Int) ==2) ==(IntKind.wrap IntKind.i64 (i+1) ==want)))=false:=by rw[f2];rfl
      have hstep:∀{s:St},s=⟨gM 132 [(2,.p (.int .i64 want)),(3,.addr 0 5 0 0),(4,.addr 1 4 0 0),(9,.addr 2 2 0 0),(10,.addr 3 9 0 0),(11,.p (.int .i64 q)),(12,.p (.int .i64 (IntKind.wrap IntKind.i64 (i+1))))],
        [some (H9 d true),some (SI u),some (QO 1 false [⟨0,0,u.D,u.C⟩]),some (bX 4 0 want want 0 (u.C-(i+1)) (aV d.move 0 i) q (i+1)),none]⟩->N s:=fun e2=>by
       rw[hw1] at e2;refine hN' (n-1) _ (by omega) ⟨i+1,q,_,by omega,by omega,hq,by omega,fun z s hs=>⟨fun hlz=>?_,fun hgz=>?_⟩,fun h=>by omega,fun h=>⟨aV d.move 0 i,by rw[<-h]⟩,e2⟩
       ·have:=((hz z s hs).1 hlz);omega
       ·have:=((hz z s hs).2 hgz);omega
      simp only[nF,eJ,jR,jB,eT,AA,List.map_cons,List.map_nil,eP,hcv] at hT;clear hway hTk hN' hz hj hj4
      (repeat'((conv=>whnf);first|exact trivial|(with_reducible first|refine zX ?_|refine zP ?_|refine zL ?_)|refine⟨rfl,?_⟩|refine⟨_,rfl,?_⟩|refine⟨fun _=>?_,fun _=>?_⟩|refine zn ?_|refine zb rfl ?_|refine zX ?_|refine zo rfl ?_|refine zs ?_|intro _));all_goals(try(conv=>whnf))
      all_goals first
       |exact hstep rfl
       |(exfalso;rename_i hx;rw[if_pos rfl] at hx;exact absurd (hx.symm.trans c3) (by decide))
       |(exfalso;simp at *;done)
     |asks h h1 h2 h3=>
      rw[hdi] at h2;have hd:=h.d;rw[hdi1] at hd;have f1:(aQ d.move [⟨0,0,u.D,u.C⟩] 0 (i+1) !=IntKind.wrap IntKind.i64 (i+1))=false:=by rw[hw1,hdi1];simp
      have f2:(IntKind.wrap IntKind.i64 (i+1) ==want)=false:=by rw[hw1];simp;omega
      have c3:(!(((3:Int) ==2) ==(IntKind.wrap IntKind.i64 (i+1) ==want)))=false:=by rw[f2];rfl
      have hat:∀s,u.secs[q]?=some s->s.at_=i+1:=fun s hs=>by simpa [jM,hs] using h2
      have hstep:∀{s:St},s=⟨gM 132 [(2,.p (.int .i64 want)),(3,.addr 0 5 0 0),(4,.addr 1 4 0 0),(9,.addr 2 2 0 0),(10,.addr 3 9 0 0),(11,.p (.int .i64 (IntKind.wrap IntKind.i64 ((q:Int)+1)))),(12,.p (.int .i64 (IntKind.wrap IntKind.i64 (i+1))))],
        [some (H9 d true),some (SI u),some (QO 1 false [⟨0,0,u.D,u.C⟩]),some (bX 2 0 want (aQ d.move [⟨0,0,u.D,u.C⟩] 0 (i+1)) 0 (u.C-(i+1)) (aV d.move 0 (i+1)) (q+1:Nat) 0),none]⟩->N s:=fun e2=>by
       rw[hw1,hq1] at e2;refine hN' (n-1) _ (by omega) ⟨i+1,q+1,_,by omega,by omega,h1,by omega,fun z s hs=>⟨fun hlz=>?_,fun hgz=>.inl ?_⟩,fun _=>rfl,fun h=>by omega,e2⟩
       ·by_cases hzq:z=q
        ·subst hzq;have:=hat s hs;omega
        ·have:=(hz z s hs).1 (by omega);omega
       ·obtain⟨x,hx⟩:∃x,u.secs[q]?=some x:=⟨u.secs[q],by simp[h1]⟩
        have h5:=hat x hx;obtain⟨hzl,rfl⟩:=bM.1 hs;obtain⟨hql,rfl⟩:=bM.1 hx;have:=List.pairwise_iff_getElem.1 hrise q z hql hzl (by omega)
        omega
      simp only[nF,eJ,jR,jB,eT,AA,List.map_cons,List.map_nil,eP,hcv] at hT;clear hway hTk hN' hz hj hj4
      (repeat'((conv=>whnf);first|exact trivial|(with_reducible first|refine zX ?_|refine zP ?_|refine zL ?_)|refine⟨rfl,?_⟩|refine⟨_,rfl,?_⟩|refine⟨fun _=>?_,fun _=>?_⟩|refine zn ?_|refine zb rfl ?_|refine zX ?_|refine zo rfl ?_|refine zs ?_|intro _));all_goals(try(conv=>whnf))
      all_goals first
       |exact hstep rfl
       |(exfalso;rename_i hx;rw[if_pos rfl] at hx;exact absurd (hx.symm.trans c3) (by decide))
       |(exfalso;simp at *;done)
     |goes h h1=>
      have hd:=h.d;rw[hdi1] at hd;have f1:(aQ d.move [⟨0,0,u.D,u.C⟩] 0 (i+1) !=IntKind.wrap IntKind.i64 (i+1))=false:=by rw[hw1,hdi1];simp
      have f2:(IntKind.wrap IntKind.i64 (i+1) ==want)=false:=by rw[hw1];simp;omega
      have c3:(!(((1:Int) ==2) ==(IntKind.wrap IntKind.i64 (i+1) ==want)))=false:=by rw[f2];rfl
      have hstep:∀{s:St},s=⟨gM 132 [(2,.p (.int .i64 want)),(3,.addr 0 5 0 0),(4,.addr 1 4 0 0),(9,.addr 2 2 0 0),(10,.addr 3 9 0 0),(11,.p (.int .i64 q)),(12,.p (.int .i64 (IntKind.wrap IntKind.i64 (i+1))))],
        [some (H9 d true),some (SI u),some (QO 1 false [⟨0,0,u.D,u.C⟩]),some (bX 2 0 want (aQ d.move [⟨0,0,u.D,u.C⟩] 0 (i+1)) 0 (u.C-(i+1)) (aV d.move 0 (i+1)) q 0),none]⟩->N s:=fun e2=>by
       rw[hw1] at e2;refine hN' (n-1) _ (by omega) ⟨i+1,q,_,by omega,by omega,hq,by omega,fun z s hs=>⟨fun hlz=>?_,fun hgz=>.inl ?_⟩,fun _=>rfl,fun h=>by omega,e2⟩
       ·have:=(hz z s hs).1 hlz;omega
       ·have h4:=(hz z s hs).2 hgz
        have hql:q<u.secs.length:=by have:=(bM.1 hs).1;omega
        have h5:¬jM u.secs q=i+1:=fun e=>h1 ⟨by rw[hov i hi0];omega,hql,by rw[hdi];exact e⟩
        by_cases hzq:z=q
        ·subst hzq
         have:jM u.secs (z:Int)=s.at_:=by simp[jM,hs]
         omega
        ·obtain⟨hzl,rfl⟩:=bM.1 hs
         have h6:=List.pairwise_iff_getElem.1 hrise q z hql hzl (by omega)
         have h7:=(hz q u.secs[q] (by simp[hql])).2 (Nat.le_refl _)
         omega
      simp only[nF,eJ,jR,jB,eT,AA,List.map_cons,List.map_nil,eP,hcv] at hT;clear hway hTk hN' hz hj hj4
      (repeat'((conv=>whnf);first|exact trivial|(with_reducible first|refine zX ?_|refine zP ?_|refine zL ?_)|refine⟨rfl,?_⟩|refine⟨_,rfl,?_⟩|refine⟨fun _=>?_,fun _=>?_⟩|refine zn ?_|refine zb rfl ?_|refine zX ?_|refine zo rfl ?_|refine zs ?_|intro _));all_goals(try(conv=>whnf))
      all_goals first
       |exact hstep rfl
       |(exfalso;rename_i hx;rw[if_pos rfl] at hx;exact absurd (hx.symm.trans c3) (by decide))
       |(exfalso;simp at *;done)
     |cut h h1 h2=>omega
     |moves h h1=>have:=h.hp;simp at this
    ·have hiw':i=want:=by omega
     subst hiw';obtain⟨ov,hbx⟩:=hj4 rfl;subst hbx;have l1:decide (i<i)=false:=by simp
     have hcnt:∀(z:Nat) s,u.secs[z]?=some s->(z<q->s.at_<i)/\(q<=z->i<=s.at_):=fun z s hs=>⟨fun h=>((hz z s hs).1 h).2,fun h=>by have:=(hz z s hs).2 h;omega⟩
     have f1:((q:Int) ==(q:Int))=true:=by simp
     have hC':IntKind.wrap IntKind.i64 (u.C-i)=u.C-i:=aJ (by omega) (by omega)
     clear hway hTk hN' hz hj hj4
     (repeat'((conv=>whnf);first|exact trivial|(with_reducible first|refine zX ?_|refine zP ?_|refine zL ?_)|refine⟨rfl,?_⟩|refine⟨_,rfl,?_⟩|refine⟨fun _=>?_,fun _=>?_⟩|refine zn ?_|refine zb rfl ?_|refine zX ?_|refine zo rfl ?_|refine zs ?_|intro _));all_goals(try(conv=>whnf))
     refine aX (fun n s=>∃z:Nat,n+z=u.secs.length/\s=⟨gM 132 [(2,.p (.int .i64 i)),(4,.addr 1 4 0 0),(10,.addr 3 9 0 0),(11,.p (.int .i64 q)),(15,.p (.int .i64 (min z q:Nat))),(16,.p (.int .i64 z))],
      [some (H9 d true),some (SI u),some (QO 1 false [⟨0,0,u.D,u.C⟩]),some (bX 4 0 i i 0 (u.C-i) ov q i),none]⟩) u.secs.length ?_ ?_
     ·conv=>whnf
      refine⟨0,rfl,?_⟩;rw[show (min 0 q:Nat)=0 by omega]
      rfl
     ·rintro n2 st2 b2 N2 ⟨z,hz2,e2⟩ hN2
      cases e2
      by_cases hzl:z<u.secs.length
      ·have hb:=l8 (n:=(u.secs.map eS).length) (i:=z) (by simpa using hzl)
       have hr1:(u.secs.map eS)[z]?=some (.agg [.int .i64 u.secs[z].res,.int .i64 u.secs[z].at_,.int .i64 u.secs[z].len]):=by simp[hzl,eS]
       have hc1:=hcnt z u.secs[z] (by simp[hzl])
       generalize u.secs[z]=x at *
       by_cases hzq:z<q
       ·have g1:decide (x.at_<i)=true:=decide_eq_true (hc1.1 hzq)
        have hm1:IntKind.wrap IntKind.i64 ((min z q:Nat)+1:Int)=((min (z+1) q:Nat):Int):=by rw[aJ (by omega) (by omega)];omega
        (repeat'((conv=>whnf);first|exact trivial|(with_reducible first|refine zX ?_|refine zP ?_|refine zL ?_)|refine⟨rfl,?_⟩|refine⟨_,rfl,?_⟩|refine⟨fun _=>?_,fun _=>?_⟩|refine zn ?_|refine zb rfl ?_|refine zX ?_|refine zo rfl ?_|refine zs ?_|intro _));all_goals(try(conv=>whnf))
        rw[hm1,fY (n:=u.secs.length) hzl (by omega)]
        exact hN2 (n2-1) _ (by omega) ⟨z+1,by omega,rfl⟩
       ·have g1:decide (x.at_<i)=false:=decide_eq_false (by have:=hc1.2 (by omega);omega)
        have hm1:((min z q:Nat):Int)=((min (z+1) q:Nat):Int):=by omega
        (repeat'((conv=>whnf);first|exact trivial|(with_reducible first|refine zX ?_|refine zP ?_|refine zL ?_)|refine⟨rfl,?_⟩|refine⟨_,rfl,?_⟩|refine⟨fun _=>?_,fun _=>?_⟩|refine zn ?_|refine zb rfl ?_|refine zX ?_|refine zo rfl ?_|refine zs ?_|intro _));all_goals(try(conv=>whnf))
        rw[hm1,fY (n:=u.secs.length) hzl (by omega)]
        exact hN2 (n2-1) _ (by omega) ⟨z+1,by omega,rfl⟩
      ·have hb:=nA (n:=(u.secs.map eS).length) (i:=z) (by simpa using hzl)
       have hmn:((min z q:Nat):Int)=(q:Int):=by omega
       rw[hmn]
       (repeat'((conv=>whnf);first|exact trivial|(with_reducible first|refine zX ?_|refine zP ?_|refine zL ?_)|refine⟨rfl,?_⟩|refine⟨_,rfl,?_⟩|refine⟨fun _=>?_,fun _=>?_⟩|refine zn ?_|refine zb rfl ?_|refine zX ?_|refine zo rfl ?_|refine zs ?_|intro _));all_goals(try(conv=>whnf))
       all_goals first
        |rfl
        |exact aO (by rw[hC'];simp)
        |(exfalso;simp at *;done)
  ·simp only[jB,eT,AA,eJ] at h19 h21
   clear hm hrl K hok hlim;refine Fn.run k6 rfl ?_;generalize Tryz.prog=P at *
   (repeat'((conv=>whnf);first|exact trivial|(with_reducible first|refine zX ?_|refine zP ?_|refine zL ?_)|refine⟨rfl,?_⟩|refine⟨_,rfl,?_⟩|refine⟨fun _=>?_,fun _=>?_⟩|refine zn ?_|refine zb rfl ?_|refine zX ?_|refine zo rfl ?_|refine zs ?_|intro _));all_goals(try(conv=>whnf))
   all_goals first
    |rfl
    |(exfalso;simp only[decide_eq_true_eq,decide_eq_false_iff_not] at *;omega)
end Go.Proofs.YtnjphclbpgajpaaGreatDoor.Vc
