/- Contract of the law AgentTimes. No condition. -/
import Derived.Test.YtnjphclbpgajpaaGreatDoorX09
import Derived.Test.YtnjphclbpgajpaaGreatDoorX08
import Derived.Test.YtnjphclbpgajpaaGreatDoorProg
import Derived.Test.YtnjphclbpgajpaaGreatDoorX16
set_option linter.unnecessarySimpa false
set_option linter.unusedSectionVars false
set_option linter.unusedSimpArgs false
set_option linter.unusedVariables false
set_option maxHeartbeats 4000000
set_option maxRecDepth 100000
namespace Go.Proofs.YtnjphclbpgajpaaGreatDoor.Vc
open Go.RowKit Ma
open Go.RowKit Ma
def QO(kind:Int)(nl:Bool)(ps:List Pc):Box:=⟨true,2,[[.p (.int .i64 kind),.p (.sl 4 nl (ps.map eP))]],false⟩
open Go.RowKit
def F4:Fn:=⟨122,6,[.tmp 12],
 (.sr [ii 6 (.box 0 5) [.t 0],
 ii 8 (.box 1 4) [.t 2],
 ii 10 (.box 2 9) [.t 4],
 mc 12 (.bool false)]
 (.sr [ii 20 (.call 15) [],
 mt 13 20]
 (.seq
 (.sr [mv 21 13,
 ii 22 (.un .not) [.t 21]]
 (.cond (.t 22)
 (.sr [mc 12 (.bool false)]
 .ret)
 .skip))
 (.seq
 (.gp (.reg [ii 23 (.load 5 true false) [.t 6],
 ii 24 (.call 16) [.t 23],
 ⟨none,none,.store 5,[.t 6,.t 24]⟩]) (.lay 0 5))
 (.seq
 (.gp (.reg [ii 26 (.load 5 true false) [.t 6],
 ii 27 (.load 4 true false) [.t 8],
 ii 28 (.call 17) [.t 26,.t 27],
 mv 25 28,
 ii 29 (.ext 0) [.t 25],
 ii 30 (.ext 1) [.t 25],
 ⟨none,none,.store 4,[.t 8,.t 29]⟩,
 mt 14 30]) (.lay 1 4))
 (.seq
 (.sr [mv 31 14,
 ii 32 (.un .not) [.t 31],
 mv 33 32,
 gf 34 33 (.mov false) [.t 5],
 gf 35 33 (.bin .lss) [.t 34,cI 0],
 ii 36 .pick [.t 33,.c (.p (.bool true)),.t 35],
 mv 37 36,
 gf 38 37 (.mov false) [.t 5],
 gf 39 37 (.bin .gtr) [.t 38,cI 1099511627776],
 ii 40 .pick [.t 37,.c (.p (.bool true)),.t 39]]
 (.cond (.t 40)
 (.sr [mc 12 (.bool true)]
 .ret)
 .skip))
 (.seq
 (.gp (.reg [ii 42 (.load 5 true false) [.t 6],
 mv 43 1,
 ii 44 (.load 4 true false) [.t 8],
 mv 45 3,
 ii 46 (.call 18) [.t 42,.t 43,.t 44,.t 45],
 mv 41 46,
 ii 47 (.ext 0) [.t 41],
 ii 48 (.ext 1) [.t 41],
 ⟨some 15,none,.alloc 3 2 [Z0,.ow 4 true []],[]⟩,
 ⟨none,none,.store 2,[.t 15,.t 47]⟩,
 mt 14 48]) (.lay 3 2))
 (.seq
 (.sr [mv 49 14,
 ii 50 (.un .not) [.t 49],
 mv 51 50,
 gf 52 51 (.fad 5) [.t 10],
 gf 53 51 (.load 1 false false) [.t 52],
 gf 54 51 (.bin .lss) [.t 53,cI 1],
 ii 55 .pick [.t 51,.c (.p (.bool true)),.t 54],
 mv 56 55,
 gf 57 56 (.fad 6) [.t 10],
 gf 58 56 (.load 1 false false) [.t 57],
 gf 59 56 (.bin .lss) [.t 58,cI 0],
 ii 60 .pick [.t 56,.c (.p (.bool true)),.t 59],
 mv 61 60,
 gf 62 61 (.fad 3) [.t 10],
 gf 63 61 (.load 1 false false) [.t 62],
 gf 64 61 (.bin .lss) [.t 63,cI 0],
 ii 65 .pick [.t 61,.c (.p (.bool true)),.t 64],
 mv 66 65,
 gf 67 66 (.fad 7) [.t 10],
 gf 68 66 (.load 1 false false) [.t 67],
 gf 69 66 (.bin .lss) [.t 68,cI 0],
 ii 70 .pick [.t 66,.c (.p (.bool true)),.t 69],
 mv 71 70,
 gf 72 71 (.fad 5) [.t 10],
 gf 73 71 (.load 1 false false) [.t 72],
 gf 74 71 (.bin .gtr) [.t 73,cI 1000],
 ii 75 .pick [.t 71,.c (.p (.bool true)),.t 74],
 mv 76 75,
 gf 77 76 (.fad 3) [.t 10],
 gf 78 76 (.load 1 false false) [.t 77],
 gf 79 76 (.bin .gtr) [.t 78,cI 1000],
 ii 80 .pick [.t 76,.c (.p (.bool true)),.t 79],
 mv 81 80,
 gf 82 81 (.fad 3) [.t 10],
 gf 83 81 (.load 1 false false) [.t 82],
 gf 84 81 (.fad 2) [.t 10],
 gf 85 81 (.load 1 false false) [.t 84],
 gf 86 81 (.bin .geq) [.t 83,.t 85],
 ii 87 .pick [.t 81,.c (.p (.bool true)),.t 86]]
 (.cond (.t 87)
 (.sr [mv 88 14,
 mt 12 88]
 .ret)
 .skip))
 (.seq
 (.gp (.reg [ii 90 (.load 5 true false) [.t 6],
 ii 91 (.load 4 true false) [.t 8],
 ii 92 (.load 2 true false) [.t 15],
 ii 93 (.load 9 true false) [.t 10],
 mv 94 5,
 ii 95 (.call 20) [.t 90,.t 91,.t 92,.t 93,.t 94],
 mv 89 95,
 ii 96 (.ext 0) [.t 89],
 ii 97 (.ext 1) [.t 89],
 ⟨some 16,none,.alloc 4 9 [Z0,Z0,Z0,Z0,Z0,Z0,Z0,Z0,Z0],[]⟩,
 ⟨none,none,.store 9,[.t 16,.t 96]⟩,
 mt 17 97]) (.lay 4 9))
 (.seq
 (.gp (.reg [ii 99 (.load 5 true false) [.t 6],
 ii 100 (.load 4 true false) [.t 8],
 ii 101 (.load 2 true false) [.t 15],
 ii 102 (.load 9 true false) [.t 10],
 mv 103 5,
 ii 104 (.call 21) [.t 99,.t 100,.t 101,.t 102,.t 103],
 mv 98 104,
 ii 105 (.ext 0) [.t 98],
 ii 106 (.ext 1) [.t 98],
 ⟨some 18,none,.alloc 5 9 [Z0,Z0,Z0,Z0,Z0,Z0,Z0,Z0,Z0],[]⟩,
 ⟨none,none,.store 9,[.t 18,.t 105]⟩,
 mt 19 106]) (.lay 5 9))
 (.seq
 (.regd [ii 107 (.at 4 (.load 9 true false)) [.t 16],
 ii 108 (.at 5 (.load 9 true false)) [.t 18],
 ii 109 (.eqs 9 false) [.t 107,.t 108],
 mv 110 109,
 gt 111 110 (.mov false) [.t 17],
 gt 112 110 (.mov false) [.t 19],
 gt 113 110 (.bin .eql) [.t 111,.t 112],
 ii 114 .pick [.t 110,.t 113,.c (.p (.bool false))],
 mv 115 114,
 gt 116 115 (.at 2 (.load 9 true false)) [.t 10],
 gt 117 115 (.pl (.call 22)) [.t 116],
 gt 118 115 (.at 2 (.load 9 true false)) [.t 10],
 gt 119 115 (.pl (.call 23)) [.t 118],
 gt 120 115 (.eqb false) [.t 117,.t 119],
 ii 121 .pick [.t 115,.t 120,.c (.p (.bool false))],
 mt 12 121])
 .ret)))))))))))⟩
theorem k4:aC Tryz.prog 4 F4=true:=by kernel_rfl
def F6:Fn:=⟨132,5,[.tmp 6],
 (.sr [ii 3 (.box 0 5) [.t 0],
 ii 4 (.box 1 4) [.t 1],
 mc 6 (.bool false)]
 (.sr [ii 17 (.call 15) [],
 mt 7 17]
 (.seq
 (.sr [mv 18 7,
 ii 19 (.un .not) [.t 18]]
 (.cond (.t 19)
 (.sr [mc 6 (.bool false)]
 .ret)
 .skip))
 (.seq
 (.gp (.reg [ii 20 (.load 5 true false) [.t 3],
 ii 21 (.call 16) [.t 20],
 ⟨none,none,.store 5,[.t 3,.t 21]⟩]) (.lay 0 5))
 (.seq
 (.gp (.reg [ii 23 (.load 5 true false) [.t 3],
 ii 24 (.load 4 true false) [.t 4],
 ii 25 (.call 17) [.t 23,.t 24],
 mv 22 25,
 ii 26 (.ext 0) [.t 22],
 ii 27 (.ext 1) [.t 22],
 ⟨none,none,.store 4,[.t 4,.t 26]⟩,
 mt 8 27]) (.lay 1 4))
 (.seq
 (.sr [mv 28 8,
 ii 29 (.un .not) [.t 28],
 mv 30 29,
 gf 31 30 (.mov false) [.t 2],
 gf 32 30 (.bin .lss) [.t 31,cI 1],
 ii 33 .pick [.t 30,.c (.p (.bool true)),.t 32],
 mv 34 33,
 gf 35 34 (.mov false) [.t 2],
 gf 36 34 (.fad 0) [.t 4],
 gf 37 34 (.load 1 false false) [.t 36],
 gf 38 34 (.bin .gtr) [.t 35,.t 37],
 ii 39 .pick [.t 34,.c (.p (.bool true)),.t 38]]
 (.cond (.t 39)
 (.sr [mc 6 (.bool true)]
 .ret)
 .skip))
 (.seq
 (.gp (.reg [fa 40 1 4,
 ld 41 40,
 fa 42 0 4,
 ld 43 42,
 ⟨some 44,none,.build [.int .i64 0,.int .i64 0,.int .i64 0,.int .i64 0] [(2,1),(3,1)],[.t 41,.t 43]⟩,
 ii 45 (.bsl 4 1) [.t 44],
 ⟨some 46,none,.build [.int .i64 0,.sl 4 true []] [(0,1),(1,1)],[cI 1,.t 45]⟩,
 ⟨some 9,none,.alloc 2 2 [Z0,.ow 4 true []],[]⟩,
 ⟨none,none,.store 2,[.t 9,.t 46]⟩]) (.lay 2 2))
 (.seq
 (.gp (.reg [ii 47 (.load 2 true false) [.t 9],
 mv 48 2,
 ii 49 (.call 19) [.t 47,cI 0,.t 48],
 ⟨some 10,none,.alloc 3 9 [Z0,Z0,Z0,Z0,Z0,Z0,Z0,Z0,Z0],[]⟩,
 ⟨none,none,.store 9,[.t 10,.t 49]⟩]) (.lay 3 9))
 (.sr [mc 11 (.int .i64 0)]
 (.seq
 (.sr [mc 12 (.int .i64 0)]
 (.block 0
 (.loop [0,1,6,7,8,13,14,15,16,17,18,19,20,21,22,23,24,25,26,27,28,29,30,31,32,33,34,35,36,37,38,39,40,41,42,43,44,45,46,47,48,49,50,51,52,53,54,55,56,57,58,59,60,61,62,63,64,65,66,67,68,69,70,71,72,73,74,75,76,77,78,79,80,81,82,83,84,85,86,87,88,89,90,91,92,93,94,95,96,97,98,99,100,101,102,103,104,105,106,107,108,109,110,111,112,113,114,115,116,117,118,119,120,121,122,123,124,125,126,127,128,129,130,131] [4]
 (.seq
 (.sr [mv 50 12,
 mv 51 2,
 b2 52 .lss 50 51]
 (.cond (.t 52)
 .skip
 (.exit 0)))
 (.seq
 (.block 1
 (.seq
 (.gp (.reg [ii 56 (.load 5 true false) [.t 3],
 ii 57 (.load 4 true false) [.t 4],
 ii 58 (.load 2 true false) [.t 9],
 ii 59 (.load 9 true false) [.t 10],
 mv 60 12,
 ii 61 (.call 20) [.t 56,.t 57,.t 58,.t 59,.t 60],
 mv 55 61,
 ii 62 (.ext 0) [.t 55],
 ii 63 (.ext 1) [.t 55],
 ⟨some 13,none,.alloc 4 9 [Z0,Z0,Z0,Z0,Z0,Z0,Z0,Z0,Z0],[]⟩,
 ⟨none,none,.store 9,[.t 13,.t 62]⟩,
 mt 14 63]) (.lay 4 9))
 (.seq
 (.sr [fa 64 3 13,
 ld 65 64,
 mv 66 12,
 b1 67 .add 66 (.int .i64 1),
 b2 68 .neq 65 67,
 mv 69 68,
 gf 70 69 (.mov false) [.t 14],
 gf 71 69 (.bin .eql) [.t 70,cI 2],
 gf 72 69 (.mov false) [.t 12],
 gf 73 69 (.bin .add) [.t 72,cI 1],
 gf 74 69 (.mov false) [.t 2],
 gf 75 69 (.bin .eql) [.t 73,.t 74],
 gf 76 69 (.eqb true) [.t 71,.t 75],
 ii 77 .pick [.t 69,.c (.p (.bool true)),.t 76],
 mv 78 77,
 gf 79 78 (.mov false) [.t 14],
 gf 80 78 (.bin .eql) [.t 79,cI 4],
 ii 81 .pick [.t 78,.c (.p (.bool true)),.t 80],
 mv 82 81,
 gf 83 82 (.mov false) [.t 14],
 gf 84 82 (.bin .eql) [.t 83,cI 5],
 ii 85 .pick [.t 82,.c (.p (.bool true)),.t 84]]
 (.cond (.t 85)
 (.sr [mc 6 (.bool false)]
 .ret)
 .skip))
 (.seq
 (.sr [mv 86 14,
 b1 87 .eql 86 (.int .i64 3)]
 (.cond (.t 87)
 (.sr [mv 88 11,
 b1 89 .add 88 (.int .i64 1),
 mt 11 89]
 (.gp (.reg [fa 90 0 13,
 ⟨none,none,.store 1,[.t 90,cI 2]⟩]) (.lay 4 9)))
 .skip))
 (.gp (.reg [ii 91 (.load 9 true false) [.t 13],
 ⟨none,none,.store 9,[.t 10,.t 91]⟩]) (.lay 3 9))))))
 (.reg [mv 53 12,
 b1 54 .add 53 (.int .i64 1),
 mt 12 54]))))))
 (.sr [mc 15 (.int .i64 0)]
 (.seq
 (.sr [mc 16 (.int .i64 0)]
 (.block 2
 (.loop [0,1,3,6,7,8,9,12,13,14,17,18,19,20,21,22,23,24,25,26,27,28,29,30,31,32,33,34,35,36,37,38,39,40,41,42,43,44,45,46,47,48,49,50,51,52,53,54,55,56,57,58,59,60,61,62,63,64,65,66,67,68,69,70,71,72,73,74,75,76,77,78,79,80,81,82,83,84,85,86,87,88,89,90,91,92,93,94,95,96,97,98,99,100,101,102,103,104,105,106,107,108,109,110,111,112,113,114,115,116,117,118,119,120,121,122,123,124,125,126,127,128,129,130,131] []
 (.seq
 (.sr [mv 92 16,
 fa 93 3 4,
 ld 94 93,
 ii 95 .len [.t 94],
 b2 96 .lss 92 95]
 (.cond (.t 96)
 .skip
 (.exit 2)))
 (.seq
 (.block 3
 (.sr [fa 99 3 4,
 ld 100 99,
 mv 101 16,
 ii 102 (.iad 3) [.t 100,.t 101],
 fa 103 1 102,
 ld 104 103,
 mv 105 2,
 b2 106 .lss 104 105]
 (.cond (.t 106)
 (.reg [mv 107 15,
 b1 108 .add 107 (.int .i64 1),
 mt 15 108])
 .skip)))
 (.reg [mv 97 16,
 b1 98 .add 97 (.int .i64 1),
 mt 16 98]))))))
 (.sr [mv 109 11,
 mv 110 15,
 b2 111 .eql 109 110,
 mv 112 111,
 gt 113 112 (.fad 0) [.t 10],
 gt 114 112 (.load 1 false false) [.t 113],
 gt 115 112 (.bin .eql) [.t 114,cI 4],
 ii 116 .pick [.t 112,.t 115,.c (.p (.bool false))],
 mv 117 116,
 gt 118 117 (.fad 8) [.t 10],
 gt 119 117 (.load 1 false false) [.t 118],
 gt 120 117 (.mov false) [.t 2],
 gt 121 117 (.bin .eql) [.t 119,.t 120],
 ii 122 .pick [.t 117,.t 121,.c (.p (.bool false))],
 mv 123 122,
 gt 124 123 (.fad 5) [.t 10],
 gt 125 123 (.load 1 false false) [.t 124],
 gt 126 123 (.fad 0) [.t 4],
 gt 127 123 (.load 1 false false) [.t 126],
 gt 128 123 (.mov false) [.t 2],
 gt 129 123 (.bin .sub) [.t 127,.t 128],
 gt 130 123 (.bin .eql) [.t 125,.t 129],
 ii 131 .pick [.t 123,.t 130,.c (.p (.bool false))],
 mt 6 131]
 .ret)))))))))))))⟩
theorem k6:aC Tryz.prog 6 F6=true:=by kernel_rfl
def F3:Fn:=⟨212,8,[.tmp 12],
 (.sr [ii 6 (.box 0 5) [.t 0],
 ii 8 (.box 1 4) [.t 2],
 mc 12 (.bool false)]
 (.sr [ii 25 (.call 15) [],
 mt 13 25]
 (.seq
 (.sr [mv 26 13,
 ii 27 (.un .not) [.t 26]]
 (.cond (.t 27)
 (.sr [mc 12 (.bool false)]
 .ret)
 .skip))
 (.seq
 (.gp (.reg [ii 28 (.load 5 true false) [.t 6],
 ii 29 (.call 16) [.t 28],
 ⟨none,none,.store 5,[.t 6,.t 29]⟩]) (.lay 0 5))
 (.seq
 (.gp (.reg [ii 31 (.load 5 true false) [.t 6],
 ii 32 (.load 4 true false) [.t 8],
 ii 33 (.call 17) [.t 31,.t 32],
 mv 30 33,
 ii 34 (.ext 0) [.t 30],
 ii 35 (.ext 1) [.t 30],
 ⟨none,none,.store 4,[.t 8,.t 34]⟩,
 mt 14 35]) (.lay 1 4))
 (.seq
 (.sr [mv 36 14,
 ii 37 (.un .not) [.t 36],
 mv 38 37,
 gf 39 38 (.mov false) [.t 4],
 gf 40 38 (.bin .lss) [.t 39,cI 0],
 ii 41 .pick [.t 38,.c (.p (.bool true)),.t 40],
 mv 42 41,
 gf 43 42 (.mov false) [.t 4],
 gf 44 42 (.bin .gtr) [.t 43,cI 1073741824],
 ii 45 .pick [.t 42,.c (.p (.bool true)),.t 44],
 mv 46 45,
 gf 47 46 (.mov false) [.t 5],
 gf 48 46 (.bin .lss) [.t 47,cI 1],
 ii 49 .pick [.t 46,.c (.p (.bool true)),.t 48],
 mv 50 49,
 gf 51 50 (.mov false) [.t 5],
 gf 52 50 (.bin .gtr) [.t 51,cI 300],
 ii 53 .pick [.t 50,.c (.p (.bool true)),.t 52]]
 (.cond (.t 53)
 (.sr [mc 12 (.bool true)]
 .ret)
 .skip))
 (.seq
 (.gp (.reg [ii 55 (.load 5 true false) [.t 6],
 mv 56 1,
 ii 57 (.load 4 true false) [.t 8],
 mv 58 3,
 ii 59 (.call 18) [.t 55,.t 56,.t 57,.t 58],
 mv 54 59,
 ii 60 (.ext 0) [.t 54],
 ii 61 (.ext 1) [.t 54],
 ⟨some 15,none,.alloc 2 2 [Z0,.ow 4 true []],[]⟩,
 ⟨none,none,.store 2,[.t 15,.t 60]⟩,
 mt 14 61]) (.lay 2 2))
 (.seq
 (.sr [mv 62 14,
 ii 63 (.un .not) [.t 62],
 mv 64 63,
 gf 65 64 (.fad 1) [.t 15],
 gf 66 64 (.load 1 false false) [.t 65],
 gf 67 64 .len [.t 66],
 gf 68 64 (.bin .eql) [.t 67,cI 0],
 ii 69 .pick [.t 64,.c (.p (.bool true)),.t 68]]
 (.cond (.t 69)
 (.sr [mc 12 (.bool false)]
 .ret)
 .skip))
 (.seq
 (.gp (.reg [ii 70 (.load 2 true false) [.t 15],
 mv 71 4,
 mv 72 5,
 ii 73 (.call 19) [.t 70,.t 71,.t 72],
 ⟨some 16,none,.alloc 3 9 [Z0,Z0,Z0,Z0,Z0,Z0,Z0,Z0,Z0],[]⟩,
 ⟨none,none,.store 9,[.t 16,.t 73]⟩]) (.lay 3 9))
 (.seq
 (.gp (.reg [mv 74 4,
 mv 75 5,
 fa 76 1 15,
 ld 77 76,
 ii 78 (.iad 4) [.t 77,cI 0],
 fa 79 3 78,
 ld 80 79,
 ⟨some 81,none,.build [.int .i64 0,.int .i64 0,.int .i64 0,.int .i64 0,.int .i64 0,.int .i64 0,.int .i64 0,.int .i64 0,.int .i64 0] [(0,1),(1,1),(2,1),(5,1)],[cI 2,.t 74,.t 75,.t 80]⟩,
 ⟨some 17,none,.alloc 4 9 [Z0,Z0,Z0,Z0,Z0,Z0,Z0,Z0,Z0],[]⟩,
 ⟨none,none,.store 9,[.t 17,.t 81]⟩]) (.lay 4 9))
 (.seq
 (.sr [ii 82 (.load 9 true false) [.t 16],
 ii 83 (.load 9 true false) [.t 17],
 ii 84 (.eqs 9 true) [.t 82,.t 83]]
 (.cond (.t 84)
 (.sr [mc 12 (.bool false)]
 .ret)
 .skip))
 (.seq
 (.sr [mv 85 4,
 mt 18 85]
 (.block 0
 (.loop [0,1,2,3,12,13,14,17,19,20,21,22,23,24,25,26,27,28,29,30,31,32,33,34,35,36,37,38,39,40,41,42,43,44,45,46,47,48,49,50,51,52,53,54,55,56,57,58,59,60,61,62,63,64,65,66,67,68,69,70,71,72,73,74,75,76,77,78,79,80,81,82,83,84,85,86,87,88,89,90,91,92,93,94,95,96,97,98,99,100,101,102,103,104,105,106,107,108,109,110,111,112,113,114,115,116,117,118,119,120,121,122,123,124,125,126,127,128,129,130,131,132,133,134,135,136,137,138,139,140,141,142,143,144,145,146,147,148,149,150,151,152,153,154,155,156,157,158,159,160,161,162,163,164,165,166,167,168,169,170,171,172,173,174,175,176,177,178,179,180,181,182,183,184,185,186,187,188,189,190,191,192,193,194,195,196,197,198,199,200,201,202,203,204,205,206,207,208,209,210,211] [5,6,7]
 (.seq
 (.sr [mv 86 18,
 mv 87 4,
 b1 88 .add 87 (.int .i64 500),
 b2 89 .lss 86 88]
 (.cond (.t 89)
 .skip
 (.exit 0)))
 (.seq
 (.block 1
 (.seq
 (.gp (.reg [ii 93 (.load 5 true false) [.t 6],
 ii 94 (.load 4 true false) [.t 8],
 ii 95 (.load 2 true false) [.t 15],
 ii 96 (.load 9 true false) [.t 16],
 mv 97 18,
 ii 98 (.call 20) [.t 93,.t 94,.t 95,.t 96,.t 97],
 mv 92 98,
 ii 99 (.ext 0) [.t 92],
 ii 100 (.ext 1) [.t 92],
 ⟨some 19,none,.alloc 5 9 [Z0,Z0,Z0,Z0,Z0,Z0,Z0,Z0,Z0],[]⟩,
 ⟨none,none,.store 9,[.t 19,.t 99]⟩,
 mt 20 100]) (.lay 5 9))
 (.seq
 (.gp (.reg [ii 102 (.load 5 true false) [.t 6],
 ii 103 (.load 4 true false) [.t 8],
 ii 104 (.load 2 true false) [.t 15],
 ii 105 (.load 9 true false) [.t 16],
 mv 106 18,
 ii 107 (.call 21) [.t 102,.t 103,.t 104,.t 105,.t 106],
 mv 101 107,
 ii 108 (.ext 0) [.t 101],
 ii 109 (.ext 1) [.t 101],
 ⟨some 21,none,.alloc 6 9 [Z0,Z0,Z0,Z0,Z0,Z0,Z0,Z0,Z0],[]⟩,
 ⟨none,none,.store 9,[.t 21,.t 108]⟩,
 mt 22 109]) (.lay 6 9))
 (.seq
 (.seq
 (.regd [ii 110 (.at 5 (.load 9 true false)) [.t 19],
 ii 111 (.at 6 (.load 9 true false)) [.t 21],
 ii 112 (.eqs 9 true) [.t 110,.t 111],
 mv 113 112,
 gf 114 113 (.mov false) [.t 20],
 gf 115 113 (.mov false) [.t 22],
 gf 116 113 (.bin .neq) [.t 114,.t 115],
 ii 117 .pick [.t 113,.c (.p (.bool true)),.t 116],
 mv 118 117,
 gf 119 118 (.at 5 (.load 9 true false)) [.t 19],
 gf 120 118 (.pl (.call 22)) [.t 119],
 gf 121 118 (.at 5 (.load 9 true false)) [.t 19],
 gf 122 118 (.pl (.call 23)) [.t 121],
 gf 123 118 (.eqb true) [.t 120,.t 122],
 ii 124 .pick [.t 118,.c (.p (.bool true)),.t 123]])
 (.cond (.t 124)
 (.sr [mc 12 (.bool false)]
 .ret)
 .skip))
 (.seq
 (.seq
 (.regd [ii 125 (.at 5 (.load 9 true false)) [.t 19],
 ii 126 (.pl (.call 22)) [.t 125],
 mv 127 126,
 gt 128 127 (.at 2 (.load 2 true false)) [.t 15],
 gt 129 127 (.at 5 (.load 9 true false)) [.t 19],
 gt 130 127 (.pl (.call 24)) [.t 128,.t 129],
 gt 131 127 (.mov false) [.t 4],
 gt 132 127 (.fad 1) [.t 15],
 gt 133 127 (.at 2 (.load 1 false false)) [.t 132],
 gt 134 127 (.fad 4) [.t 19],
 gt 135 127 (.at 5 (.load 1 false false)) [.t 134],
 gt 136 127 (.iad 4) [.t 133,.t 135],
 gt 137 127 (.fad 1) [.t 136],
 gt 138 127 (.loadp 1 false) [.t 137],
 gt 139 127 (.bin .add) [.t 131,.t 138],
 gt 140 127 (.bin .neq) [.t 130,.t 139],
 gt 141 127 (.mov false) [.t 140],
 gf 142 141 (.at 2 (.load 2 true false)) [.t 15],
 gf 143 141 (.at 5 (.load 9 true false)) [.t 19],
 gf 144 141 (.pl (.call 25)) [.t 142,.t 143],
 gf 145 141 (.at 2 (.load 2 true false)) [.t 15],
 gf 146 141 (.fad 4) [.t 19],
 gf 147 141 (.at 5 (.load 1 false false)) [.t 146],
 gf 148 141 (.mov false) [.t 4],
 gf 149 141 (.pl (.call 26)) [.t 145,.t 147,.t 148],
 gf 150 141 (.bin .neq) [.t 144,.t 149],
 gt 151 127 .pick [.t 141,.c (.p (.bool true)),.t 150],
 ii 152 .pick [.t 127,.t 151,.c (.p (.bool false))]])
 (.cond (.t 152)
 (.sr [mc 12 (.bool false)]
 .ret)
 .skip))
 (.seq
 (.gp (.reg [ii 153 (.load 9 true false) [.t 19],
 ⟨none,none,.store 9,[.t 16,.t 153]⟩]) (.lay 3 9))
 (.sr [mv 154 20]
 (.block 2
 (.sr [b1 156 .eql 154 (.int .i64 2),
 mt 155 156]
 (.cond (.t 155)
 (.sr [fa 157 3 19,
 ld 158 157,
 mv 159 5,
 b2 160 .eql 158 159,
 mv 161 160,
 gt 162 161 (.mov false) [.t 5],
 gt 163 161 (.fad 0) [.t 8],
 gt 164 161 (.load 1 false false) [.t 163],
 gt 165 161 (.bin .leq) [.t 162,.t 164],
 ii 166 .pick [.t 161,.t 165,.c (.p (.bool false))],
 mv 167 166,
 gt 168 167 (.fad 8) [.t 19],
 gt 169 167 (.load 1 false false) [.t 168],
 gt 170 167 (.mov false) [.t 18],
 gt 171 167 (.bin .add) [.t 170,cI 1],
 gt 172 167 (.bin .eql) [.t 169,.t 171],
 ii 173 .pick [.t 167,.t 172,.c (.p (.bool false))],
 mt 12 173]
 .ret)
 (.sr [b1 175 .eql 154 (.int .i64 5),
 mt 174 175]
 (.cond (.t 174)
 (.sr [fa 176 3 19,
 ld 177 176,
 fa 178 0 8,
 ld 179 178,
 b2 180 .eql 177 179,
 mv 181 180,
 gt 182 181 (.mov false) [.t 5],
 gt 183 181 (.fad 0) [.t 8],
 gt 184 181 (.load 1 false false) [.t 183],
 gt 185 181 (.bin .gtr) [.t 182,.t 184],
 ii 186 .pick [.t 181,.t 185,.c (.p (.bool false))],
 mv 187 186,
 gt 188 187 (.fad 5) [.t 19],
 gt 189 187 (.load 1 false false) [.t 188],
 gt 190 187 (.bin .eql) [.t 189,cI 0],
 ii 191 .pick [.t 187,.t 190,.c (.p (.bool false))],
 mt 12 191]
 .ret)
 (.seq
 (.sr [b1 193 .eql 154 (.int .i64 3),
 mt 192 193]
 (.cond (.t 192)
 .skip
 (.reg [b1 194 .eql 154 (.int .i64 4),
 mt 192 194])))
 (.cond (.t 192)
 (.seq
 (.seq
 (.gp (.reg [ii 196 (.load 5 true false) [.t 6],
 ii 197 (.load 4 true false) [.t 8],
 ii 198 (.load 2 true false) [.t 15],
 ii 199 (.load 9 true false) [.t 16],
 mv 200 18,
 ii 201 (.call 20) [.t 196,.t 197,.t 198,.t 199,.t 200],
 mv 195 201,
 ii 202 (.ext 0) [.t 195],
 ii 203 (.ext 1) [.t 195],
 ⟨some 23,none,.alloc 7 9 [Z0,Z0,Z0,Z0,Z0,Z0,Z0,Z0,Z0],[]⟩,
 ⟨none,none,.store 9,[.t 23,.t 202]⟩,
 mt 24 203]) (.lay 7 9))
 (.sr [mv 204 24,
 b1 205 .neq 204 (.int .i64 0),
 mv 206 205,
 gf 207 206 (.load 9 true false) [.t 23],
 gf 208 206 (.load 9 true false) [.t 16],
 gf 209 206 (.eqs 9 true) [.t 207,.t 208],
 ii 210 .pick [.t 206,.c (.p (.bool true)),.t 209]]
 (.cond (.t 210)
 (.sr [mc 12 (.bool false)]
 .ret)
 .skip)))
 (.gp (.reg [fa 211 0 16,
 ⟨none,none,.store 1,[.t 211,cI 2]⟩]) (.lay 3 9)))
 .skip))))))))))))))
 (.reg [mv 90 18,
 b1 91 .add 90 (.int .i64 1),
 mt 18 91]))))))
 (.sr [mc 12 (.bool false)]
 .ret)))))))))))))⟩
theorem k3:aC Tryz.prog 3 F3=true:=by kernel_rfl
def F7:Fn:=⟨179,5,[.tmp 6],
 (.sr [mc 6 (.bool false)]
 (.sr [ii 22 (.call 15) [],
 mt 7 22]
 (.seq
 (.sr [mv 23 7,
 ii 24 (.un .not) [.t 23]]
 (.cond (.t 24)
 (.sr [mc 6 (.bool false)]
 .ret)
 .skip))
 (.sr [mv 25 1,
 b1 26 .and 25 (.int .i64 3),
 mt 1 26]
 (.seq
 (.gp (.reg [mv 27 1,
 ⟨some 28,none,.build [.int .i64 0,.int .i64 0,.int .i64 0,.int .i64 0,.sl 1 true []] [(0,1),(3,1)],[cI 6,.t 27]⟩,
 ⟨some 8,none,.alloc 0 5 [Z0,Z0,Z0,Z0,.ow 1 true []],[]⟩,
 ⟨none,none,.store 5,[.t 8,.t 28]⟩]) (.lay 0 5))
 (.seq
 (.gp (.reg [⟨some 29,none,.build [.int .i64 0,.sl 4 true []] [(0,1)],[cI 2]⟩,
 ⟨some 9,none,.alloc 1 2 [Z0,.ow 4 true []],[]⟩,
 ⟨none,none,.store 2,[.t 9,.t 29]⟩]) (.lay 1 2))
 (.sr [mc 10 (.int .i64 0),
 mc 11 (.int .i64 0)]
 (.seq
 (.sr [mc 12 (.int .i64 0)]
 (.block 0
 (.loop [6,7,13,14,15,16,17,18,19,20,21,22,23,24,25,26,27,28,29,30,31,32,33,34,35,36,37,38,39,40,41,42,43,44,45,46,47,48,49,50,51,52,53,54,55,56,57,58,59,60,61,62,63,64,65,66,67,68,69,70,71,72,73,74,75,76,77,78,79,80,81,82,83,84,85,86,87,88,89,90,91,92,93,94,95,96,97,98,99,100,101,102,103,104,105,106,107,108,109,110,111,112,113,114,115,116,117,118,119,120,121,122,123,124,125,126,127,128,129,130,131,132,133,134,135,136,137,138,139,140,141,142,143,144,145,146,147,148,149,150,151,152,153,154,155,156,157,158,159,160,161,162,163,164,165,166,167,168,169,170,171,172,173,174,175,176,177,178] []
 (.seq
 (.sr [mv 30 12,
 mv 31 0,
 ii 32 .len [.t 31],
 b2 33 .lss 30 32,
 mv 34 33,
 gt 35 34 (.mov false) [.t 12],
 gt 36 34 (.bin .lss) [.t 35,cI 5],
 ii 37 .pick [.t 34,.t 36,.c (.p (.bool false))]]
 (.cond (.t 37)
 .skip
 (.exit 0)))
 (.seq
 (.block 1
 (.sr [mv 40 0,
 mv 41 12,
 ii 42 (.iad 1) [.t 40,.t 41],
 ld 43 42,
 b1 44 .and 43 (.int .i64 7),
 ii 45 (.bin .add) [cI 1,.t 44],
 mt 13 45]
 (.sr [mv 46 10,
 mv 47 13,
 b2 48 .add 46 47,
 mt 10 48]
 (.seq
 (.sr [mv 49 12,
 b1 50 .gtr 49 (.int .i64 0)]
 (.cond (.t 50)
 (.reg [mv 51 13,
 mv 52 1,
 b2 53 .add 51 52,
 mt 13 53])
 .skip))
 (.seq
 (.gp (.reg [fa 54 1 9,
 ii 55 (.load 1 false true) [.t 54],
 mv 56 12,
 mv 57 11,
 mv 58 13,
 b1 59 .add 58 (.int .i64 2),
 mv 60 13,
 ⟨some 61,none,.build [.int .i64 0,.int .i64 0,.int .i64 0,.int .i64 0] [(0,1),(1,1),(2,1),(3,1)],[.t 56,.t 57,.t 59,.t 60]⟩,
 ii 62 (.bsl 4 1) [.t 61],
 ii 63 (.app 4 32) [.t 55,.t 62],
 fa 64 1 9,
 ⟨none,none,.store 1,[.t 64,.t 63]⟩]) (.lay 1 2))
 (.reg [mv 65 11,
 mv 66 13,
 b1 67 .add 66 (.int .i64 2),
 b2 68 .add 65 67,
 mt 11 68]))))))
 (.reg [mv 38 12,
 b1 39 .add 38 (.int .i64 1),
 mt 12 39]))))))
 (.sr [mv 69 2,
 b1 70 .and 69 (.int .i64 31),
 ii 71 (.bin .add) [cI 1,.t 70],
 mt 2 71]
 (.seq
 (.sr [fa 72 1 9,
 ld 73 72,
 ii 74 .len [.t 73],
 b1 75 .eql 74 (.int .i64 0)]
 (.cond (.t 75)
 (.sr [⟨some 76,none,.build [.int .i64 0,.int .i64 0,.int .i64 0,.int .i64 0,.int .i64 0,.int .i64 0,.int .i64 0,.int .i64 0,.int .i64 0] [(0,1)],[cI 4]⟩,
 ii 77 (.call 22) [.t 76],
 ii 78 (.un .not) [.t 77],
 mt 6 78]
 .ret)
 .skip))
 (.seq
 (.gp (.reg [mv 79 10,
 mv 80 11,
 ⟨some 81,none,.build [.int .i64 0,.int .i64 0,.int .i64 0,.sl 3 true []] [(0,1),(1,1),(2,1)],[.t 79,.t 80,cI 200]⟩,
 ⟨some 14,none,.alloc 2 4 [Z0,Z0,Z0,.ow 3 true []],[]⟩,
 ⟨none,none,.store 4,[.t 14,.t 81]⟩]) (.lay 2 4))
 (.seq
 (.gp (.reg [ii 82 (.load 2 true false) [.t 9],
 mv 83 2,
 ii 84 (.call 19) [.t 82,cI 0,.t 83],
 ⟨some 15,none,.alloc 3 9 [Z0,Z0,Z0,Z0,Z0,Z0,Z0,Z0,Z0],[]⟩,
 ⟨none,none,.store 9,[.t 15,.t 84]⟩]) (.lay 3 9))
 (.sr [mc 16 (.int .i64 0),
 mc 17 (.int .i64 0)]
 (.seq
 (.sr [mc 18 (.int .i64 0)]
 (.block 2
 (.loop [0,6,7,11,12,13,19,20,21,22,23,24,25,26,27,28,29,30,31,32,33,34,35,36,37,38,39,40,41,42,43,44,45,46,47,48,49,50,51,52,53,54,55,56,57,58,59,60,61,62,63,64,65,66,67,68,69,70,71,72,73,74,75,76,77,78,79,80,81,82,83,84,85,86,87,88,89,90,91,92,93,94,95,96,97,98,99,100,101,102,103,104,105,106,107,108,109,110,111,112,113,114,115,116,117,118,119,120,121,122,123,124,125,126,127,128,129,130,131,132,133,134,135,136,137,138,139,140,141,142,143,144,145,146,147,148,149,150,151,152,153,154,155,156,157,158,159,160,161,162,163,164,165,166,167,168,169,170,171,172,173,174,175,176,177,178] [4]
 (.seq
 (.sr [mv 85 18,
 b1 86 .lss 85 (.int .i64 100)]
 (.cond (.t 86)
 .skip
 (.exit 2)))
 (.seq
 (.block 3
 (.seq
 (.gp (.reg [ii 90 (.load 5 true false) [.t 8],
 ii 91 (.load 4 true false) [.t 14],
 ii 92 (.load 2 true false) [.t 9],
 ii 93 (.load 9 true false) [.t 15],
 mv 94 18,
 ii 95 (.call 20) [.t 90,.t 91,.t 92,.t 93,.t 94],
 mv 89 95,
 ii 96 (.ext 0) [.t 89],
 ii 97 (.ext 1) [.t 89],
 ⟨some 19,none,.alloc 4 9 [Z0,Z0,Z0,Z0,Z0,Z0,Z0,Z0,Z0],[]⟩,
 ⟨none,none,.store 9,[.t 19,.t 96]⟩,
 mt 20 97]) (.lay 4 9))
 (.sr [mv 98 16,
 b1 99 .add 98 (.int .i64 1),
 mt 16 99]
 (.seq
 (.sr [mv 100 20,
 b1 101 .eql 100 (.int .i64 4)]
 (.cond (.t 101)
 (.seq
 (.seq
 (.regd [fa 102 5 15,
 ii 103 (.at 3 (.load 1 false false)) [.t 102],
 b1 104 .neq 103 (.int .i64 1),
 mv 105 104,
 gf 106 105 (.fad 4) [.t 19],
 gf 107 105 (.at 4 (.load 1 false false)) [.t 106],
 gf 108 105 (.fad 4) [.t 15],
 gf 109 105 (.at 3 (.load 1 false false)) [.t 108],
 gf 110 105 (.bin .add) [.t 109,cI 1],
 gf 111 105 (.bin .neq) [.t 107,.t 110],
 ii 112 .pick [.t 105,.c (.p (.bool true)),.t 111],
 mv 113 112,
 gf 114 113 (.fad 4) [.t 19],
 gf 115 113 (.at 4 (.load 1 false false)) [.t 114],
 gf 116 113 (.bin .lss) [.t 115,cI 0],
 ii 117 .pick [.t 113,.c (.p (.bool true)),.t 116],
 mv 118 117,
 gf 119 118 (.fad 4) [.t 19],
 gf 120 118 (.at 4 (.load 1 false false)) [.t 119],
 gf 121 118 (.fad 1) [.t 9],
 gf 122 118 (.at 1 (.load 1 false false)) [.t 121],
 gf 123 118 .lenD [.t 122],
 gf 124 118 (.bin .geq) [.t 120,.t 123],
 ii 125 .pick [.t 118,.c (.p (.bool true)),.t 124],
 mv 126 125,
 gf 127 126 (.fad 6) [.t 19],
 gf 128 126 (.at 4 (.load 1 false false)) [.t 127],
 gf 129 126 (.mov false) [.t 1],
 gf 130 126 (.bin .neq) [.t 128,.t 129],
 ii 131 .pick [.t 126,.c (.p (.bool true)),.t 130],
 mv 132 131,
 gf 133 132 (.fad 5) [.t 19],
 gf 134 132 (.at 4 (.load 1 false false)) [.t 133],
 gf 135 132 (.fad 1) [.t 9],
 gf 136 132 (.at 1 (.load 1 false false)) [.t 135],
 gf 137 132 (.fad 4) [.t 19],
 gf 138 132 (.at 4 (.load 1 false false)) [.t 137],
 gf 139 132 (.iad 4) [.t 136,.t 138],
 gf 140 132 (.fad 3) [.t 139],
 gf 141 132 (.loadp 1 false) [.t 140],
 gf 142 132 (.bin .neq) [.t 134,.t 141],
 ii 143 .pick [.t 132,.c (.p (.bool true)),.t 142]])
 (.cond (.t 143)
 (.sr [mc 6 (.bool false)]
 .ret)
 .skip))
 (.sr [mv 144 17,
 b1 145 .add 144 (.int .i64 1),
 mt 17 145]
 (.gp (.reg [fa 146 0 19,
 ⟨none,none,.store 1,[.t 146,cI 2]⟩]) (.lay 4 9))))
 .skip))
 (.seq
 (.gp (.reg [ii 147 (.load 9 true false) [.t 19],
 ⟨none,none,.store 9,[.t 15,.t 147]⟩]) (.lay 3 9))
 (.sr [mv 148 20,
 b1 149 .eql 148 (.int .i64 2),
 mv 150 149,
 gf 151 150 (.mov false) [.t 20],
 gf 152 150 (.bin .eql) [.t 151,cI 5],
 ii 153 .pick [.t 150,.c (.p (.bool true)),.t 152]]
 (.cond (.t 153)
 (.exit 2)
 .skip)))))))
 (.reg [mv 87 18,
 b1 88 .add 87 (.int .i64 1),
 mt 18 88]))))))
 (.sr [mv 154 2,
 mv 155 10,
 ii 156 .mn [.t 154,.t 155],
 mt 21 156]
 (.sr [fa 157 3 15,
 ld 158 157,
 mv 159 21,
 b2 160 .eql 158 159,
 mv 161 160,
 gt 162 161 (.fad 0) [.t 15],
 gt 163 161 (.load 1 false false) [.t 162],
 gt 164 161 (.bin .eql) [.t 163,cI 4],
 gt 165 161 (.mov false) [.t 2],
 gt 166 161 (.mov false) [.t 10],
 gt 167 161 (.bin .leq) [.t 165,.t 166],
 gt 168 161 (.eqb false) [.t 164,.t 167],
 ii 169 .pick [.t 161,.t 168,.c (.p (.bool false))],
 mv 170 169,
 gt 171 170 (.mov false) [.t 16],
 gt 172 170 (.mov false) [.t 21],
 gt 173 170 (.mov false) [.t 17],
 gt 174 170 (.mov false) [.t 1],
 gt 175 170 (.bin .mul) [.t 173,.t 174],
 gt 176 170 (.bin .add) [.t 172,.t 175],
 gt 177 170 (.bin .eql) [.t 171,.t 176],
 ii 178 .pick [.t 170,.t 177,.c (.p (.bool false))],
 mt 6 178]
 .ret))))))))))))))))⟩
theorem k7:aC Tryz.prog 7 F7=true:=by kernel_rfl
open Go.RowKit Ma
structure Jb where
 st:Int
 rel:Int
 want:Int
 don:Int
 pc:Int
 left:Int
 ov:Int
 sec:Int
 fin:Int
def eJ(j:Jb):PV:=.agg [.int .i64 j.st,.int .i64 j.rel,.int .i64 j.want,.int .i64 j.don,.int .i64 j.pc,.int .i64 j.left,.int .i64 j.ov,.int .i64 j.sec,.int .i64 j.fin]
def bU(ps:List Pc)(j:Jb):Bool:=decide (j.pc≥0)&&decide (j.pc<(ps.length:Int))
theorem mB(k:Int)(nl:Bool)(ps:List Pc)(j:Jb):aB Tryz.prog 53 [AA k nl ps,eJ j] (.p (.bool (bU ps j))):=by
 have e:bU ps j=(decide (j.pc≥0)&&decide (j.pc<((ps.map eP).length:Int))):=by simp[bU]
 rw[e];refine Fn.run YN rfl ?_;generalize Tryz.prog=P at *
 (repeat'((conv=>whnf);first|exact trivial|(with_reducible first|refine zX ?_|refine zP ?_|refine zL ?_)|refine⟨rfl,?_⟩|refine⟨_,rfl,?_⟩|refine⟨fun _=>?_,fun _=>?_⟩|refine zn ?_|refine zb rfl ?_|refine zX ?_|refine zo rfl ?_|refine zs ?_|intro _));all_goals(try(conv=>whnf))
 all_goals (refine aO (Bool.eq_iff_iff.2 ?_);simp only[beq_iff_eq,List.length_map,aY,Bool.or_eq_true,Bool.and_eq_false_iff,Bool.or_eq_false_iff,decide_eq_true_eq,decide_eq_false_iff_not,Bool.not_eq_true',Bool.not_eq_false',Bool.false_eq_true,Bool.true_eq_false,Bool.not_true,Bool.not_false,ge_iff_le,gt_iff_lt] at *;first|done|omega|(simp only[false_iff];omega)|(simp only[true_iff];omega)|grind)
theorem tR(j:Jb):aB Tryz.prog 22 [eJ j] (.p (.bool (j.st ==1||(j.st ==2||j.st ==3)))):=by
 refine Fn.run YJ rfl ?_;generalize Tryz.prog=P at *
 (repeat'((conv=>whnf);first|exact trivial|(with_reducible first|refine zX ?_|refine zP ?_|refine zL ?_)|refine⟨rfl,?_⟩|refine⟨_,rfl,?_⟩|refine⟨fun _=>?_,fun _=>?_⟩|refine zn ?_|refine zb rfl ?_|refine zX ?_|refine zo rfl ?_|refine zs ?_|intro _));all_goals(try(conv=>whnf))
 all_goals (refine aO (Bool.eq_iff_iff.2 ?_);simp only[beq_iff_eq,List.length_map,aY,Bool.or_eq_true,Bool.and_eq_false_iff,Bool.or_eq_false_iff,decide_eq_true_eq,decide_eq_false_iff_not,Bool.not_eq_true',Bool.not_eq_false',Bool.false_eq_true,Bool.true_eq_false,Bool.not_true,Bool.not_false,ge_iff_le,gt_iff_lt] at *;first|done|omega|(simp only[false_iff];omega)|(simp only[true_iff];omega)|grind)
open Go.RowKit Go.ChangeShapes Go.WideShapes Go.ChangeAt Ma
theorem ZN:Tryz.prog.underlying 66=some (.slice 2):=by kernel_rfl
theorem zG:Tryz.prog.wantsStandIn 66=false:=by kernel_rfl
theorem IE:DZ Tryz.prog 12 66=true:=by kernel_rfl
theorem ZD:x5 Tryz.prog 66=false:=by kernel_rfl
theorem c2:Tryz.prog.cellsOf 2=1:=by kernel_rfl
theorem JJ{n:Nat}{cs:List PV}(h:RdT Tryz.prog n 66 cs):∃nl,∃l:List Int,cs=[.sl 1 nl (l.map eI)]/\(nl=true->l=[]):=by
 obtain⟨nl,l,rfl,hn⟩:=oU ZN h (f:=eI) fun n' rcs hr=>by
  obtain⟨q,rfl⟩:=d9 u2 hr;rw[s2];exact⟨q,rfl⟩
 exact⟨nl,l,by rw[c2],hn⟩
open Go.RowKit
def T69:Fn:=⟨9,2,[.tmp 2],
 (.sr [mc 2 (.atom (.pointer none))]
 (.seq
 (.gp (.reg [mt 3 0,
 ii 4 .mx [.t 3,cI 0],
 ii 5 .mn [.t 4,cI 1000],
 ⟨some 6,none,.mksl 0 2 16 true [Z0,Z0],[.t 5,.t 5]⟩,
 ⟨some 7,none,.ob (.bldo [.sl 2 true [],.int .i64 0,.int .i64 0] [(0,1)]),[.t 6]⟩,
 ii 8 (.box 1 3) [.t 7],
 mt 2 8]) (.shut (.t 8) 0))
 .ret))⟩
theorem h69:aC Tryz.prog 69 T69=true:=by kernel_rfl
def T71:Fn:=⟨36,2,[.tmp 4],
 (.gh (.lay 2 3) (.sr [ii 3 (.box 0 2) [.t 1],
 mc 4 (.bool false)]
 (.seq
 (.seq
 (.gp (.reg [mv 5 0,
 ii 6 (.ob (.callo 100 false)) [.t 5],
 b1 7 .eql 6 (.int .i64 0)]) (.lay 2 3))
 (.cond (.t 7)
 (.sr [mc 4 (.bool false)]
 .ret)
 .skip))
 (.seq
 (.gh (.opn [mv 8 0,ii 9 .nilchk [.t 8],fa 10 0 9] (.t 10) 1 true) (.gh (.lay 2 3) (.gp (.gp (.gp (.regd [mv 8 0,
 ii 9 .nilchk [.t 8],
 fa 10 0 9,
 ii 11 (.at 2 (.load 1 false false)) [.t 10],
 mv 12 0,
 ii 13 .nilchk [.t 12],
 fa 14 1 13,
 ii 15 (.at 2 (.load 1 false false)) [.t 14],
 mv 16 0,
 ii 17 .nilchk [.t 16],
 fa 18 2 17,
 ii 19 (.at 2 (.load 1 false false)) [.t 18],
 b2 20 .add 15 19,
 mv 21 0,
 ii 22 .nilchk [.t 21],
 fa 23 0 22,
 ii 24 (.at 2 (.load 1 false false)) [.t 23],
 ii 25 .lenD [.t 24],
 b2 26 .rem 20 25,
 ii 27 (.at 0 (.load 2 true false)) [.t 3],
 ii 28 (.iad 2) [.t 11,.t 26],
 ⟨none,none,.at 1 (.store 2),[.t 28,.t 27]⟩]) (.shut (.t 0) 0)) (.forget [11,24,28])) (.lay 2 3))))
 (.seq
 (.gp (.reg [mt 29 0,
 ii 30 .nilchk [.t 29],
 fa 31 2 30,
 ld 32 31,
 b1 33 .add 32 (.int .i64 1),
 ii 34 .nilchk [.t 29],
 fa 35 2 34,
 ⟨none,none,.store 1,[.t 35,.t 33]⟩]) (.lay 2 3))
 (.sr [mc 4 (.bool true)]
 .ret))))))⟩
theorem WP:aC Tryz.prog 71 T71=true:=by kernel_rfl
def T72:Fn:=⟨35,2,[.cell 2 2,.tmp 3],
 (.gh (.lay 2 3) (.sr [⟨some 2,none,.alloc 0 2 [Z0,Z0],[]⟩,
 mc 3 (.bool false)]
 (.seq
 (.gp (.reg [mv 7 0,
 ii 8 (.ob (.callo 99 false)) [.t 7,cI 0],
 mt 6 8,
 ii 9 (.ext 0) [.t 6],
 ii 10 (.ext 1) [.t 6],
 ⟨some 4,none,.alloc 1 2 [Z0,Z0],[]⟩,
 ⟨none,none,.store 2,[.t 4,.t 9]⟩,
 mt 5 10]) (.lay 2 3))
 (.seq
 (.sr [mv 11 5]
 (.cond (.t 11)
 (.seq
 (.gp (.regd [mv 12 0,
 mv 13 0,
 ii 14 .nilchk [.t 13],
 fa 15 1 14,
 ii 16 (.at 2 (.load 1 false false)) [.t 15],
 b1 17 .add 16 (.int .i64 1),
 mv 18 0,
 ii 19 .nilchk [.t 18],
 fa 20 0 19,
 ii 21 (.at 2 (.load 1 false false)) [.t 20],
 ii 22 .lenD [.t 21],
 b2 23 .rem 17 22,
 ii 24 .nilchk [.t 12],
 fa 25 1 24,
 ⟨none,none,.at 2 (.store 1),[.t 25,.t 23]⟩]) (.lay 2 3))
 (.gp (.reg [mt 26 0,
 ii 27 .nilchk [.t 26],
 fa 28 2 27,
 ld 29 28,
 b1 30 .sub 29 (.int .i64 1),
 ii 31 .nilchk [.t 26],
 fa 32 2 31,
 ⟨none,none,.store 1,[.t 32,.t 30]⟩]) (.lay 2 3)))
 .skip))
 (.seq
 (.gp (.reg [ii 33 (.load 2 true false) [.t 4],
 mt 34 5,
 ⟨none,none,.store 2,[.t 2,.t 33]⟩,
 mt 3 34]) (.lay 2 3))
 .ret)))))⟩
theorem WO:aC Tryz.prog 72 T72=true:=by kernel_rfl
def T73:Fn:=⟨9,0,[.tmp 2],
 (.gh (.lay 0 3) (.sr [mc 2 (.int .i64 0)]
 (.seq
 (.sr [mv 3 0,
 ii 4 (.ob (.eqp false)) [.t 3,.c (.p (.atom (.pointer none)))]]
 (.cond (.t 4)
 (.sr [mc 2 (.int .i64 0)]
 .ret)
 .skip))
 (.sr [mt 5 0,
 ii 6 .nilchk [.t 5],
 fa 7 2 6,
 ld 8 7,
 mt 2 8]
 .ret))))⟩
theorem h73:aC Tryz.prog 73 T73=true:=by kernel_rfl
def T99:Fn:=⟨34,3,[.cell 4 2,.tmp 5],
 (.gh (.lay 3 3) (.sr [⟨some 4,none,.alloc 0 2 [Z0,Z0],[]⟩,
 mc 5 (.bool false)]
 (.sr [⟨some 6,none,.alloc 1 2 [Z0,Z0],[]⟩]
 (.seq
 (.seq
 (.gp (.reg [mv 7 1,
 b1 8 .lss 7 (.int .i64 0),
 mt 9 8,
 gf 10 9 (.mov false) [.t 1],
 gf 11 9 (.mov false) [.t 0],
 gf 12 9 (.ob (.callo 73 false)) [.t 11],
 gf 13 9 (.bin .geq) [.t 10,.t 12],
 ii 14 .pick [.t 9,.c (.p (.bool true)),.t 13]]) (.lay 3 3))
 (.cond (.t 14)
 (.seq
 (.gp (.reg [ii 15 (.load 2 true false) [.t 6],
 ⟨none,none,.store 2,[.t 4,.t 15]⟩,
 mc 5 (.bool false)]) (.lay 3 3))
 .ret)
 .skip))
 (.seq
 (.gh (.opn [mv 16 0,ii 17 .nilchk [.t 16],fa 18 0 17] (.t 18) 2 true) (.gh (.lay 3 3) (.gp (.gp (.gp (.regd [mv 16 0,
 ii 17 .nilchk [.t 16],
 fa 18 0 17,
 ii 19 (.at 3 (.load 1 false false)) [.t 18],
 mv 20 0,
 ii 21 .nilchk [.t 20],
 fa 22 1 21,
 ii 23 (.at 3 (.load 1 false false)) [.t 22],
 mt 24 1,
 b2 25 .add 23 24,
 mv 26 0,
 ii 27 .nilchk [.t 26],
 fa 28 0 27,
 ii 29 (.at 3 (.load 1 false false)) [.t 28],
 ii 30 .lenD [.t 29],
 b2 31 .rem 25 30,
 ii 32 (.iad 2) [.t 19,.t 31],
 ii 33 (.at 2 (.load 2 true false)) [.t 32],
 ⟨none,none,.at 0 (.store 2),[.t 4,.t 33]⟩,
 mc 5 (.bool true)]) (.shut (.t 0) 0)) (.forget [19,29,32])) (.lay 3 3))))
 .ret)))))⟩
theorem Y0:aC Tryz.prog 99 T99=true:=by kernel_rfl
def OO:Fn:=⟨15,0,[.tmp 2],
 (.gh (.lay 0 3) (.sr [mc 2 (.int .i64 0)]
 (.seq
 (.sr [mv 3 0,
 ii 4 (.ob (.eqp false)) [.t 3,.c (.p (.atom (.pointer none)))]]
 (.cond (.t 4)
 (.sr [mc 2 (.int .i64 0)]
 .ret)
 .skip))
 (.seq
 (.gp (.regd [mv 5 0,
 ii 6 .nilchk [.t 5],
 fa 7 0 6,
 ii 8 (.at 0 (.load 1 false false)) [.t 7],
 ii 9 .lenD [.t 8],
 mv 10 0,
 ii 11 .nilchk [.t 10],
 fa 12 2 11,
 ii 13 (.at 0 (.load 1 false false)) [.t 12],
 b2 14 .sub 9 13,
 mt 2 14]) (.lay 0 3))
 .ret))))⟩
theorem T4:aC Tryz.prog 100 OO=true:=by kernel_rfl
def T36:Fn:=⟨4,1,[.tmp 0],
 (.sr [mc 0 (.atom (.pointer none))]
 (.seq
 (.gp (.gp (.reg [ii 1 (.ob (.callo 69 true)) [cI 12],
 ⟨some 2,none,.ob (.bldo [.atom (.pointer none),.int .i64 0,.int .i64 0] [(0,1)]),[.t 1]⟩,
 ii 3 (.box 0 3) [.t 2],
 mt 0 3]) (.shut (.t 3) 0)) (.trim 1))
 .ret))⟩
theorem ZH:aC Tryz.prog 36 T36=true:=by kernel_rfl
def T70:Fn:=⟨37,2,[.tmp 4],
 (.gh (.lay 2 3) (.sr [mc 4 (.bool false)]
 (.seq
 (.seq
 (.gp (.gp (.gp (.reg [mv 8 0,
 ii 9 .nilchk [.t 8],
 fa 10 0 9,
 ii 11 (.ob (.ldo 1 false)) [.t 10],
 ii 12 (.ob (.callo 73 false)) [.t 11],
 ii 13 (.mov false) [cI 0]]) (.shut (.t 0) 0)) (.forget [11,20])) (.lay 2 3))
 (.block 0
 (.loop [4,5,6,7,8,9,10,11,14,15,16,17,18,19,20,21,22,23,24,25,26,27,28,29,30,31,32,33,34,35,36] [0]
 (.sr [b2 14 .lss 13 12]
 (.seq
 (.cond (.t 14)
 .skip
 (.exit 0))
 (.seq
 (.block 1
 (.sr [mv 15 13,
 mt 5 15]
 (.seq
 (.gp (.gp (.gp (.reg [mv 17 0,
 ii 18 .nilchk [.t 17],
 fa 19 0 18,
 ii 20 (.ob (.ldo 1 false)) [.t 19],
 mt 21 5,
 ii 22 (.ob (.callo 99 false)) [.t 20,.t 21],
 mt 16 22,
 ii 23 (.ext 0) [.t 16],
 ii 24 (.ext 1) [.t 16],
 ⟨some 6,none,.alloc 0 2 [Z0,Z0],[]⟩,
 ⟨none,none,.store 2,[.t 6,.t 23]⟩,
 mt 7 24]) (.shut (.t 0) 0)) (.forget [11,20])) (.lay 2 3))
 (.sr [fa 25 0 6,
 ld 26 25,
 mv 27 1,
 b2 28 .eql 26 27]
 (.cond (.t 28)
 (.sr [mc 4 (.bool true)]
 .ret)
 .skip)))))
 (.reg [b1 29 .add 13 (.int .i64 1),
 mt 13 29])))))))
 (.sr [mt 30 0,
 ii 31 .nilchk [.t 30],
 fa 32 1 31,
 fa 33 0 32,
 ld 34 33,
 mt 35 1,
 b2 36 .eql 34 35,
 mt 4 36]
 .ret))))⟩
theorem h70:aC Tryz.prog 70 T70=true:=by kernel_rfl
def T37:Fn:=⟨33,1,[.tmp 6],
 (.gh (.lay 1 3) (.sr [mc 6 (.bool false)]
 (.seq
 (.gp (.gp (.gp (.reg [mv 7 0,
 ii 8 (.ob (.eqp true)) [.t 7,.c (.p (.atom (.pointer none)))],
 mt 9 8,
 gt 10 9 (.mov false) [.t 1],
 gt 11 9 (.bin .geq) [.t 10,cI 1],
 ii 12 .pick [.t 9,.t 11,.c (.p (.bool false))],
 mt 13 12,
 gt 14 13 (.mov false) [.t 2],
 gt 15 13 (.bin .geq) [.t 14,cI 1],
 ii 16 .pick [.t 13,.t 15,.c (.p (.bool false))],
 mt 17 16,
 gt 18 17 (.mov false) [.t 0],
 gt 19 17 (.mov false) [.t 1],
 gt 20 17 (.ob (.callo 70 false)) [.t 18,.t 19],
 gt 21 17 (.un .not) [.t 20],
 ii 22 .pick [.t 17,.t 21,.c (.p (.bool false))],
 mt 23 22,
 gt 24 23 (.mov true) [.t 0],
 gt 25 23 .nilchk [.t 24],
 gt 26 23 (.fad 0) [.t 25],
 gt 27 23 (.ob (.ldo 0 false)) [.t 26],
 gt 28 23 (.mov true) [.t 1],
 gt 29 23 (.mov true) [.t 2],
 ⟨some 30,(some (23,true)),.build [.int .i64 0,.int .i64 0] [(0,1),(1,1)],[.t 28,.t 29]⟩,
 gt 31 23 (.ob (.callo 71 false)) [.t 27,.t 30],
 ii 32 .pick [.t 23,.t 31,.c (.p (.bool false))],
 mt 6 32]) (.shut (.t 0) 0)) (.forget [27])) (.lay 1 3))
 .ret)))⟩
theorem K6:aC Tryz.prog 37 T37=true:=by kernel_rfl
def ZI:Fn:=⟨52,1,[.tmp 2,.tmp 3],
 (.gh (.lay 1 3) (.sr [mc 2 (.int .i64 0),
 mc 3 (.bool false)]
 (.seq
 (.sr [mv 5 0,
 ii 6 (.ob (.eqp false)) [.t 5,.c (.p (.atom (.pointer none)))]]
 (.cond (.t 6)
 (.sr [mc 2 (.int .i64 0),
 mc 3 (.bool false)]
 .ret)
 .skip))
 (.seq
 (.sr [mv 7 0,
 ii 8 .nilchk [.t 7],
 fa 9 1 8,
 fa 10 0 9,
 ld 11 10,
 b1 12 .eql 11 (.int .i64 0)]
 (.cond (.t 12)
 (.gp (.gp (.gp (.reg [mv 14 0,
 mv 15 0,
 ii 16 .nilchk [.t 15],
 fa 17 0 16,
 ii 18 (.ob (.ldo 0 false)) [.t 17],
 ii 19 (.ob (.callo 72 false)) [.t 18],
 mt 13 19,
 ii 20 (.ext 0) [.t 13],
 ii 21 (.ext 1) [.t 13],
 ii 22 .nilchk [.t 14],
 fa 23 1 22,
 ⟨none,none,.store 2,[.t 23,.t 20]⟩]) (.shut (.t 0) 0)) (.forget [18])) (.lay 1 3))
 .skip))
 (.sr [mv 24 0,
 ii 25 .nilchk [.t 24],
 fa 26 1 25,
 fa 27 0 26,
 ld 28 27,
 mt 4 28]
 (.seq
 (.sr [mv 29 4,
 b1 30 .eql 29 (.int .i64 0)]
 (.cond (.t 30)
 (.sr [mc 2 (.int .i64 0),
 mc 3 (.bool false)]
 .ret)
 .skip))
 (.seq
 (.gp (.reg [mv 31 0,
 ii 32 .nilchk [.t 31],
 fa 33 1 32,
 fa 34 1 33,
 ld 35 34,
 b1 36 .sub 35 (.int .i64 1),
 ii 37 .nilchk [.t 31],
 fa 38 1 37,
 fa 39 1 38,
 ⟨none,none,.store 1,[.t 39,.t 36]⟩]) (.lay 1 3))
 (.seq
 (.sr [mv 40 0,
 ii 41 .nilchk [.t 40],
 fa 42 1 41,
 fa 43 1 42,
 ld 44 43,
 b1 45 .gtr 44 (.int .i64 0)]
 (.cond (.t 45)
 (.sr [mt 46 4,
 mt 2 46,
 mc 3 (.bool false)]
 .ret)
 .skip))
 (.seq
 (.gp (.reg [mt 47 0,
 ⟨some 48,none,.build [.int .i64 0,.int .i64 0] [],[]⟩,
 ii 49 .nilchk [.t 47],
 fa 50 1 49,
 ⟨none,none,.store 2,[.t 50,.t 48]⟩]) (.lay 1 3))
 (.sr [mt 51 4,
 mt 2 51,
 mc 3 (.bool true)]
 .ret))))))))))⟩
theorem KQ:aC Tryz.prog 38 ZI=true:=by kernel_rfl
def T39:Fn:=⟨10,0,[.tmp 2],
 (.gh (.lay 0 3) (.sr [mc 2 (.int .i64 0)]
 (.seq
 (.sr [mv 3 0,
 ii 4 (.ob (.eqp false)) [.t 3,.c (.p (.atom (.pointer none)))]]
 (.cond (.t 4)
 (.sr [mc 2 (.int .i64 0)]
 .ret)
 .skip))
 (.sr [mt 5 0,
 ii 6 .nilchk [.t 5],
 fa 7 1 6,
 fa 8 0 7,
 ld 9 8,
 mt 2 9]
 .ret))))⟩
theorem h39:aC Tryz.prog 39 T39=true:=by kernel_rfl
def T40:Fn:=⟨10,1,[.tmp 2],
 (.gh (.lay 1 3) (.sr [mc 2 (.int .i64 0)]
 (.seq
 (.sr [mv 3 0,
 ii 4 (.ob (.eqp false)) [.t 3,.c (.p (.atom (.pointer none)))]]
 (.cond (.t 4)
 (.sr [mc 2 (.int .i64 0)]
 .ret)
 .skip))
 (.seq
 (.gp (.gp (.gp (.reg [mt 5 0,
 ii 6 .nilchk [.t 5],
 fa 7 0 6,
 ii 8 (.ob (.ldo 0 false)) [.t 7],
 ii 9 (.ob (.callo 73 false)) [.t 8],
 mt 2 9]) (.shut (.t 0) 0)) (.forget [8])) (.lay 1 3))
 .ret))))⟩
theorem h40:aC Tryz.prog 40 T40=true:=by kernel_rfl
open Go.RowKit
variable {P:Program}
theorem zO{f:FuncId}{args:List DV}{bs:List Box}{G K:List (Option Box)->DV->Prop}{bs':List (Option Box)}{r:DV}(k:K bs' r)(h:aM P f args bs bs' r:=by assumption)
  (g:G bs' r:=by first|exact .inr rfl|exact .inl rfl):∃bs' r,aM P f args bs bs' r/\G bs' r/\K bs' r:=⟨bs',r,h,g,k⟩
theorem SR{a b:Bool}(ha:a=true)(hb:b=true):(a&&b)=true:=by rw[ha,hb];rfl
theorem orR{a b:Bool}(hb:b=true):(a||b)=true:=by rw[hb];cases a<;>rfl
theorem zT{b:Bool}{A:Prop}(k:A)(h:b=true:=by (repeat' first|refine SR ?_ ?_|exact lA _ _|exact lB _ _ _|exact rfl|refine l7 ?_ ?_|refine orR ?_)):testB.match_1 (fun _=>Prop) b (fun _=>A) (fun _=>False):=by subst h;exact k
open Go.RowKit
def cP(l:List PV):List (List Ob):=l.map fun x=>(aE x).map Ob.p
def dR(l:List PV):List (List DV):=l.map fun x=>(aE x).map DV.p
theorem HM(l:List PV):EX (l.map Ob.p)=l.map DV.p:=by
 induction l with
 |nil=>rfl
 |cons x l ih=>simp only[List.map_cons,EX,ih];rfl
theorem iA(l:List PV):eV (cP l)=dR l:=by
 induction l with
 |nil=>rfl
 |cons x l ih=>
  simp only[cP,List.map_cons,eV,HM,dR] at ih ⊢;rw[ih]
theorem nE(l:List PV):(cP l).length=l.length:=by simp[cP]
theorem E6(l:List PV)(i:Nat):(dR l)[i]?=(l[i]?).map fun x=>(aE x).map DV.p:=by simp[dR]
theorem yG{α:Type}(l:List α)(i:Nat)(x : α):aF l i x=l.set i x:=by
 induction l generalizing i with
 |nil=>cases i<;>rfl
 |cons a l ih=>cases i with
  |zero=>rfl
  |succ i=>simp only[aF,List.set_cons_succ,ih]
theorem zR(l:List PV)(i:Nat)(x:PV):aF (dR l) i ((aE x).map DV.p)=dR (l.set i x):=by
 rw[yG];simp[dR,List.map_set]
end Go.Proofs.YtnjphclbpgajpaaGreatDoor.Vc
namespace Go.Proofs.YtnjphclbpgajpaaGreatDoor.Ma
structure Rq where
 task:Int
 left:Int
structure Rg where
 l:List Rq
 first:Nat
 n:Nat
structure Rg.Ok (r:Rg):Prop where
 len:r.l.length=12
 f:r.first<12
 n:r.n<=12
def Rg.el(r:Rg)(i:Nat):Rq:=r.l.getD ((r.first+i)%12) ⟨0,0⟩
def Rg.q(r:Rg):List Rq:=(List.range r.n).map r.el
def Rg.put(r:Rg)(x:Rq):Rg:=⟨r.l.set ((r.first+r.n)%12) x,r.first,r.n+1⟩
def Rg.take(r:Rg):Rg:=⟨r.l,(r.first+1)%12,r.n-1⟩
theorem Rg.q_length(r:Rg):r.q.length=r.n:=by simp[Rg.q]
theorem Rg.q_get(r:Rg){i:Nat}(h:i<r.n):r.q[i]?=some (r.el i):=by simp[Rg.q,h]
theorem Rg.put_ok{r:Rg}{x:Rq}(h:r.Ok)(hn:r.n<12):(r.put x).Ok:=⟨by simp[Rg.put,h.len],h.f,hn⟩
theorem Rg.take_ok{r:Rg}(h:r.Ok):r.take.Ok:=⟨h.len,Nat.mod_lt _ (by omega),Nat.le_trans (Nat.sub_le _ _) h.n⟩
theorem Rg.put_q{r:Rg}{x:Rq}(h:r.Ok)(hn:r.n<12):(r.put x).q=r.q++[x]:=by
 have e1:(r.put x).el r.n=x:=by
  have hl:(r.first+r.n)%12<r.l.length:=by rw[h.len];exact Nat.mod_lt _ (by omega)
  simp[Rg.put,Rg.el,List.getD_eq_getElem?_getD,hl]
 have e2:∀i,i<r.n->(r.put x).el i=r.el i:=fun i hi=>by
  have hf:=h.f;have hne:(r.first+r.n)%12≠(r.first+i)%12:=by omega
  simp only[Rg.put,Rg.el,List.getD_eq_getElem?_getD];rw[List.getElem?_set_ne hne]
 show (List.range (r.n+1)).map (r.put x).el=(List.range r.n).map r.el++[x]
 rw[List.range_succ,List.map_append]
 congr 1
 ·exact List.map_congr_left fun i hi=>e2 i (List.mem_range.1 hi)
 ·simp[e1]
theorem Rg.take_q{r:Rg}(hn:0<r.n):r.q=r.el 0 ::r.take.q:=by
 obtain⟨n,e⟩:∃n,r.n=n+1:=⟨r.n-1,by omega⟩
 have e2:∀i,r.take.el i=r.el (i+1):=fun i=>by
  simp only[Rg.take,Rg.el];rw[show ((r.first+1)%12+i)%12=(r.first+(i+1))%12 by omega]
 show (List.range r.n).map r.el=r.el 0 ::(List.range (r.n-1)).map r.take.el
 rw[e,List.range_succ_eq_map,List.map_cons,List.map_map]
 congr 1
 exact List.map_congr_left fun i _=>(e2 i).symm
theorem Rg.q_nil{r:Rg}(hn:r.n=0):r.q=[]:=by simp[Rg.q,hn]
structure Ag where
 r:Rg
 now:Rq
def Ag.has(a:Ag)(t:Int):Bool:=a.r.q.any (fun x=>x.task ==t)||a.now.task ==t
def Ag.may(a:Ag)(t k:Int):Bool:=decide (t≥1)&&(decide (k≥1)&&(!a.has t&&decide (a.r.n<12)))
def Ag.ask(a:Ag)(t k:Int):Ag:=if a.may t k=true then ⟨a.r.put ⟨t,k⟩,a.now⟩ else a
structure Sv where
 task:Int
 left:Int
 was:Bool
def fresh(x:Rq):Sv:=⟨x.task,x.left,false⟩
structure Ag.Is (a:Ag) (Q:List Sv):Prop where
 ok:a.r.Ok
 one:(a.now.task=0/\a.now.left=0/\Q=a.r.q.map fresh)\/(1<=a.now.task/\(1<=a.now.left/\a.now.left<=1000)/\Q=⟨a.now.task,a.now.left,true⟩ ::a.r.q.map fresh)
 pos:∀x,x∈a.r.q->1<=x.task/\1<=x.left/\x.left<=1000
theorem Ag.Is.has_eq{a:Ag}{Q:List Sv}(h:a.Is Q){t:Int}(ht:1<=t):a.has t=Q.any fun x=>x.task ==t:=by
 unfold Ag.has;rcases h.one with ⟨h1,h2,rfl⟩|⟨h1,h2,rfl⟩
 ·rw[h1,List.any_map,show ((0:Int) ==t)=false by simp;omega,Bool.or_false];rfl
 ·rw[List.any_cons,List.any_map,Bool.or_comm];rfl
theorem Ag.Is.waits{a:Ag}{Q:List Sv}(h:a.Is Q):((Q.filter fun x => !x.was).length:Int)=a.r.n:=by
 have e:∀l:List Rq,((l.map fresh).filter fun x => !x.was)=l.map fresh:=fun l=>List.filter_eq_self.2 fun x hx=>by
  obtain⟨y,_,rfl⟩:=List.mem_map.1 hx;rfl
 rcases h.one with ⟨h1,h2,rfl⟩|⟨h1,h2,rfl⟩
 ·rw[e,List.length_map,Rg.q_length]
 ·rw[List.filter_cons];simp[e,Rg.q_length]
theorem Ag.Is.ask_ok{a:Ag}{Q:List Sv}(h:a.Is Q){t k:Int}(hb:k<=1000)(hm:a.may t k=true):(a.ask t k).Is (Q++[⟨t,k,false⟩]):=by
 unfold Ag.ask;rw[if_pos hm];unfold Ag.may at hm;simp only[aY,decide_eq_true_eq,ge_iff_le] at hm;obtain⟨ht,hk,_,hn⟩:=hm;refine⟨Rg.put_ok h.ok hn,?_,fun x hx=>?_⟩
 ·simp only[Rg.put_q h.ok hn,List.map_append,List.map_cons,List.map_nil]
  rcases h.one with ⟨h1,h2,rfl⟩|⟨h1,h2,rfl⟩
  ·exact .inl ⟨h1,h2,rfl⟩
  ·exact .inr ⟨h1,h2,rfl⟩
 ·simp only[Rg.put_q h.ok hn,List.mem_append,List.mem_singleton] at hx
  rcases hx with hx|rfl
  ·exact h.pos x hx
  ·exact⟨ht,hk,hb⟩
def Ag.turn(a:Ag):Ag:=if a.now.task=0 then (if a.r.n=0 then ⟨a.r,⟨0,0⟩⟩ else ⟨a.r.take,a.r.el 0⟩) else a
def Ag.tick(a:Ag):Ag:=if a.turn.now.task=0 then a.turn else if a.turn.now.left-1>0 then ⟨a.turn.r,⟨a.turn.now.task,a.turn.now.left-1⟩⟩ else ⟨a.turn.r,⟨0,0⟩⟩
def Ag.tells(a:Ag):Int×Bool:=if a.turn.now.task=0 then (0,false) else (a.turn.now.task,decide (¬a.turn.now.left-1>0))
def cB:List Sv->List Sv
 |[]=>[]
 |x ::Q=>if x.left-1=0 then Q else ⟨x.task,x.left-1,true⟩ ::Q
def bW:List Sv->Int×Bool
 |[]=>(0,false)
 |x ::_=>(x.task,decide (x.left-1=0))
theorem Ag.Is.turn_is{a:Ag}{Q:List Sv}(h:a.Is Q):(Q=[]/\a.turn.now=⟨0,0⟩/\a.turn.r=a.r/\a.r.q=[])\/(∃x Q',Q=x ::Q'/\a.turn.now=⟨x.task,x.left⟩/\Q'=a.turn.r.q.map fresh/\1<=x.task/\1<=x.left/\x.left<=1000)/\a.turn.r.Ok/\∀y,y∈a.turn.r.q->y∈a.r.q:=by
 unfold Ag.turn;rcases h.one with ⟨h1,h2,rfl⟩|⟨h1,h2,rfl⟩
 ·rw[if_pos h1]
  by_cases hn:a.r.n=0
  ·rw[if_pos hn]
   refine .inl ⟨by rw[Rg.q_nil hn];rfl,rfl,rfl,Rg.q_nil hn⟩
  ·rw[if_neg hn]
   have e:=Rg.take_q (r:=a.r) (by omega)
   have hp:=h.pos (a.r.el 0) (by rw[e];exact List.mem_cons_self)
   refine .inr ⟨⟨fresh (a.r.el 0),a.r.take.q.map fresh,by rw[e];rfl,rfl,rfl,hp.1,hp.2⟩,Rg.take_ok h.ok,fun y hy=>?_⟩
   rw[e];exact List.mem_cons_of_mem _ hy
 ·rw[if_neg (by omega)]
  exact .inr ⟨⟨_,_,rfl,rfl,rfl,h1,h2⟩,h.ok,fun y hy=>hy⟩
theorem Ag.Is.tick_is{a:Ag}{Q:List Sv}(h:a.Is Q):a.tick.Is (cB Q)/\a.tells=bW Q:=by
 unfold Ag.tick Ag.tells;rcases h.turn_is with ⟨rfl,e,er,eq⟩|⟨⟨x,Q',rfl,e,eq,h1,h2⟩,ho,hy⟩
 ·have e0:a.turn.now.task=0:=by rw[e]
  rw[if_pos e0,if_pos e0];exact⟨⟨er▸h.ok,.inl ⟨e0,by rw[e],by rw[er,eq];rfl⟩,fun x hx=>by rw[er,eq] at hx;exact absurd hx List.not_mem_nil⟩,rfl⟩
 ·have e0:a.turn.now.task=x.task:=by rw[e]
  have e1:a.turn.now.left=x.left:=by rw[e]
  have n0:¬a.turn.now.task=0:=by omega
  rw[if_neg n0,if_neg n0,e0,e1];simp only[cB,bW]
  by_cases hl:x.left-1=0
  ·rw[if_pos hl,if_neg (by omega)]
   exact⟨⟨ho,.inl ⟨rfl,rfl,eq⟩,fun y hm=>h.pos y (hy y hm)⟩,by simp[hl]⟩
  ·rw[if_neg hl,if_pos (by omega)]
   refine⟨⟨ho,.inr ⟨h1,⟨by show 1<=x.left-1;omega,by show x.left-1<=1000;omega⟩,by rw[eq]⟩,fun y hm=>h.pos y (hy y hm)⟩,?_⟩
   have:¬ ¬(x.left-1>0):=by omega
   simp[this,hl];omega
def gZ:List Sv->Int
 |[]=>0
 |x ::_=>if x.was=true then x.task else 0
theorem Ag.Is.serves{a:Ag}{Q:List Sv}(h:a.Is Q):a.now.task=gZ Q:=by
 rcases h.one with ⟨h1,h2,rfl⟩|⟨h1,h2,rfl⟩
 ·rw[h1]
  generalize a.r.q=q
  cases q with
  |nil=>rfl
  |cons x l=>rfl
 ·rfl
def ag0:Ag:=⟨⟨List.replicate 12 ⟨0,0⟩,0,0⟩,⟨0,0⟩⟩
theorem n6:ag0.Is []:=⟨⟨rfl,by decide,by decide⟩,.inl ⟨rfl,rfl,rfl⟩,fun x hx=>absurd hx List.not_mem_nil⟩
def fC(j:Nat):List Int->List Sv
 |[]=>[]
 |k ::ks=>⟨(j:Int)+1,k,false⟩ ::fC (j+1) ks
theorem uG(l:List Int)(k:Int):∀j,fC j (l++[k])=fC j l++[⟨((j+l.length:Nat):Int)+1,k,false⟩]:=by
 induction l with
 |nil=>intro j;rfl
 |cons x l ih=>intro j;simp only[List.cons_append,fC,ih,List.length_cons];rw[show j+1+l.length=j+(l.length+1) by omega]
theorem uH(l:List Int):∀(j:Nat) (t:Int),((j+l.length:Nat):Int)<t->(fC j l).any (fun x=>x.task ==t)=false:=by
 induction l with
 |nil=>intro j t h;rfl
 |cons x l ih=>
  intro j t h;simp only[List.length_cons] at h;simp only[fC,List.any_cons];rw[ih (j+1) t (by omega),Bool.or_false]
  simp;omega
theorem nH(l:List Int):∀j,((fC j l).filter fun x => !x.was).length=l.length:=by
 induction l with
 |nil=>intro j;rfl
 |cons x l ih=>intro j;simp[fC,ih]
def aP:List Int->Int
 |[]=>0
 |k ::ks=>k+aP ks
theorem lC(l:List Int)(k:Int):aP (l++[k])=aP l+k:=by
 induction l with
 |nil=>simp[aP]
 |cons x l ih=>simp only[List.cons_append,aP,ih];omega
def bR(s:Int):List Int->List Int
 |[]=>[]
 |k ::ks=>(s+k) ::bR (s+k) ks
theorem qE(l:List Int)(k:Int):∀s,bR s (l++[k])=bR s l++[s+aP l+k]:=by
 induction l with
 |nil=>intro s;simp[bR,aP]
 |cons x l ih=>intro s;simp only[List.cons_append,bR,ih,aP];rw[show s+x+aP l+k=s+(x+aP l)+k by omega]
theorem kB(l:List Int):∀s,(bR s l).length=l.length:=by
 induction l with
 |nil=>intro s;rfl
 |cons x l ih=>intro s;simp[bR,ih]
theorem pK(pre:List Int)(k:Int)(rest:List Int):∀s,(bR s (pre++k ::rest))[pre.length]?=some (s+aP pre+k):=by
 induction pre with
 |nil=>intro s;simp[bR,aP]
 |cons x l ih=>intro s;simp only[List.cons_append,bR,List.length_cons,List.getElem?_cons_succ,ih,aP];rw[show s+x+aP l+k=s+(x+aP l)+k by omega]
theorem d8(l:List Int)(h:∀x,x∈l->1<=x/\x<=8):(l.length:Int)<=aP l/\aP l<=8*(l.length:Int):=by
 induction l with
 |nil=>simp[aP]
 |cons x l ih=>
  have h1:=h x List.mem_cons_self;have h2:=ih fun y hy=>h y (List.mem_cons_of_mem _ hy)
  simp only[aP,List.length_cons];omega
structure OnQ (ks pre:List Int) (k:Int) (rest:List Int) (e:Int) (Q:List Sv):Prop where
 all:ks=pre++k ::rest
 e0:0<=e
 e1:e<k
 q:Q=⟨(pre.length:Int)+1,k-e,decide (0<e)⟩ ::fC (pre.length+1) rest
theorem OnQ.tells{ks pre rest:List Int}{k e:Int}{Q:List Sv}(h:OnQ ks pre k rest e Q):bW Q=((pre.length:Int)+1,decide (e+1=k)):=by
 rw[h.q];simp only[bW];congr 1;rw[decide_eq_decide];omega
theorem OnQ.on{ks pre rest:List Int}{k e:Int}{Q:List Sv}(h:OnQ ks pre k rest e Q)(he:e+1<k):OnQ ks pre k rest (e+1) (cB Q):=by
 refine⟨h.all,by have:=h.e0;omega,he,?_⟩
 have e0:=h.e0;rw[h.q];simp only[cB];rw[if_neg (by omega),show k-e-1=k-(e+1) by omega,show decide (0<e+1)=true from decide_eq_true (by omega)]
theorem OnQ.nxt{ks pre rest:List Int}{k k2 e:Int}{Q:List Sv}(h:OnQ ks pre k (k2 ::rest) e Q)(he:e+1=k)(h2:1<=k2):OnQ ks (pre++[k]) k2 rest 0 (cB Q):=by
 refine⟨by rw[h.all];simp,Int.le_refl _,by omega,?_⟩
 rw[h.q];simp only[cB];rw[if_pos (by omega)]
 simp[fC]
theorem OnQ.fin{ks pre:List Int}{k e:Int}{Q:List Sv}(h:OnQ ks pre k [] e Q)(he:e+1=k):cB Q=[]:=by
 rw[h.q];simp only[cB];rw[if_pos (by omega)];rfl
theorem pV{k:Int}{ks:List Int}(h:1<=k):OnQ (k ::ks) [] k ks 0 (fC 0 (k ::ks)):=⟨rfl,Int.le_refl _,by omega,by simp[fC]⟩
end Go.Proofs.YtnjphclbpgajpaaGreatDoor.Ma
namespace Go.Proofs.YtnjphclbpgajpaaGreatDoor.Vc
open Go.RowKit Ma
def cG(x:Rq):PV:=.agg [.int .i64 x.task,.int .i64 x.left]
def rOb(r:Rg):Ob:=.sl 2 false (cP (r.l.map cG))
def iY(r:Rg)(old:Bool):Box:=⟨true,3,[[.ob (rOb r),.p (.int .i64 r.first),.p (.int .i64 r.n)]],old⟩
theorem aR(r:Rg)(old:Bool):iY r old=⟨true,3,[[.ob (.sl 2 false (cP (r.l.map cG))),.p (.int .i64 r.first),.p (.int .i64 r.n)]],old⟩:=rfl
theorem T0{bs bs':List (Option Box)}{r r':DV}(h:bs=bs')(h':r=r'):(bs,r)=(bs',r'):=by rw[h,h']
theorem rq_row{l:List Rq}{i:Int}{x:Rq}(h0:0<=i)(h:l[i.toNat]?=some x):(eV (cP (l.map cG)))[0+i.toNat]?=some [.p (.int .i64 x.task),.p (.int .i64 x.left)]:=by
 rw[iA,E6,Nat.zero_add];simp[h,cG,aE]
theorem fG(l:List Rq):(cP (l.map cG)).length=l.length:=by rw[nE];simp
theorem sO(l:List Rq):WX (eV (cP (l.map cG))) (cP (l.map cG)).length (cP (l.map cG)):=⟨jF _,(iI _).symm⟩
theorem E8(l:List Rq)(i:Nat)(x:Rq):aF (eV (cP (l.map cG))) i [.p (.int .i64 x.task),.p (.int .i64 x.left)]=eV (cP ((l.set i x).map cG)):=by
 rw[iA,iA,show [DV.p (.int .i64 x.task),.p (.int .i64 x.left)]=(aE (cG x)).map DV.p from rfl,zR,List.map_set]
theorem mZ(l:List Rq)(i:Nat)(x:Rq):WX (aF (eV (cP (l.map cG))) i [.p (.int .i64 x.task),.p (.int .i64 x.left)]) (cP (l.map cG)).length (cP ((l.set i x).map cG)):=by
 rw[E8];exact⟨jF _,by rw[iI,fG,fG,List.length_set]⟩
theorem zF(r:Rg):aM Tryz.prog 73 [.addr 0 3 0 0] [iY r true] [some (iY r false)] (.p (.int .i64 r.n)):=by
 rw[aR,aR];refine Fn.runO h73 rfl rfl rfl ?_;generalize Tryz.prog=P at *
 (repeat' ((conv=>whnf);first|exact trivial|with_reducible refine zX ?_|refine⟨rfl,?_⟩|refine⟨_,rfl,?_⟩|with_reducible refine zP ?_|with_reducible refine zL ?_|refine⟨fun _=>?_,fun _=>?_⟩|refine zO ?_|refine zn ?_|refine zb rfl ?_|refine zX ?_|refine zo rfl ?_|refine zs ?_|intro _|(with_reducible show testB.match_1 (fun _=>Prop) _ _ _;refine zT ?_)));all_goals (try (conv=>whnf))
 all_goals rfl
theorem BJ(r:Rg)(h:r.Ok):aM Tryz.prog 100 [.addr 0 3 0 0] [iY r true] [some (iY r false)] (.p (.int .i64 (12-r.n))):=by
 have hl:=fG r.l;have hw:IntKind.wrap IntKind.i64 ((12:Nat)-(r.n:Int))=12-r.n:=aJ (by have:=h.n;omega) (by have:=h.n;omega)
 rw[h.len] at hl;rw[aR,aR];refine Fn.runO T4 rfl rfl rfl ?_;generalize Tryz.prog=P at *
 (repeat' ((conv=>whnf);first|exact trivial|with_reducible refine zX ?_|refine⟨rfl,?_⟩|refine⟨_,rfl,?_⟩|with_reducible refine zP ?_|with_reducible refine zL ?_|refine⟨fun _=>?_,fun _=>?_⟩|refine zO ?_|refine zn ?_|refine zb rfl ?_|refine zX ?_|refine zo rfl ?_|refine zs ?_|intro _|(with_reducible show testB.match_1 (fun _=>Prop) _ _ _;refine zT ?_)));all_goals (try (conv=>whnf))
 all_goals (refine T0 rfl (congrArg (fun z=>DV.p (.int .i64 z)) ?_);rw[hl];exact hw)
theorem Y9(r:Rg)(h:r.Ok)(i:Nat)(hi:i<r.n):aM Tryz.prog 99 [.addr 0 3 0 0,.p (.int .i64 i)] [iY r true] [some (iY r false)] (.tup [.p (cG (r.el i)),.p (.bool true)]):=by
 have hl:=fG r.l;rw[h.len] at hl;have hn:=h.n;have hf:=h.f;have hL:=zF r;have hw:IntKind.wrap IntKind.i64 ((r.first:Int)+(i:Int))=((r.first+i:Nat):Int):=by rw[aJ (by omega) (by omega)];omega
 have hix:(IntKind.wrap IntKind.i64 ((r.first:Int)+(i:Int))).tmod ((cP (r.l.map cG)).length:Int)=(((r.first+i)%12:Nat):Int):=by
  rw[hw,hl,Int.tmod_eq_emod_of_nonneg (by omega)];omega
 have hrow:(eV (cP (r.l.map cG)))[0+((IntKind.wrap IntKind.i64 ((r.first:Int)+(i:Int))).tmod ((cP (r.l.map cG)).length:Int)).toNat]?=some [.p (.int .i64 (r.el i).task),.p (.int .i64 (r.el i).left)]:=by
  refine rq_row (by rw[hix];omega) ?_
  rw[hix,Int.toNat_natCast];have:(r.first+i)%12<r.l.length:=by rw[h.len];exact Nat.mod_lt _ (by omega)
  simp[Rg.el,this]
 have h1:((cP (r.l.map cG)).length:Int)≠0:=by rw[hl];decide
 have h2:0<=(IntKind.wrap IntKind.i64 ((r.first:Int)+(i:Int))).tmod ((cP (r.l.map cG)).length:Int):=by rw[hix];omega
 have h3:(IntKind.wrap IntKind.i64 ((r.first:Int)+(i:Int))).tmod ((cP (r.l.map cG)).length:Int)<((cP (r.l.map cG)).length:Int):=by rw[hix,hl];omega
 have hq:=sO r.l;have b1:decide ((i:Int)<0)=false:=decide_eq_false (by omega)
 have b2:decide ((i:Int)≥(r.n:Int))=false:=decide_eq_false (by omega)
 clear hix hw hl hn hf;rw[aR,aR] at *;refine Fn.runO Y0 rfl rfl rfl ?_;generalize Tryz.prog=P at *
 (repeat' ((conv=>whnf);first|exact trivial|with_reducible refine zX ?_|refine⟨rfl,?_⟩|refine⟨_,rfl,?_⟩|with_reducible refine zP ?_|with_reducible refine zL ?_|refine⟨fun _=>?_,fun _=>?_⟩|refine zO ?_|refine zn ?_|refine zb rfl ?_|refine zX ?_|refine zo rfl ?_|refine zs ?_|intro _|(with_reducible show testB.match_1 (fun _=>Prop) _ _ _;refine zT ?_)));all_goals (try (conv=>whnf))
 all_goals first
  |rfl
  |trace_state
theorem QM(r:Rg)(i:Int)(hi:i<0\/(r.n:Int)<=i):aM Tryz.prog 99 [.addr 0 3 0 0,.p (.int .i64 i)] [iY r true] [some (iY r false)] (.tup [.p (cG ⟨0,0⟩),.p (.bool false)]):=by
 have hL:=zF r;have b:decide (i<0)=false->decide (i≥(r.n:Int))=false->False:=fun h1 h2=>by simp only[decide_eq_false_iff_not] at *;omega
 rw[aR,aR] at *;refine Fn.runO Y0 rfl rfl rfl ?_;generalize Tryz.prog=P at *
 (repeat' ((conv=>whnf);first|exact trivial|with_reducible refine zX ?_|refine⟨rfl,?_⟩|refine⟨_,rfl,?_⟩|with_reducible refine zP ?_|with_reducible refine zL ?_|refine⟨fun _=>?_,fun _=>?_⟩|refine zO ?_|refine zn ?_|refine zb rfl ?_|refine zX ?_|refine zo rfl ?_|refine zs ?_|intro _|(with_reducible show testB.match_1 (fun _=>Prop) _ _ _;refine zT ?_)));all_goals (try (conv=>whnf))
 all_goals first
  |rfl
  |(exact(b (by assumption) (by assumption)).elim)
  |trace_state
theorem PQ(r:Rg)(h:r.Ok)(x:Rq)(hn:r.n<12):aM Tryz.prog 71 [.addr 0 3 0 0,.p (.agg [.int .i64 x.task,.int .i64 x.left])] [iY r true] [some (iY (r.put x) false)] (.p (.bool true)):=by
 have hl:=fG r.l;rw[h.len] at hl;have hf:=h.f;have hL:=BJ r h;have hw:IntKind.wrap IntKind.i64 ((r.first:Int)+(r.n:Int))=((r.first+r.n:Nat):Int):=by rw[aJ (by omega) (by omega)];omega
 have hix:(IntKind.wrap IntKind.i64 ((r.first:Int)+(r.n:Int))).tmod ((cP (r.l.map cG)).length:Int)=(((r.first+r.n)%12:Nat):Int):=by
  rw[hw,hl,Int.tmod_eq_emod_of_nonneg (by omega)];omega
 have hlt:(r.first+r.n)%12<r.l.length:=by rw[h.len];exact Nat.mod_lt _ (by omega)
 have hrow:(eV (cP (r.l.map cG)))[0+((IntKind.wrap IntKind.i64 ((r.first:Int)+(r.n:Int))).tmod ((cP (r.l.map cG)).length:Int)).toNat]?=some [.p (.int .i64 (r.l[(r.first+r.n)%12]'hlt).task),.p (.int .i64 (r.l[(r.first+r.n)%12]'hlt).left)]:=by
  refine rq_row (by rw[hix];omega) ?_
  rw[hix,Int.toNat_natCast];exact List.getElem?_eq_getElem hlt
 have h1:((cP (r.l.map cG)).length:Int)≠0:=by rw[hl];decide
 have h2:0<=(IntKind.wrap IntKind.i64 ((r.first:Int)+(r.n:Int))).tmod ((cP (r.l.map cG)).length:Int):=by rw[hix];omega
 have h3:(IntKind.wrap IntKind.i64 ((r.first:Int)+(r.n:Int))).tmod ((cP (r.l.map cG)).length:Int)<((cP (r.l.map cG)).length:Int):=by rw[hix,hl];omega
 have hq:=mZ r.l (0+((IntKind.wrap IntKind.i64 ((r.first:Int)+(r.n:Int))).tmod ((cP (r.l.map cG)).length:Int)).toNat) x
 have hw2:IntKind.wrap IntKind.i64 ((r.n:Int)+1)=((r.n+1:Nat):Int):=by rw[aJ (by omega) (by omega)];omega
 have b1:((12-(r.n:Int)) ==0)=false:=by simp;omega
 have hfin:cP ((r.l.set (0+((IntKind.wrap IntKind.i64 ((r.first:Int)+(r.n:Int))).tmod ((cP (r.l.map cG)).length:Int)).toNat) x).map cG)=cP ((r.put x).l.map cG):=by rw[hix,Nat.zero_add,Int.toNat_natCast];rfl
 clear hix hw hl hf
 have key:aM Tryz.prog 71 [.addr 0 3 0 0,.p (.agg [.int .i64 x.task,.int .i64 x.left])] [iY r true]
   [some ⟨true,3,[[.ob (.sl 2 false (cP ((r.l.set (0+((IntKind.wrap IntKind.i64 ((r.first:Int)+(r.n:Int))).tmod ((cP (r.l.map cG)).length:Int)).toNat) x).map cG))),.p (.int .i64 r.first),.p (.int .i64 (IntKind.wrap IntKind.i64 ((r.n:Int)+1)))]],false⟩] (.p (.bool true)):=by
  rw[aR] at *;refine Fn.runO WP rfl rfl rfl ?_;generalize Tryz.prog=P at *
  (repeat' ((conv=>whnf);first|exact trivial|with_reducible refine zX ?_|refine⟨rfl,?_⟩|refine⟨_,rfl,?_⟩|with_reducible refine zP ?_|with_reducible refine zL ?_|refine⟨fun _=>?_,fun _=>?_⟩|refine zO ?_|refine zn ?_|refine zb rfl ?_|refine zX ?_|refine zo rfl ?_|refine zs ?_|intro _|(with_reducible show testB.match_1 (fun _=>Prop) _ _ _;refine zT ?_)));all_goals (try (conv=>whnf))
  all_goals first
   |rfl
   |trace_state
 rw[hfin,hw2] at key;exact key
theorem IQ(r:Rg)(h:r.Ok)(x:Rq)(hn:r.n=12):aM Tryz.prog 71 [.addr 0 3 0 0,.p (.agg [.int .i64 x.task,.int .i64 x.left])] [iY r true] [some (iY r false)] (.p (.bool false)):=by
 have hL:=BJ r h;have b1:((12-(r.n:Int)) ==0)=true:=by simp;omega
 rw[aR,aR] at *;refine Fn.runO WP rfl rfl rfl ?_;generalize Tryz.prog=P at *
 (repeat' ((conv=>whnf);first|exact trivial|with_reducible refine zX ?_|refine⟨rfl,?_⟩|refine⟨_,rfl,?_⟩|with_reducible refine zP ?_|with_reducible refine zL ?_|refine⟨fun _=>?_,fun _=>?_⟩|refine zO ?_|refine zn ?_|refine zb rfl ?_|refine zX ?_|refine zo rfl ?_|refine zs ?_|intro _|(with_reducible show testB.match_1 (fun _=>Prop) _ _ _;refine zT ?_)));all_goals (try (conv=>whnf))
 all_goals first
  |rfl
  |trace_state
theorem HE(r:Rg)(h:r.Ok)(hn:0<r.n):aM Tryz.prog 72 [.addr 0 3 0 0] [iY r true] [some (iY r.take false)] (.tup [.p (cG (r.el 0)),.p (.bool true)]):=by
 have hl:=fG r.l;rw[h.len] at hl;have hf:=h.f;have hnn:=h.n;have hL:=Y9 r h 0 hn;have hw:IntKind.wrap IntKind.i64 ((r.first:Int)+1)=((r.first+1:Nat):Int):=by rw[aJ (by omega) (by omega)];omega
 have hix:(IntKind.wrap IntKind.i64 ((r.first:Int)+1)).tmod ((cP (r.l.map cG)).length:Int)=(((r.first+1)%12:Nat):Int):=by
  rw[hw,hl,Int.tmod_eq_emod_of_nonneg (by omega)];omega
 have h1:((cP (r.l.map cG)).length:Int)≠0:=by rw[hl];decide
 have hq:=sO r.l;have hw2:IntKind.wrap IntKind.i64 ((r.n:Int)-1)=((r.n-1:Nat):Int):=by rw[aJ (by omega) (by omega)];omega
 clear hw hl hf
 have key:aM Tryz.prog 72 [.addr 0 3 0 0] [iY r true]
   [some ⟨true,3,[[.ob (.sl 2 false (cP (r.l.map cG))),.p (.int .i64 ((IntKind.wrap IntKind.i64 ((r.first:Int)+1)).tmod ((cP (r.l.map cG)).length:Int))),.p (.int .i64 (IntKind.wrap IntKind.i64 ((r.n:Int)-1)))]],false⟩] (.tup [.p (cG (r.el 0)),.p (.bool true)]):=by
  rw[aR] at *;refine Fn.runO WO rfl rfl rfl ?_;generalize Tryz.prog=P at *
  (repeat' ((conv=>whnf);first|exact trivial|with_reducible refine zX ?_|refine⟨rfl,?_⟩|refine⟨_,rfl,?_⟩|with_reducible refine zP ?_|with_reducible refine zL ?_|refine⟨fun _=>?_,fun _=>?_⟩|refine zO ?_|refine zn ?_|refine zb rfl ?_|refine zX ?_|refine zo rfl ?_|refine zs ?_|intro _|(with_reducible show testB.match_1 (fun _=>Prop) _ _ _;refine zT ?_)));all_goals (try (conv=>whnf))
  all_goals first
   |rfl
   |trace_state
 rw[hix,hw2] at key;exact key
theorem E0(r:Rg)(hn:r.n=0):aM Tryz.prog 72 [.addr 0 3 0 0] [iY r true] [some (iY r false)] (.tup [.p (cG ⟨0,0⟩),.p (.bool false)]):=by
 have hL:=QM r 0 (by omega)
 rw[aR,aR] at *;refine Fn.runO WO rfl rfl rfl ?_;generalize Tryz.prog=P at *
 (repeat' ((conv=>whnf);first|exact trivial|with_reducible refine zX ?_|refine⟨rfl,?_⟩|refine⟨_,rfl,?_⟩|with_reducible refine zP ?_|with_reducible refine zL ?_|refine⟨fun _=>?_,fun _=>?_⟩|refine zO ?_|refine zn ?_|refine zb rfl ?_|refine zX ?_|refine zo rfl ?_|refine zs ?_|intro _|(with_reducible show testB.match_1 (fun _=>Prop) _ _ _;refine zT ?_)));all_goals (try (conv=>whnf))
 all_goals first
  |rfl
  |trace_state
open Go.RowKit Ma
def bN(a:Ag)(old:Bool):Box:=⟨true,3,[[.ob (.ptr [.sl 2 false (cP (a.r.l.map cG)),.p (.int .i64 a.r.first),.p (.int .i64 a.r.n)]),.p (.int .i64 a.now.task),.p (.int .i64 a.now.left)]],old⟩
theorem aU(a:Ag)(old:Bool):bN a old=⟨true,3,[[.ob (.ptr [.sl 2 false (cP (a.r.l.map cG)),.p (.int .i64 a.r.first),.p (.int .i64 a.r.n)]),.p (.int .i64 a.now.task),.p (.int .i64 a.now.left)]],old⟩:=rfl
theorem R8:aM Tryz.prog 69 [.p (.int .i64 12)] [] [some (iY ag0.r false)] (.addr 0 3 0 0):=by
 refine Fn.runO h69 rfl rfl rfl ?_;generalize Tryz.prog=P at *
 (repeat' ((conv=>whnf);first|exact trivial|with_reducible refine zX ?_|refine⟨rfl,?_⟩|refine⟨_,rfl,?_⟩|with_reducible refine zP ?_|with_reducible refine zL ?_|refine⟨fun _=>?_,fun _=>?_⟩|refine zO ?_|refine zn ?_|refine zb rfl ?_|refine zX ?_|refine zo rfl ?_|refine zs ?_|intro _|(with_reducible show testB.match_1 (fun _=>Prop) _ _ _;refine zT ?_)));all_goals (try (conv=>whnf))
 refine⟨cP (ag0.r.l.map cG),⟨rfl,rfl⟩,?_⟩
 (repeat' ((conv=>whnf);first|exact trivial|with_reducible refine zX ?_|refine⟨rfl,?_⟩|refine⟨_,rfl,?_⟩|with_reducible refine zP ?_|with_reducible refine zL ?_|refine⟨fun _=>?_,fun _=>?_⟩|refine zO ?_|refine zn ?_|refine zb rfl ?_|refine zX ?_|refine zo rfl ?_|refine zs ?_|intro _|(with_reducible show testB.match_1 (fun _=>Prop) _ _ _;refine zT ?_)));all_goals (try (conv=>whnf))
 all_goals first
  |rfl
  |trace_state
theorem IJ:aM Tryz.prog 36 [] [] [some (bN ag0 false)] (.addr 0 3 0 0):=by
 have h:=R8;refine Fn.runO ZH rfl rfl rfl ?_;generalize Tryz.prog=P at *
 (repeat' ((conv=>whnf);first|exact trivial|with_reducible refine zX ?_|refine⟨rfl,?_⟩|refine⟨_,rfl,?_⟩|with_reducible refine zP ?_|with_reducible refine zL ?_|refine⟨fun _=>?_,fun _=>?_⟩|refine zO ?_|refine zn ?_|refine zb rfl ?_|refine zX ?_|refine zo rfl ?_|refine zs ?_|intro _|(with_reducible show testB.match_1 (fun _=>Prop) _ _ _;refine zT ?_)));all_goals (try (conv=>whnf))
 all_goals first
  |rfl
  |trace_state
theorem xW(a:Ag):aM Tryz.prog 39 [.addr 0 3 0 0] [bN a true] [some (bN a false)] (.p (.int .i64 a.now.task)):=by
 rw[aU,aU];refine Fn.runO h39 rfl rfl rfl ?_;generalize Tryz.prog=P at *
 (repeat' ((conv=>whnf);first|exact trivial|with_reducible refine zX ?_|refine⟨rfl,?_⟩|refine⟨_,rfl,?_⟩|with_reducible refine zP ?_|with_reducible refine zL ?_|refine⟨fun _=>?_,fun _=>?_⟩|refine zO ?_|refine zn ?_|refine zb rfl ?_|refine zX ?_|refine zo rfl ?_|refine zs ?_|intro _|(with_reducible show testB.match_1 (fun _=>Prop) _ _ _;refine zT ?_)));all_goals (try (conv=>whnf))
 all_goals first
  |rfl
  |trace_state
theorem sR(a:Ag):aM Tryz.prog 40 [.addr 0 3 0 0] [bN a true] [some (bN a false)] (.p (.int .i64 a.r.n)):=by
 have h:=zF a.r;rw[aR,aR] at h;rw[aU,aU];refine Fn.runO h40 rfl rfl rfl ?_;generalize Tryz.prog=P at *
 (repeat' ((conv=>whnf);first|exact trivial|with_reducible refine zX ?_|refine⟨rfl,?_⟩|refine⟨_,rfl,?_⟩|with_reducible refine zP ?_|with_reducible refine zL ?_|refine⟨fun _=>?_,fun _=>?_⟩|refine zO ?_|refine zn ?_|refine zb rfl ?_|refine zX ?_|refine zo rfl ?_|refine zs ?_|intro _|(with_reducible show testB.match_1 (fun _=>Prop) _ _ _;refine zT ?_)));all_goals (try (conv=>whnf))
 all_goals first
  |rfl
  |trace_state
theorem II(a:Ag)(h:a.r.Ok)(t:Int):aM Tryz.prog 70 [.addr 0 3 0 0,.p (.int .i64 t)] [bN a true] [some (bN a false)] (.p (.bool (a.has t))):=by
 have hL:=zF a.r;have hAt:=fun i hi=>Y9 a.r h i hi
 rw[aR,aR] at hL;simp only[aR] at hAt;have hn:=h.n
 have hyes:∀i,i<a.r.n->((a.r.el i).task ==t)=true->a.has t=true:=fun i hi e=>by
  unfold Ag.has;rw[Bool.or_eq_true];exact .inl (List.any_eq_true.2 ⟨a.r.el i,cD (Rg.q_get a.r hi),e⟩)
 have hno:(∀j,j<a.r.n->((a.r.el j).task ==t)=false)->a.has t=(a.now.task ==t):=fun hj=>by
  have:a.r.q.any (fun x=>x.task ==t)=false:=by
   rw[List.any_eq_false];intro x hx;obtain⟨i,hi⟩:=List.getElem?_of_mem hx;have hl:=(bM.1 hi).1;rw[Rg.q_length] at hl;rw[Rg.q_get a.r hl] at hi;rw[<-Option.some.inj hi,hj i hl];decide
  unfold Ag.has;rw[this,Bool.false_or]
 rw[aU,aU];refine Fn.runO h70 rfl rfl rfl ?_;generalize Tryz.prog=P at *
 (repeat' ((conv=>whnf);first|exact trivial|with_reducible refine zX ?_|refine⟨rfl,?_⟩|refine⟨_,rfl,?_⟩|with_reducible refine zP ?_|with_reducible refine zL ?_|refine⟨fun _=>?_,fun _=>?_⟩|refine zO ?_|refine zn ?_|refine zb rfl ?_|refine zX ?_|refine zo rfl ?_|refine zs ?_|intro _|(with_reducible show testB.match_1 (fun _=>Prop) _ _ _;refine zT ?_)));all_goals (try (conv=>whnf))
 refine aX (fun n s=>∃i:Nat,i+n=a.r.n/\(∀j,j<i->((a.r.el j).task ==t)=false)/\s=⟨gM 37 [(0,.addr 2 3 0 0),(1,.p (.int .i64 t)),(12,.p (.int .i64 a.r.n)),(13,.p (.int .i64 i))],[none,none,some (bN a true)]⟩) a.r.n ?_ ?_
 ·conv=>whnf
  exact⟨0,by omega,fun j hj=>absurd hj (Nat.not_lt_zero _),rfl⟩
 ·rintro n st b N ⟨i,hi,hj,e0⟩ hN
  cases e0
  by_cases hlt:i<a.r.n
  ·have b1:decide ((i:Int)<(a.r.n:Int))=true:=decide_eq_true (by omega)
   have hA:=hAt i hlt;have hw:IntKind.wrap IntKind.i64 ((i:Int)+1)=((i+1:Nat):Int):=by rw[aJ (by omega) (by omega)];omega
   by_cases ht:((a.r.el i).task ==t)=true
   ·have hres:=hyes i hlt ht
    clear hN hAt hyes hno hj;rw[hres]
    (repeat' ((conv=>whnf);first|exact trivial|with_reducible refine zX ?_|refine⟨rfl,?_⟩|refine⟨_,rfl,?_⟩|with_reducible refine zP ?_|with_reducible refine zL ?_|refine⟨fun _=>?_,fun _=>?_⟩|refine zO ?_|refine zn ?_|refine zb rfl ?_|refine zX ?_|refine zo rfl ?_|refine zs ?_|intro _|(with_reducible show testB.match_1 (fun _=>Prop) _ _ _;refine zT ?_)));all_goals (try (conv=>whnf))
    all_goals first
     |rfl
     |trace_state
   ·have ht':((a.r.el i).task ==t)=false:=by simpa using ht
    have hstep:∀{s:St},s=⟨gM 37 [(0,.addr 2 3 0 0),(1,.p (.int .i64 t)),(12,.p (.int .i64 a.r.n)),(13,.p (.int .i64 (IntKind.wrap IntKind.i64 ((i:Int)+1))))],[none,none,some (bN a true)]⟩->N s:=fun e2=>by
     rw[hw] at e2;refine hN (n-1) _ (by omega) ⟨i+1,by omega,fun j hj2=>?_,e2⟩
     by_cases hji:j=i
     ·rw[hji];exact ht'
     ·exact hj j (by omega)
    clear hN hAt hyes hno hj
    (repeat' ((conv=>whnf);first|exact trivial|with_reducible refine zX ?_|refine⟨rfl,?_⟩|refine⟨_,rfl,?_⟩|with_reducible refine zP ?_|with_reducible refine zL ?_|refine⟨fun _=>?_,fun _=>?_⟩|refine zO ?_|refine zn ?_|refine zb rfl ?_|refine zX ?_|refine zo rfl ?_|refine zs ?_|intro _|(with_reducible show testB.match_1 (fun _=>Prop) _ _ _;refine zT ?_)));all_goals (try (conv=>whnf))
    all_goals first
     |exact hstep rfl
     |trace_state
  ·have b1:decide ((i:Int)<(a.r.n:Int))=false:=decide_eq_false (by omega)
   have hres:=hno fun j hjn=>hj j (by omega)
   clear hN hAt hyes hno hj;rw[hres]
   (repeat' ((conv=>whnf);first|exact trivial|with_reducible refine zX ?_|refine⟨rfl,?_⟩|refine⟨_,rfl,?_⟩|with_reducible refine zP ?_|with_reducible refine zL ?_|refine⟨fun _=>?_,fun _=>?_⟩|refine zO ?_|refine zn ?_|refine zb rfl ?_|refine zX ?_|refine zo rfl ?_|refine zs ?_|intro _|(with_reducible show testB.match_1 (fun _=>Prop) _ _ _;refine zT ?_)));all_goals (try (conv=>whnf))
   all_goals first
    |rfl
    |trace_state
theorem ID(a:Ag)(h:a.r.Ok)(t k:Int)(hm:a.may t k=true):aM Tryz.prog 37 [.addr 0 3 0 0,.p (.int .i64 t),.p (.int .i64 k)] [bN a true] [some (bN ⟨a.r.put ⟨t,k⟩,a.now⟩ false)] (.p (.bool true)):=by
 have hh:=II a h t;unfold Ag.may at hm;simp only[aY,Bool.not_eq_true'] at hm;obtain⟨b1,b2,b3,hn⟩:=hm;have hp:=PQ a.r h ⟨t,k⟩ (of_decide_eq_true hn);rw[b3] at hh;rw[aR,aR] at hp;rw[aU,aU] at hh;rw[aU,aU];clear hn;refine Fn.runO K6 rfl rfl rfl ?_;generalize Tryz.prog=P at *
 (repeat' ((conv=>whnf);first|exact trivial|with_reducible refine zX ?_|refine⟨rfl,?_⟩|refine⟨_,rfl,?_⟩|with_reducible refine zP ?_|with_reducible refine zL ?_|refine⟨fun _=>?_,fun _=>?_⟩|refine zO ?_|refine zn ?_|refine zb rfl ?_|refine zX ?_|refine zo rfl ?_|refine zs ?_|intro _|(with_reducible show testB.match_1 (fun _=>Prop) _ _ _;refine zT ?_)));all_goals (try (conv=>whnf))
 all_goals first
  |rfl
  |trace_state
theorem KA(a:Ag)(h:a.r.Ok)(t k:Int)(hm:a.may t k=false):aM Tryz.prog 37 [.addr 0 3 0 0,.p (.int .i64 t),.p (.int .i64 k)] [bN a true] [some (bN a false)] (.p (.bool false)):=by
 have hh:=II a h t;rw[aU,aU] at hh;rw[aU,aU]
 cases b1:decide (t≥1) with
 |false=>
  clear hh;refine Fn.runO K6 rfl rfl rfl ?_;generalize Tryz.prog=P at *
  (repeat' ((conv=>whnf);first|exact trivial|with_reducible refine zX ?_|refine⟨rfl,?_⟩|refine⟨_,rfl,?_⟩|with_reducible refine zP ?_|with_reducible refine zL ?_|refine⟨fun _=>?_,fun _=>?_⟩|refine zO ?_|refine zn ?_|refine zb rfl ?_|refine zX ?_|refine zo rfl ?_|refine zs ?_|intro _|(with_reducible show testB.match_1 (fun _=>Prop) _ _ _;refine zT ?_)));all_goals (try (conv=>whnf))
  all_goals first
   |rfl
   |trace_state
 |true=>
  cases b2:decide (k≥1) with
  |false=>
   clear hh;refine Fn.runO K6 rfl rfl rfl ?_;generalize Tryz.prog=P at *
   (repeat' ((conv=>whnf);first|exact trivial|with_reducible refine zX ?_|refine⟨rfl,?_⟩|refine⟨_,rfl,?_⟩|with_reducible refine zP ?_|with_reducible refine zL ?_|refine⟨fun _=>?_,fun _=>?_⟩|refine zO ?_|refine zn ?_|refine zb rfl ?_|refine zX ?_|refine zo rfl ?_|refine zs ?_|intro _|(with_reducible show testB.match_1 (fun _=>Prop) _ _ _;refine zT ?_)));all_goals (try (conv=>whnf))
   all_goals first
    |rfl
    |trace_state
  |true=>
   cases b3:a.has t with
   |true=>
    rw[b3] at hh;refine Fn.runO K6 rfl rfl rfl ?_;generalize Tryz.prog=P at *
    (repeat' ((conv=>whnf);first|exact trivial|with_reducible refine zX ?_|refine⟨rfl,?_⟩|refine⟨_,rfl,?_⟩|with_reducible refine zP ?_|with_reducible refine zL ?_|refine⟨fun _=>?_,fun _=>?_⟩|refine zO ?_|refine zn ?_|refine zb rfl ?_|refine zX ?_|refine zo rfl ?_|refine zs ?_|intro _|(with_reducible show testB.match_1 (fun _=>Prop) _ _ _;refine zT ?_)));all_goals (try (conv=>whnf))
    all_goals first
     |rfl
     |trace_state
   |false=>
    rw[b3] at hh;have hn:=h.n
    have hp:=IQ a.r h ⟨t,k⟩ (by
     unfold Ag.may at hm;rw[b1,b2,b3] at hm;have:decide (a.r.n<12)=false:=by simpa using hm
     have:=of_decide_eq_false this;omega)
    rw[aR,aR] at hp;refine Fn.runO K6 rfl rfl rfl ?_;generalize Tryz.prog=P at *
    (repeat' ((conv=>whnf);first|exact trivial|with_reducible refine zX ?_|refine⟨rfl,?_⟩|refine⟨_,rfl,?_⟩|with_reducible refine zP ?_|with_reducible refine zL ?_|refine⟨fun _=>?_,fun _=>?_⟩|refine zO ?_|refine zn ?_|refine zb rfl ?_|refine zX ?_|refine zo rfl ?_|refine zs ?_|intro _|(with_reducible show testB.match_1 (fun _=>Prop) _ _ _;refine zT ?_)));all_goals (try (conv=>whnf))
    all_goals first
     |rfl
     |trace_state
theorem JS(a:Ag){Q:List Sv}(h:a.Is Q):aM Tryz.prog 38 [.addr 0 3 0 0] [bN a true] [some (bN a.tick false)] (.tup [.p (.int .i64 a.tells.1),.p (.bool a.tells.2)]):=by
 obtain⟨⟨l,first,n⟩,⟨t,k⟩⟩:=a
 by_cases h0:t=0
 ·subst h0
  by_cases hn:n=0
  ·subst hn
   have hT:=E0 ⟨l,first,0⟩ rfl
   rw[aR,aR] at hT;rw[aU,aU];refine Fn.runO KQ rfl rfl rfl ?_;generalize Tryz.prog=P at *
   (repeat' ((conv=>whnf);first|exact trivial|with_reducible refine zX ?_|refine⟨rfl,?_⟩|refine⟨_,rfl,?_⟩|with_reducible refine zP ?_|with_reducible refine zL ?_|refine⟨fun _=>?_,fun _=>?_⟩|refine zO ?_|refine zn ?_|refine zb rfl ?_|refine zX ?_|refine zo rfl ?_|refine zs ?_|intro _|(with_reducible show testB.match_1 (fun _=>Prop) _ _ _;refine zT ?_)));all_goals (try (conv=>whnf))
   all_goals first
    |rfl
    |trace_state
  ·have hn0:0<n:=by omega
   have hT:=HE ⟨l,first,n⟩ h.ok hn0
   have hp:=h.pos ((Rg.mk l first n).el 0) (by rw[Rg.take_q (r:=⟨l,first,n⟩) hn0];exact List.mem_cons_self)
   rw[aR,aR] at hT;have etu:(Ag.mk ⟨l,first,n⟩ ⟨0,k⟩).turn=⟨(Rg.mk l first n).take,(Rg.mk l first n).el 0⟩:=by simp[Ag.turn,hn]
   have hnt:¬((Rg.mk l first n).el 0).task=0:=by omega
   have b1:(((Rg.mk l first n).el 0).task ==0)=false:=by simpa using hnt
   have hw:IntKind.wrap IntKind.i64 (((Rg.mk l first n).el 0).left-1)=((Rg.mk l first n).el 0).left-1:=aJ (by omega) (by omega)
   have etick:(Ag.mk ⟨l,first,n⟩ ⟨0,k⟩).tick=if IntKind.wrap IntKind.i64 (((Rg.mk l first n).el 0).left-1)>0 then ⟨(Rg.mk l first n).take,⟨((Rg.mk l first n).el 0).task,IntKind.wrap IntKind.i64 (((Rg.mk l first n).el 0).left-1)⟩⟩ else ⟨(Rg.mk l first n).take,⟨0,0⟩⟩:=by
    unfold Ag.tick;rw[etu];simp only;rw[if_neg hnt,hw]
   have etells:(Ag.mk ⟨l,first,n⟩ ⟨0,k⟩).tells=(((Rg.mk l first n).el 0).task,decide (¬IntKind.wrap IntKind.i64 (((Rg.mk l first n).el 0).left-1)>0)):=by
    unfold Ag.tells;rw[etu];simp only;rw[if_neg hnt,hw]
   rw[etick,etells];clear etu etick etells hn hn0 hp hw h;generalize (Rg.mk l first n).el 0=x at *
   generalize (Rg.mk l first n).take=r' at *
   by_cases hg:IntKind.wrap IntKind.i64 (x.left-1)>0
   ·rw[if_pos hg,decide_eq_false (not_not_intro hg)]
    have b2:decide (IntKind.wrap IntKind.i64 (x.left-1)>0)=true:=decide_eq_true hg;rw[aU,aU];refine Fn.runO KQ rfl rfl rfl ?_;generalize Tryz.prog=P at *
    (repeat' ((conv=>whnf);first|exact trivial|with_reducible refine zX ?_|refine⟨rfl,?_⟩|refine⟨_,rfl,?_⟩|with_reducible refine zP ?_|with_reducible refine zL ?_|refine⟨fun _=>?_,fun _=>?_⟩|refine zO ?_|refine zn ?_|refine zb rfl ?_|refine zX ?_|refine zo rfl ?_|refine zs ?_|intro _|(with_reducible show testB.match_1 (fun _=>Prop) _ _ _;refine zT ?_)));all_goals (try (conv=>whnf))
    all_goals first
     |rfl
     |trace_state
   ·rw[if_neg hg,decide_eq_true hg]
    have b2:decide (IntKind.wrap IntKind.i64 (x.left-1)>0)=false:=decide_eq_false hg;rw[aU,aU];refine Fn.runO KQ rfl rfl rfl ?_;generalize Tryz.prog=P at *
    (repeat' ((conv=>whnf);first|exact trivial|with_reducible refine zX ?_|refine⟨rfl,?_⟩|refine⟨_,rfl,?_⟩|with_reducible refine zP ?_|with_reducible refine zL ?_|refine⟨fun _=>?_,fun _=>?_⟩|refine zO ?_|refine zn ?_|refine zb rfl ?_|refine zX ?_|refine zo rfl ?_|refine zs ?_|intro _|(with_reducible show testB.match_1 (fun _=>Prop) _ _ _;refine zT ?_)));all_goals (try (conv=>whnf))
    all_goals first
     |rfl
     |trace_state
 ·have hb:k<=1000/\1<=k:=by
   rcases h.one with ⟨h1,_⟩|⟨_,h2,_⟩
   ·exact absurd h1 h0
   ·exact⟨h2.2,h2.1⟩
  have etu:(Ag.mk ⟨l,first,n⟩ ⟨t,k⟩).turn=⟨⟨l,first,n⟩,⟨t,k⟩⟩:=by simp[Ag.turn,h0]
  have b1:(t ==0)=false:=by simpa using h0
  have hw:IntKind.wrap IntKind.i64 (k-1)=k-1:=aJ (by omega) (by omega)
  have etick:(Ag.mk ⟨l,first,n⟩ ⟨t,k⟩).tick=if IntKind.wrap IntKind.i64 (k-1)>0 then ⟨⟨l,first,n⟩,⟨t,IntKind.wrap IntKind.i64 (k-1)⟩⟩ else ⟨⟨l,first,n⟩,⟨0,0⟩⟩:=by
   unfold Ag.tick;rw[etu];simp only;rw[if_neg h0,hw]
  have etells:(Ag.mk ⟨l,first,n⟩ ⟨t,k⟩).tells=(t,decide (¬IntKind.wrap IntKind.i64 (k-1)>0)):=by
   unfold Ag.tells;rw[etu];simp only;rw[if_neg h0,hw]
  rw[etick,etells];clear etu etick etells hw h
  by_cases hg:IntKind.wrap IntKind.i64 (k-1)>0
  ·rw[if_pos hg,decide_eq_false (not_not_intro hg)]
   have b2:decide (IntKind.wrap IntKind.i64 (k-1)>0)=true:=decide_eq_true hg;rw[aU,aU];refine Fn.runO KQ rfl rfl rfl ?_;generalize Tryz.prog=P at *
   (repeat' ((conv=>whnf);first|exact trivial|with_reducible refine zX ?_|refine⟨rfl,?_⟩|refine⟨_,rfl,?_⟩|with_reducible refine zP ?_|with_reducible refine zL ?_|refine⟨fun _=>?_,fun _=>?_⟩|refine zO ?_|refine zn ?_|refine zb rfl ?_|refine zX ?_|refine zo rfl ?_|refine zs ?_|intro _|(with_reducible show testB.match_1 (fun _=>Prop) _ _ _;refine zT ?_)));all_goals (try (conv=>whnf))
   all_goals first
    |rfl
    |trace_state
  ·rw[if_neg hg,decide_eq_true hg]
   have b2:decide (IntKind.wrap IntKind.i64 (k-1)>0)=false:=decide_eq_false hg;rw[aU,aU];refine Fn.runO KQ rfl rfl rfl ?_;generalize Tryz.prog=P at *
   (repeat' ((conv=>whnf);first|exact trivial|with_reducible refine zX ?_|refine⟨rfl,?_⟩|refine⟨_,rfl,?_⟩|with_reducible refine zP ?_|with_reducible refine zL ?_|refine⟨fun _=>?_,fun _=>?_⟩|refine zO ?_|refine zn ?_|refine zb rfl ?_|refine zX ?_|refine zo rfl ?_|refine zs ?_|intro _|(with_reducible show testB.match_1 (fun _=>Prop) _ _ _;refine zT ?_)));all_goals (try (conv=>whnf))
   all_goals first
    |rfl
    |trace_state
theorem gJ{a:Ag}{Q:List Sv}(h:a.Is Q)(t k:Int)(ht:1<=t)(hk:1<=k/\k<=1000)(hin:(Q.any fun x=>x.task ==t)=false)(hw:(Q.filter fun x => !x.was).length<12) :
  ∃a':Ag,a'.Is (Q++[⟨t,k,false⟩])/\aM Tryz.prog 37 [.addr 0 3 0 0,.p (.int .i64 t),.p (.int .i64 k)] [bN a true] [some (bN a' false)] (.p (.bool true)):=by
 have hm:a.may t k=true:=by
  unfold Ag.may;rw[h.has_eq ht,hin,decide_eq_true (show t≥1 from ht),decide_eq_true (show k≥1 from hk.1),decide_eq_true (show a.r.n<12 by have:=h.waits;omega)];rfl
 have e:a.ask t k=⟨a.r.put ⟨t,k⟩,a.now⟩:=by unfold Ag.ask;rw[if_pos hm]
 exact⟨_,e▸h.ask_ok hk.2 hm,ID a h.ok t k hm⟩
theorem gD{a:Ag}{Q:List Sv}(h:a.Is Q)(t k:Int)(hno:t<1\/k<1\/(Q.any fun x=>x.task ==t)=true\/12<=(Q.filter fun x => !x.was).length) :
  aM Tryz.prog 37 [.addr 0 3 0 0,.p (.int .i64 t),.p (.int .i64 k)] [bN a true] [some (bN a false)] (.p (.bool false)):=by
 refine KA a h.ok t k ?_;unfold Ag.may
 by_cases ht:1<=t
 ·rw[h.has_eq ht]
  rcases hno with h1|h1|h1|h1
  ·omega
  ·rw[decide_eq_false (show ¬k≥1 by omega)];simp
  ·rw[h1];simp
  ·rw[decide_eq_false (show ¬a.r.n<12 by have:=h.waits;omega)];simp
 ·rw[decide_eq_false (show ¬t≥1 by omega)];rfl
theorem uO{a:Ag}{Q:List Sv}(h:a.Is Q):∃a':Ag,a'.Is (cB Q)/\aM Tryz.prog 38 [.addr 0 3 0 0] [bN a true] [some (bN a' false)] (.tup [.p (.int .i64 (bW Q).1),.p (.bool (bW Q).2)]):=by
 have:=JS a h;rw[h.tick_is.2] at this;exact⟨_,h.tick_is.1,this⟩
theorem sV{a:Ag}{Q:List Sv}(h:a.Is Q):aM Tryz.prog 39 [.addr 0 3 0 0] [bN a true] [some (bN a false)] (.p (.int .i64 (gZ Q))):=h.serves▸xW a
theorem iZ{a:Ag}{Q:List Sv}(h:a.Is Q):aM Tryz.prog 40 [.addr 0 3 0 0] [bN a true] [some (bN a false)] (.p (.int .i64 ((Q.filter fun x => !x.was).length:Nat))):=h.waits▸sR a
open Go.RowKit
def F11:Fn:=⟨95,0,[.tmp 2],
 (.sr [mc 2 (.bool false)]
 (.sr [ii 16 (.call 15) [],
 mt 3 16]
 (.seq
 (.sr [mv 17 3,
 ii 18 (.un .not) [.t 17]]
 (.cond (.t 18)
 (.sr [mc 2 (.bool false)]
 .ret)
 .skip))
 (.sr [ii 19 (.ob (.callo 36 true)) [],
 mt 4 19]
 (.sr [mv 20 0,
 ii 21 .len [.t 20],
 ii 22 .mn [.t 21,cI 12],
 mt 5 22]
 (.sr [mc 6 (.int .i64 0)]
 (.sr [ii 7 (.mov true) [.c (.ow 1 true [])]]
 (.seq
 (.sr [mc 8 (.int .i64 0)]
 (.block 0
 (.loop [2,3,9,10,11,12,13,14,15,16,17,18,19,20,21,22,23,24,25,26,27,28,29,30,31,32,33,34,35,36,37,38,39,40,41,42,43,44,45,46,47,48,49,50,51,52,53,54,55,56,57,58,59,60,61,62,63,64,65,66,67,68,69,70,71,72,73,74,75,76,77,78,79,80,81,82,83,84,85,86,87,88,89,90,91,92,93,94] []
 (.seq
 (.sr [mv 23 8,
 mv 24 5,
 b2 25 .lss 23 24]
 (.cond (.t 25)
 .skip
 (.exit 0)))
 (.seq
 (.block 1
 (.sr [mv 28 0,
 mv 29 8,
 ii 30 (.iad 1) [.t 28,.t 29],
 ld 31 30,
 b1 32 .and 31 (.int .i64 7),
 ii 33 (.bin .add) [cI 1,.t 32],
 mt 9 33]
 (.seq
 (.sr [mv 34 4,
 mv 35 8,
 b1 36 .add 35 (.int .i64 1),
 mv 37 9,
 ii 38 (.ob (.callo 37 false)) [.t 34,.t 36,.t 37],
 ii 39 (.un .not) [.t 38]]
 (.cond (.t 39)
 (.sr [mc 2 (.bool false)]
 .ret)
 .skip))
 (.sr [mv 40 6,
 mv 41 9,
 b2 42 .add 40 41,
 mt 6 42]
 (.reg [mt 43 7,
 mv 44 6,
 ii 45 (.bsl 1 1) [.t 44],
 ii 46 (.app 1 8) [.t 43,.t 45],
 mt 7 46])))))
 (.reg [mv 26 8,
 b1 27 .add 26 (.int .i64 1),
 mt 8 27]))))))
 (.sr [mc 10 (.int .i64 0)]
 (.seq
 (.sr [mc 11 (.int .i64 1)]
 (.block 2
 (.loop [0,2,3,8,9,12,13,14,15,16,17,18,19,20,21,22,23,24,25,26,27,28,29,30,31,32,33,34,35,36,37,38,39,40,41,42,43,44,45,46,47,48,49,50,51,52,53,54,55,56,57,58,59,60,61,62,63,64,65,66,67,68,69,70,71,72,73,74,75,76,77,78,79,80,81,82,83,84,85,86,87,88,89,90,91,92,93,94] []
 (.seq
 (.sr [mv 47 11,
 mv 48 6,
 b2 49 .leq 47 48]
 (.cond (.t 49)
 .skip
 (.exit 2)))
 (.seq
 (.block 3
 (.sr [mv 53 4,
 ii 54 (.ob (.callo 38 false)) [.t 53],
 mv 52 54,
 ii 55 (.ext 0) [.t 52],
 ii 56 (.ext 1) [.t 52],
 mt 12 55,
 mt 13 56]
 (.seq
 (.sr [mv 57 12,
 mv 58 10,
 b1 59 .add 58 (.int .i64 1),
 b2 60 .neq 57 59,
 mv 61 60,
 gf 62 61 (.mov false) [.t 13],
 gf 63 61 (.mov false) [.t 11],
 gf 64 61 (.mov false) [.t 7],
 gf 65 61 (.mov false) [.t 10],
 gf 66 61 (.iad 1) [.t 64,.t 65],
 gf 67 61 (.load 1 false false) [.t 66],
 gf 68 61 (.bin .eql) [.t 63,.t 67],
 gf 69 61 (.eqb true) [.t 62,.t 68],
 ii 70 .pick [.t 61,.c (.p (.bool true)),.t 69]]
 (.cond (.t 70)
 (.sr [mc 2 (.bool false)]
 .ret)
 .skip))
 (.sr [mv 71 13]
 (.cond (.t 71)
 (.reg [mv 72 10,
 b1 73 .add 72 (.int .i64 1),
 mt 10 73])
 .skip)))))
 (.reg [mv 50 11,
 b1 51 .add 50 (.int .i64 1),
 mt 11 51]))))))
 (.sr [mv 75 4,
 ii 76 (.ob (.callo 38 false)) [.t 75],
 mv 74 76,
 ii 77 (.ext 0) [.t 74],
 ii 78 (.ext 1) [.t 74],
 mt 14 77,
 mt 15 78]
 (.sr [mv 79 14,
 b1 80 .eql 79 (.int .i64 0),
 mv 81 80,
 gt 82 81 (.mov false) [.t 15],
 gt 83 81 (.un .not) [.t 82],
 ii 84 .pick [.t 81,.t 83,.c (.p (.bool false))],
 mv 85 84,
 gt 86 85 (.mov false) [.t 10],
 gt 87 85 (.mov false) [.t 5],
 gt 88 85 (.bin .eql) [.t 86,.t 87],
 ii 89 .pick [.t 85,.t 88,.c (.p (.bool false))],
 mv 90 89,
 gt 91 90 (.mov false) [.t 4],
 gt 92 90 (.ob (.callo 40 false)) [.t 91],
 gt 93 90 (.bin .eql) [.t 92,cI 0],
 ii 94 .pick [.t 90,.t 93,.c (.p (.bool false))],
 mt 2 94]
 .ret))))))))))))⟩
theorem k11:aC Tryz.prog 11 F11=true:=by kernel_rfl
def F12:Fn:=⟨95,0,[.tmp 6],
 (.sr [mc 6 (.bool false)]
 (.sr [ii 11 (.call 15) [],
 mt 7 11]
 (.seq
 (.sr [mv 12 7,
 ii 13 (.un .not) [.t 12]]
 (.cond (.t 13)
 (.sr [mc 6 (.bool false)]
 .ret)
 .skip))
 (.sr [ii 14 (.ob (.callo 36 true)) [],
 mt 8 14]
 (.seq
 (.sr [mv 15 0,
 b1 16 .lss 15 (.int .i64 1),
 mv 17 16,
 gf 18 17 (.mov false) [.t 0],
 gf 19 17 (.bin .gtr) [.t 18,cI 100],
 ii 20 .pick [.t 17,.c (.p (.bool true)),.t 19],
 mv 21 20,
 gf 22 21 (.mov false) [.t 1],
 gf 23 21 (.bin .lss) [.t 22,cI 1],
 ii 24 .pick [.t 21,.c (.p (.bool true)),.t 23],
 mv 25 24,
 gf 26 25 (.mov false) [.t 1],
 gf 27 25 (.bin .gtr) [.t 26,cI 20],
 ii 28 .pick [.t 25,.c (.p (.bool true)),.t 27]]
 (.cond (.t 28)
 (.sr [mv 29 8,
 mv 30 0,
 ii 31 .mn [.t 30,cI 0],
 mv 32 1,
 ii 33 (.ob (.callo 37 false)) [.t 29,.t 31,.t 32],
 ii 34 (.un .not) [.t 33],
 mv 35 34,
 gf 36 35 (.mov false) [.t 1],
 gf 37 35 (.bin .geq) [.t 36,cI 1],
 gf 38 35 (.mov false) [.t 37],
 gt 39 38 (.mov false) [.t 0],
 gt 40 38 (.bin .lss) [.t 39,cI 1],
 gf 41 35 .pick [.t 38,.t 40,.c (.p (.bool false))],
 ii 42 .pick [.t 35,.c (.p (.bool true)),.t 41],
 mt 6 42]
 .ret)
 .skip))
 (.sr [mv 43 0,
 b1 44 .add 43 (.int .i64 1),
 mv 45 2,
 b1 46 .and 45 (.int .i64 7),
 b2 47 .add 44 46,
 mt 2 47]
 (.sr [mv 48 8,
 mv 49 0,
 mv 50 1,
 ii 51 (.ob (.callo 37 false)) [.t 48,.t 49,.t 50],
 mv 52 51,
 gt 53 52 (.mov false) [.t 8],
 gt 54 52 (.mov false) [.t 0],
 gt 55 52 (.ob (.callo 37 false)) [.t 53,.t 54,cI 1],
 gt 56 52 (.un .not) [.t 55],
 ii 57 .pick [.t 52,.t 56,.c (.p (.bool false))],
 mv 58 57,
 gt 59 58 (.mov false) [.t 8],
 gt 60 58 (.mov false) [.t 2],
 gt 61 58 (.ob (.callo 37 false)) [.t 59,.t 60,cI 1],
 ii 62 .pick [.t 58,.t 61,.c (.p (.bool false))],
 mv 63 62,
 gt 64 63 (.mov false) [.t 8],
 gt 65 63 (.mov false) [.t 2],
 gt 66 63 (.ob (.callo 37 false)) [.t 64,.t 65,cI 3],
 gt 67 63 (.un .not) [.t 66],
 ii 68 .pick [.t 63,.t 67,.c (.p (.bool false))],
 mt 9 68]
 (.seq
 (.sr [mc 10 (.int .i64 0)]
 (.block 0
 (.loop [2,6,7,11,12,13,14,15,16,17,18,19,20,21,22,23,24,25,26,27,28,29,30,31,32,33,34,35,36,37,38,39,40,41,42,43,44,45,46,47,48,49,50,51,52,53,54,55,56,57,58,59,60,61,62,63,64,65,66,67,68,69,70,71,72,73,74,75,76,77,78,79,80,81,82,83,84,85,86,87,88,89,90,91,92,93,94] []
 (.seq
 (.sr [mv 69 10,
 mv 70 1,
 b2 71 .lss 69 70]
 (.cond (.t 71)
 .skip
 (.exit 0)))
 (.seq
 (.block 1
 (.seq
 (.sr [mv 74 8,
 mv 75 0,
 ii 76 (.ob (.callo 37 false)) [.t 74,.t 75,cI 1]]
 (.cond (.t 76)
 (.sr [mc 6 (.bool false)]
 .ret)
 .skip))
 (.reg [mv 77 8,
 ii 78 (.ob (.callo 38 false)) [.t 77]])))
 (.reg [mv 72 10,
 b1 73 .add 72 (.int .i64 1),
 mt 10 73]))))))
 (.sr [mv 79 9,
 mv 80 79,
 gt 81 80 (.mov false) [.t 8],
 gt 82 80 (.mov false) [.t 0],
 gt 83 80 (.ob (.callo 37 false)) [.t 81,.t 82,cI 2],
 ii 84 .pick [.t 80,.t 83,.c (.p (.bool false))],
 mv 85 84,
 gt 86 85 (.mov false) [.t 8],
 gt 87 85 (.ob (.callo 39 false)) [.t 86],
 gt 88 85 (.bin .eql) [.t 87,cI 0],
 ii 89 .pick [.t 85,.t 88,.c (.p (.bool false))],
 mv 90 89,
 gt 91 90 (.mov false) [.t 8],
 gt 92 90 (.ob (.callo 40 false)) [.t 91],
 gt 93 90 (.bin .eql) [.t 92,cI 2],
 ii 94 .pick [.t 90,.t 93,.c (.p (.bool false))],
 mt 6 94]
 .ret)))))))))⟩
theorem VZ:aC Tryz.prog 12 F12=true:=by kernel_rfl
open Go.RowKit Ma
theorem oE(w:Int)(k:Nat)(hk:k<2 ^ 63):0<=aL .and .i64 w k/\aL .and .i64 w k<=k:=by
 have h:(BitVec.ofInt 64 w &&& BitVec.ofInt 64 k).toNat<=k:=by
  rw[BitVec.toNat_and];refine Nat.le_trans Nat.and_le_right ?_;rw[BitVec.ofInt_natCast,BitVec.toNat_ofNat];exact Nat.mod_le _ _
 have e:aL .and .i64 w k=IntKind.wrap .i64 ((BitVec.ofInt 64 w &&& BitVec.ofInt 64 k).toNat:Int):=rfl;rw[e,aJ (by omega) (by omega)]
 omega
theorem NN(task ticks other:Int):aB Tryz.prog 12 [.int .i64 task,.int .i64 ticks,.int .i64 other] (.p (.bool true)):=by
 have hbeg:aB Tryz.prog 15 [] (.p (.bool true)):=pR;have hnew:=IJ
 by_cases hg:(1<=task/\task<=100)/\1<=ticks/\ticks<=20
 ·have h7:0<=aL .and .i64 other 7/\aL .and .i64 other 7<=7:=by simpa using oE other 7 (by decide)
  have b1:decide (task<1)=false:=decide_eq_false (by omega)
  have b2:decide (task>100)=false:=decide_eq_false (by omega)
  have b3:decide (ticks<1)=false:=decide_eq_false (by omega)
  have b4:decide (ticks>20)=false:=decide_eq_false (by omega)
  have hot:IntKind.wrap IntKind.i64 (IntKind.wrap IntKind.i64 (task+1)+aL .and .i64 other 7)=task+1+aL .and .i64 other 7:=by rw[aJ (n:=task+1) (by omega) (by omega),aJ (by omega) (by omega)]
  have hot1:task<IntKind.wrap IntKind.i64 (IntKind.wrap IntKind.i64 (task+1)+aL .and .i64 other 7)/\IntKind.wrap IntKind.i64 (IntKind.wrap IntKind.i64 (task+1)+aL .and .i64 other 7)<=108:=by rw[hot];omega
  clear hot h7;refine Fn.run VZ rfl ?_;obtain⟨a1,i1,o1⟩:=gJ n6 task ticks hg.1.1 (by omega) rfl (by decide)
  have o2:=gD i1 task 1 (.inr (.inr (.inl (by simp))))
  obtain⟨a2,i2,o3⟩:=gJ i1 (IntKind.wrap IntKind.i64 (IntKind.wrap IntKind.i64 (task+1)+aL .and .i64 other 7)) 1 (by omega) (by omega) (by simp;omega) (by simp)
  have o4:=gD i2 (IntKind.wrap IntKind.i64 (IntKind.wrap IntKind.i64 (task+1)+aL .and .i64 other 7)) 3 (.inr (.inr (.inl (by simp))))
  have hK:∀(a:Ag) (Q:List Sv),a.Is Q->∀t k,(t<1\/k<1\/(Q.any fun x=>x.task ==t)=true\/12<=(Q.filter fun x => !x.was).length)->aM Tryz.prog 37 [.addr 0 3 0 0,.p (.int .i64 t),.p (.int .i64 k)] [bN a true] [some (bN a false)] (.p (.bool false)):=fun a Q h t k hq=>gD h t k hq
  have hY:∀(a:Ag) (Q:List Sv),a.Is Q->∀t k,1<=t->1<=k/\k<=1000->(Q.any fun x=>x.task ==t)=false->(Q.filter fun x => !x.was).length<12 ->
   ∃a':Ag,a'.Is (Q++[⟨t,k,false⟩])/\aM Tryz.prog 37 [.addr 0 3 0 0,.p (.int .i64 t),.p (.int .i64 k)] [bN a true] [some (bN a' false)] (.p (.bool true)):=fun a Q h t k h1 h2 h3 h4=>gJ h t k h1 h2 h3 h4
  have hT:∀(a:Ag) (Q:List Sv),a.Is Q->∃a':Ag,a'.Is (cB Q)/\aM Tryz.prog 38 [.addr 0 3 0 0] [bN a true] [some (bN a' false)] (.tup [.p (.int .i64 (bW Q).1),.p (.bool (bW Q).2)]):=fun a Q h=>uO h
  have hS:∀(a:Ag) (Q:List Sv),a.Is Q->aM Tryz.prog 39 [.addr 0 3 0 0] [bN a true] [some (bN a false)] (.p (.int .i64 (gZ Q))):=fun a Q h=>sV h
  have hW:∀(a:Ag) (Q:List Sv),a.Is Q->aM Tryz.prog 40 [.addr 0 3 0 0] [bN a true] [some (bN a false)] (.p (.int .i64 ((Q.filter fun x => !x.was).length:Nat))):=fun a Q h=>iZ h
  generalize Tryz.prog=P at *
  (repeat' ((conv=>whnf);first|exact trivial|with_reducible refine zX ?_|refine⟨rfl,?_⟩|refine⟨_,rfl,?_⟩|with_reducible refine zP ?_|with_reducible refine zL ?_|refine⟨fun _=>?_,fun _=>?_⟩|refine zO ?_|refine zn ?_|refine zb rfl ?_|refine zX ?_|refine zo rfl ?_|refine zs ?_|intro _|(with_reducible show testB.match_1 (fun _=>Prop) _ _ _;refine zT ?_)));all_goals (try (conv=>whnf))
  generalize IntKind.wrap IntKind.i64 (IntKind.wrap IntKind.i64 (task+1)+aL .and .i64 other 7)=ot at *
  refine aX (fun n s=>∃(a:Ag) (i:Nat),((i:Int)+(n:Int)=ticks/\((0<n/\a.Is [⟨task,ticks-i,decide (0<i)⟩,⟨ot,1,false⟩])\/(n=0/\a.Is [⟨ot,1,false⟩]))) /\
   s=⟨gM 95 [(0,.p (.int .i64 task)),(1,.p (.int .i64 ticks)),(8,.addr 0 3 0 0),(9,.p (.bool true)),(10,.p (.int .i64 i))],[some (bN a false)]⟩) ticks.toNat ?_ ?_
  ·conv=>whnf
   exact⟨a2,0,⟨by omega,.inl ⟨by omega,by simpa using i2⟩⟩,rfl⟩
  ·rintro n st b N ⟨a,i,⟨hn,hQ⟩,e0⟩ hN
   cases e0
   rcases hQ with ⟨hn0,hQ⟩|⟨rfl,hQ⟩
   ·have c1:decide ((i:Int)<ticks)=true:=decide_eq_true (by omega)
    have hw:IntKind.wrap IntKind.i64 ((i:Int)+1)=((i+1:Nat):Int):=by rw[aJ (by omega) (by omega)];omega
    have q1:=hK a _ hQ task 1 (.inr (.inr (.inl (by simp))))
    obtain⟨a',hQ',q2⟩:=hT a _ hQ
    have hstep:∀{s:St},s=⟨gM 95 [(0,.p (.int .i64 task)),(1,.p (.int .i64 ticks)),(8,.addr 0 3 0 0),(9,.p (.bool true)),(10,.p (.int .i64 (IntKind.wrap IntKind.i64 ((i:Int)+1))))],[some (bN a' false)]⟩->N s:=fun e2=>by
     rw[hw] at e2;refine hN (n-1) _ (by omega) ⟨a',i+1,⟨by omega,?_⟩,e2⟩
     simp only[cB] at hQ'
     by_cases hl:ticks-(i:Int)-1=0
     ·rw[if_pos hl] at hQ'
      exact .inr ⟨by omega,hQ'⟩
     ·rw[if_neg hl] at hQ'
      refine .inl ⟨by omega,?_⟩
      rw[show ticks-((i+1:Nat):Int)=ticks-(i:Int)-1 by omega,decide_eq_true (show 0<i+1 by omega)]
      exact hQ'
    clear hN hK hY hT hS hW
    (repeat' ((conv=>whnf);first|exact trivial|with_reducible refine zX ?_|refine⟨rfl,?_⟩|refine⟨_,rfl,?_⟩|with_reducible refine zP ?_|with_reducible refine zL ?_|refine⟨fun _=>?_,fun _=>?_⟩|refine zO ?_|refine zn ?_|refine zb rfl ?_|refine zX ?_|refine zo rfl ?_|refine zs ?_|intro _|(with_reducible show testB.match_1 (fun _=>Prop) _ _ _;refine zT ?_)));all_goals (try (conv=>whnf))
    all_goals first
     |exact hstep rfl
   ·have c1:decide ((i:Int)<ticks)=false:=decide_eq_false (by omega)
    obtain⟨a',hQ',q1⟩:=hY a _ hQ task 2 hg.1.1 (by omega) (by simp;omega) (by simp)
    have q2:aM P 39 [.addr 0 3 0 0] [bN a' true] [some (bN a' false)] (.p (.int .i64 0)):=hS a' _ hQ';have q3:aM P 40 [.addr 0 3 0 0] [bN a' true] [some (bN a' false)] (.p (.int .i64 2)):=hW a' _ hQ';clear hN hK hY hT hS hW
    (repeat' ((conv=>whnf);first|exact trivial|with_reducible refine zX ?_|refine⟨rfl,?_⟩|refine⟨_,rfl,?_⟩|with_reducible refine zP ?_|with_reducible refine zL ?_|refine⟨fun _=>?_,fun _=>?_⟩|refine zO ?_|refine zn ?_|refine zb rfl ?_|refine zX ?_|refine zo rfl ?_|refine zs ?_|intro _|(with_reducible show testB.match_1 (fun _=>Prop) _ _ _;refine zT ?_)));all_goals (try (conv=>whnf))
    all_goals first
     |rfl
 ·have o:=gD n6 (if 0<task then 0 else task) ticks (.inl (by split<;>omega))
  refine Fn.run VZ rfl ?_;generalize Tryz.prog=P at *
  (repeat' ((conv=>whnf);first|exact trivial|with_reducible refine zX ?_|refine⟨rfl,?_⟩|refine⟨_,rfl,?_⟩|with_reducible refine zP ?_|with_reducible refine zL ?_|refine⟨fun _=>?_,fun _=>?_⟩|refine zO ?_|refine zn ?_|refine zb rfl ?_|refine zX ?_|refine zo rfl ?_|refine zs ?_|intro _|(with_reducible show testB.match_1 (fun _=>Prop) _ _ _;refine zT ?_)));all_goals (try (conv=>whnf))
  all_goals first
   |rfl
   |(exfalso;simp only[decide_eq_true_eq,decide_eq_false_iff_not] at *;omega)
theorem NU(nl:Bool)(asks:List Int):aB Tryz.prog 11 [.sl 1 nl (asks.map eI)] (.p (.bool true)):=by
 have hbeg:aB Tryz.prog 15 [] (.p (.bool true)):=pR;have hnew:=IJ;have hm:=bA
 have hY:∀(a:Ag) (Q:List Sv),a.Is Q->∀t k,1<=t->1<=k/\k<=1000->(Q.any fun x=>x.task ==t)=false->(Q.filter fun x => !x.was).length<12 ->
  ∃a':Ag,a'.Is (Q++[⟨t,k,false⟩])/\aM Tryz.prog 37 [.addr 0 3 0 0,.p (.int .i64 t),.p (.int .i64 k)] [bN a true] [some (bN a' false)] (.p (.bool true)):=fun a Q h t k h1 h2 h3 h4=>gJ h t k h1 h2 h3 h4
 have hT:∀(a:Ag) (Q:List Sv),a.Is Q->∃a':Ag,a'.Is (cB Q)/\aM Tryz.prog 38 [.addr 0 3 0 0] [bN a true] [some (bN a' false)] (.tup [.p (.int .i64 (bW Q).1),.p (.bool (bW Q).2)]):=fun a Q h=>uO h
 have hW:∀(a:Ag) (Q:List Sv),a.Is Q->aM Tryz.prog 40 [.addr 0 3 0 0] [bN a true] [some (bN a false)] (.p (.int .i64 ((Q.filter fun x => !x.was).length:Nat))):=fun a Q h=>iZ h
 have hN7:∀x:Int,0<=aL .and .i64 x 7/\aL .and .i64 x 7<=7:=fun x=>by simpa using oE x 7 (by decide)
 obtain⟨N,hNe,hN12,hNl⟩:∃N:Nat,(if (12:Int)<((asks.map eI).length:Int) then (12:Int) else ((asks.map eI).length:Int))=(N:Int)/\N<=12/\N<=asks.length:=by
  refine⟨min asks.length 12,?_,by omega,by omega⟩
  rw[List.length_map];split<;>omega
 let KF:Int->Int:=fun x=>1+aL .and .i64 x 7
 have hKF:∀x,KF x=1+aL .and .i64 x 7:=fun x=>rfl
 clear_value KF
 have hkb:∀l:List Int,∀y,y∈l.map KF->1<=y/\y<=8:=fun l y hy=>by
  obtain⟨x,_,rfl⟩:=List.mem_map.1 hy;have:=hN7 x;rw[hKF];omega
 have htk:∀i (h:i<asks.length),(asks.take (i+1)).map KF=(asks.take i).map KF++[KF asks[i]]:=fun i h=>by
  rw[List.take_succ_eq_append_getElem h,List.map_append];rfl
 refine Fn.run k11 rfl ?_;generalize Tryz.prog=P at *
 (repeat' ((conv=>whnf);first|exact trivial|with_reducible refine zX ?_|refine⟨rfl,?_⟩|refine⟨_,rfl,?_⟩|with_reducible refine zP ?_|with_reducible refine zL ?_|refine⟨fun _=>?_,fun _=>?_⟩|refine zO ?_|refine zn ?_|refine zb rfl ?_|refine zX ?_|refine zo rfl ?_|refine zs ?_|intro _|(with_reducible show testB.match_1 (fun _=>Prop) _ _ _;refine zT ?_)));all_goals (try (conv=>whnf))
 rw[hNe]
 refine aX (fun n s=>∃(a:Ag) (i:Nat) (nb:Bool),(i+n=N/\a.Is (fC 0 ((asks.take i).map KF))) /\
  s=⟨gM 95 [(0,.p (.sl 1 nl (asks.map eI))),(4,.addr 0 3 0 0),(5,.p (.int .i64 N)),(6,.p (.int .i64 (aP ((asks.take i).map KF)))),(7,.ow 1 nb ((bR 0 ((asks.take i).map KF)).map eI)),(8,.p (.int .i64 i))],[some (bN a false)]⟩) N ?_ ?_
 ·conv=>whnf
  exact⟨ag0,0,true,⟨by omega,n6⟩,rfl⟩
 ·rintro n st b N1 ⟨a,i,nb,⟨hn,hQ⟩,e0⟩ hN
  cases e0
  by_cases hlt:i<N
  ·have c1:decide ((i:Int)<(N:Int))=true:=decide_eq_true (by omega)
   have hil:i<asks.length:=by omega
   have hr1:(asks.map eI)[i]?=some (.int .i64 asks[i]):=by simp[hil,eI]
   have h7:=hN7 asks[i];have htki:=htk i hil;rw[hKF] at htki;generalize asks[i]=x at *;have hl:((asks.take i).map KF).length=i:=by simp;omega
   have hsb:=d8 _ (hkb (asks.take i));have hel:=kB ((asks.take i).map KF) 0;rw[hl] at hel hsb;have e1:IntKind.wrap IntKind.i64 (1+aL .and .i64 x 7)=1+aL .and .i64 x 7:=aJ (by omega) (by omega)
   have e2:IntKind.wrap IntKind.i64 ((i:Int)+1)=((i+1:Nat):Int):=by rw[aJ (by omega) (by omega)];omega
   have hw12:=nH ((asks.take i).map KF) 0;obtain⟨a',hQ',q1⟩:=hY a _ hQ (IntKind.wrap IntKind.i64 ((i:Int)+1)) (IntKind.wrap IntKind.i64 (1+aL .and .i64 x 7)) (by rw[e2];omega) (by rw[e1];omega) (uH _ 0 _ (by rw[hl,e2];omega)) (by rw[hw12,hl];omega)
   have hstep:∀{s:St} {nb':Bool},s=⟨gM 95 [(0,.p (.sl 1 nl (asks.map eI))),(4,.addr 0 3 0 0),(5,.p (.int .i64 N)),(6,.p (.int .i64 (IntKind.wrap IntKind.i64 (aP ((asks.take i).map KF)+IntKind.wrap IntKind.i64 (1+aL .and .i64 x 7))))),(7,.ow 1 nb' ((bR 0 ((asks.take i).map KF)).map eI++[.int .i64 (IntKind.wrap IntKind.i64 (aP ((asks.take i).map KF)+IntKind.wrap IntKind.i64 (1+aL .and .i64 x 7)))])),(8,.p (.int .i64 (IntKind.wrap IntKind.i64 ((i:Int)+1))))],[some (bN a' false)]⟩->N1 s:=fun {s nb'} e3=>by
    refine hN (n-1) _ (by omega) ⟨a',i+1,nb',⟨by omega,?_⟩,?_⟩
    ·rw[htki,uG,hl]
     rw[e1,e2] at hQ'
     simpa using hQ'
    ·rw[e3,htki,lC,qE,e1,e2,aJ (n:=aP ((asks.take i).map KF)+(1+aL .and .i64 x 7)) (by omega) (by omega)]
     simp only[List.map_append,List.map_cons,List.map_nil,eI,Int.zero_add]
   have hlen:((bR 0 ((asks.take i).map KF)).map eI).length<=11:=by rw[List.length_map,hel];omega
   have hlen2:(bR 0 ((asks.take i).map KF)).length<=11:=by rw[hel];omega
   clear hN hY hT hW hkb htk hKF hN7
   (repeat' ((conv=>whnf);first|exact trivial|with_reducible refine zX ?_|refine⟨rfl,?_⟩|refine⟨_,rfl,?_⟩|with_reducible refine zP ?_|with_reducible refine zL ?_|refine⟨fun _=>?_,fun _=>?_⟩|refine zO ?_|refine zn ?_|refine zb rfl ?_|refine zX ?_|refine zo rfl ?_|refine zs ?_|intro _|(with_reducible show testB.match_1 (fun _=>Prop) _ _ _;refine zT ?_)));all_goals (try (conv=>whnf))
   all_goals first
    |exact hstep rfl
  ·have hiN:i=N:=by omega
   subst hiN;have c1:decide ((i:Int)<(i:Int))=false:=decide_eq_false (by omega)
   have hl:((asks.take i).map KF).length=i:=by simp;omega
   have hkb':=hkb (asks.take i);have hsb:=d8 _ hkb';rw[hl] at hsb;generalize (asks.take i).map KF=ks at *;clear hY hkb htk hN hN7 hNe hNl
   (repeat' ((conv=>whnf);first|exact trivial|with_reducible refine zX ?_|refine⟨rfl,?_⟩|refine⟨_,rfl,?_⟩|with_reducible refine zP ?_|with_reducible refine zL ?_|refine⟨fun _=>?_,fun _=>?_⟩|refine zO ?_|refine zn ?_|refine zb rfl ?_|refine zX ?_|refine zo rfl ?_|refine zs ?_|intro _|(with_reducible show testB.match_1 (fun _=>Prop) _ _ _;refine zT ?_)));all_goals (try (conv=>whnf))
   refine aX (fun n s=>∃(a:Ag) (tt:Int) (at':Nat),((n:Int)=aP ks+1-tt/\((tt=aP ks+1/\at'=i/\a.Is [])\/∃pre k rest e Q,OnQ ks pre k rest e Q/\a.Is Q/\tt=aP pre+e+1/\at'=pre.length)) /\
    s=⟨gM 95 [(4,.addr 0 3 0 0),(5,.p (.int .i64 i)),(6,.p (.int .i64 (aP ks))),(7,.ow 1 nb ((bR 0 ks).map eI)),(10,.p (.int .i64 at')),(11,.p (.int .i64 tt))],[some (bN a false)]⟩) (aP ks).toNat ?_ ?_
   ·conv=>whnf
    refine⟨a,1,0,⟨by omega,?_⟩,rfl⟩
    cases ks with
    |nil=>exact .inl ⟨rfl,hl,hQ⟩
    |cons k ks=>exact .inr ⟨[],k,ks,0,_,pV (hkb' k List.mem_cons_self).1,hQ,by simp[aP],rfl⟩
   ·rintro n2 st2 b2 N2 ⟨a2,tt,at',⟨hn2,hc⟩,e0⟩ hN2
    cases e0
    rcases hc with ⟨rfl,rfl,hQ2⟩|⟨pre,k,rest,e,Q,hO,hQ2,rfl,rfl⟩
    ·have d1:decide (aP ks+1<=aP ks)=false:=decide_eq_false (by omega)
     obtain⟨a3,hQ3,q1⟩:=hT a2 _ hQ2;have q1:aM P 38 [.addr 0 3 0 0] [bN a2 true] [some (bN a3 false)] (.tup [.p (.int .i64 0),.p (.bool false)]):=q1;have q2:aM P 40 [.addr 0 3 0 0] [bN a3 true] [some (bN a3 false)] (.p (.int .i64 0)):=hW a3 _ hQ3;clear hT hW hN2
     (repeat' ((conv=>whnf);first|exact trivial|with_reducible refine zX ?_|refine⟨rfl,?_⟩|refine⟨_,rfl,?_⟩|with_reducible refine zP ?_|with_reducible refine zL ?_|refine⟨fun _=>?_,fun _=>?_⟩|refine zO ?_|refine zn ?_|refine zb rfl ?_|refine zX ?_|refine zo rfl ?_|refine zs ?_|intro _|(with_reducible show testB.match_1 (fun _=>Prop) _ _ _;refine zT ?_)));all_goals (try (conv=>whnf))
     all_goals first
      |rfl
      |exact aO (by simp)
    ·have hall:=hO.all
     have hpl:ks.length=pre.length+1+rest.length:=by rw[hall];simp;omega
     have hsum:aP ks=aP pre+k+aP rest:=by
      have:∀l:List Int,aP (l++k ::rest)=aP l+k+aP rest:=fun l=>by
       induction l with
       |nil=>simp[aP]
       |cons y l ih=>simp only[List.cons_append,aP,ih];omega
      rw[hall,this]
     have hrb:=d8 rest fun y hy=>hkb' y (by rw[hall];simp[hy])
     have hpb:=d8 pre fun y hy=>hkb' y (by rw[hall];simp[hy])
     have he0:=hO.e0;have he1:=hO.e1;have d1:decide (aP pre+e+1<=aP ks)=true:=decide_eq_true (by omega)
     have hrow:((bR 0 ks).map eI)[pre.length]?=some (.int .i64 (aP pre+k)):=by
      rw[List.getElem?_map,hall,pK];simp[eI]
     obtain⟨a3,hQ3,q1⟩:=hT a2 _ hQ2;rw[hO.tells] at q1;have f1:IntKind.wrap IntKind.i64 ((pre.length:Int)+1)=(pre.length:Int)+1:=aJ (by omega) (by omega)
     have c2:(((pre.length:Int)+1) !=IntKind.wrap IntKind.i64 ((pre.length:Int)+1))=false:=by rw[f1];simp
     have f2:IntKind.wrap IntKind.i64 (aP pre+e+1+1)=aP pre+e+1+1:=aJ (by omega) (by omega)
     by_cases hek:e+1=k
     ·rw[decide_eq_true hek] at q1
      dsimp only at q1;have c3:(!(true ==(aP pre+e+1 ==aP pre+k)))=false:=by rw[show (aP pre+e+1 ==aP pre+k)=true by simp;omega];rfl
      have hstep:∀{s:St},s=⟨gM 95 [(4,.addr 0 3 0 0),(5,.p (.int .i64 i)),(6,.p (.int .i64 (aP ks))),(7,.ow 1 nb ((bR 0 ks).map eI)),(10,.p (.int .i64 (IntKind.wrap IntKind.i64 ((pre.length:Int)+1)))),(11,.p (.int .i64 (IntKind.wrap IntKind.i64 (aP pre+e+1+1))))],[some (bN a3 false)]⟩->N2 s:=fun e3=>by
       refine hN2 (n2-1) _ (by omega) ⟨a3,aP pre+e+1+1,pre.length+1,⟨by omega,?_⟩,?_⟩
       ·cases rest with
        |nil=>
         rw[hO.fin hek] at hQ3;refine .inl ⟨by simp only[aP] at hsum;omega,by simp at hpl;omega,hQ3⟩
        |cons k2 rest=>
         have hk2:=hkb' k2 (by rw[hall];simp)
         exact .inr ⟨pre++[k],k2,rest,0,_,hO.nxt hek hk2.1,hQ3,by rw[lC];omega,by simp⟩
       ·rw[e3,f1,f2];rfl
      clear hT hW hN2
      (repeat' ((conv=>whnf);first|exact trivial|with_reducible refine zX ?_|refine⟨rfl,?_⟩|refine⟨_,rfl,?_⟩|with_reducible refine zP ?_|with_reducible refine zL ?_|refine⟨fun _=>?_,fun _=>?_⟩|refine zO ?_|refine zn ?_|refine zb rfl ?_|refine zX ?_|refine zo rfl ?_|refine zs ?_|intro _|(with_reducible show testB.match_1 (fun _=>Prop) _ _ _;refine zT ?_)));all_goals (try (conv=>whnf))
      all_goals first
       |exact hstep rfl
       |(exfalso;rename_i hx;rw[if_pos rfl] at hx;exact absurd (hx.symm.trans c3) (by decide))
     ·rw[decide_eq_false hek] at q1
      dsimp only at q1;have c3:(!(false ==(aP pre+e+1 ==aP pre+k)))=false:=by rw[show (aP pre+e+1 ==aP pre+k)=false by simp;omega];rfl
      have hstep:∀{s:St},s=⟨gM 95 [(4,.addr 0 3 0 0),(5,.p (.int .i64 i)),(6,.p (.int .i64 (aP ks))),(7,.ow 1 nb ((bR 0 ks).map eI)),(10,.p (.int .i64 (pre.length:Nat))),(11,.p (.int .i64 (IntKind.wrap IntKind.i64 (aP pre+e+1+1))))],[some (bN a3 false)]⟩->N2 s:=fun e3=>by
       refine hN2 (n2-1) _ (by omega) ⟨a3,aP pre+e+1+1,pre.length,⟨by omega,.inr ⟨pre,k,rest,e+1,_,hO.on (by omega),hQ3,by omega,rfl⟩⟩,?_⟩
       rw[e3,f2]
      clear hT hW hN2
      (repeat' ((conv=>whnf);first|exact trivial|with_reducible refine zX ?_|refine⟨rfl,?_⟩|refine⟨_,rfl,?_⟩|with_reducible refine zP ?_|with_reducible refine zL ?_|refine⟨fun _=>?_,fun _=>?_⟩|refine zO ?_|refine zn ?_|refine zb rfl ?_|refine zX ?_|refine zo rfl ?_|refine zs ?_|intro _|(with_reducible show testB.match_1 (fun _=>Prop) _ _ _;refine zT ?_)));all_goals (try (conv=>whnf))
      all_goals first
       |exact hstep rfl
       |(exfalso;rename_i hx;rw[if_pos rfl] at hx;exact absurd (hx.symm.trans c3) (by decide))
end Go.Proofs.YtnjphclbpgajpaaGreatDoor.Vc
