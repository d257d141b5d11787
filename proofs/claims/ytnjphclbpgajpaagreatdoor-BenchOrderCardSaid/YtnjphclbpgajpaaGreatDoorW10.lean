/- Part of a proof over a Go program: Fw. No condition. -/
import Derived.Test.YtnjphclbpgajpaaGreatDoorW08
import Derived.Test.YtnjphclbpgajpaaGreatDoorProg
set_option linter.unnecessarySimpa false
set_option linter.unusedSectionVars false
set_option linter.unusedSimpArgs false
set_option linter.unusedVariables false
set_option maxHeartbeats 4000000
set_option maxRecDepth 100000
namespace Go.Proofs.YtnjphclbpgajpaaGreatDoor.Vc
open Go.RowKit
def F8:Fn:=⟨100,0,[.tmp 2],
 (.sr [mc 2 (.bool false)]
 (.sr [ii 10 (.call 15) [],
 mt 3 10]
 (.seq
 (.sr [mv 11 3,
 ii 12 (.un .not) [.t 11]]
 (.cond (.t 12)
 (.sr [mc 2 (.bool false)]
 .ret)
 .skip))
 (.sr [ii 13 (.ob (.callo 27 true)) [],
 mt 4 13]
 (.sr [mv 14 0,
 ii 15 .len [.t 14],
 ii 16 .mn [.t 15,cI 12],
 mt 5 16]
 (.seq
 (.sr [mc 6 (.int .i64 0)]
 (.block 0
 (.loop [2,3,7,8,9,10,11,12,13,14,15,16,17,18,19,20,21,22,23,24,25,26,27,28,29,30,31,32,33,34,35,36,37,38,39,40,41,42,43,44,45,46,47,48,49,50,51,52,53,54,55,56,57,58,59,60,61,62,63,64,65,66,67,68,69,70,71,72,73,74,75,76,77,78,79,80,81,82,83,84,85,86,87,88,89,90,91,92,93,94,95,96,97,98,99] []
 (.seq
 (.sr [mv 17 6,
 mv 18 5,
 b2 19 .lss 17 18]
 (.cond (.t 19)
 .skip
 (.exit 0)))
 (.seq
 (.block 1
 (.sr [mv 22 4,
 mv 23 6,
 b1 24 .add 23 (.int .i64 1),
 mv 25 0,
 mv 26 6,
 ii 27 (.iad 1) [.t 25,.t 26],
 ld 28 27,
 b1 29 .and 28 (.int .i64 15),
 ii 30 (.ob (.callo 28 true)) [.t 22,.t 24,.t 29],
 ii 31 (.un .not) [.t 30]]
 (.cond (.t 31)
 (.sr [mc 2 (.bool false)]
 .ret)
 .skip)))
 (.reg [mv 20 6,
 b1 21 .add 20 (.int .i64 1),
 mt 6 21]))))))
 (.sr [mc 7 (.int .i64 0)]
 (.seq
 (.sr [mc 8 (.int .i64 0)]
 (.block 2
 (.loop [2,3,6,9,10,11,12,13,14,15,16,17,18,19,20,21,22,23,24,25,26,27,28,29,30,31,32,33,34,35,36,37,38,39,40,41,42,43,44,45,46,47,48,49,50,51,52,53,54,55,56,57,58,59,60,61,62,63,64,65,66,67,68,69,70,71,72,73,74,75,76,77,78,79,80,81,82,83,84,85,86,87,88,89,90,91,92,93,94,95,96,97,98,99] []
 (.seq
 (.sr [mv 32 8,
 mv 33 5,
 b2 34 .lss 32 33]
 (.cond (.t 34)
 .skip
 (.exit 2)))
 (.seq
 (.block 3
 (.sr [mv 37 4,
 ii 38 (.ob (.callo 30 false)) [.t 37],
 mt 9 38]
 (.seq
 (.seq
 (.regd [mv 39 9,
 b1 40 .lss 39 (.int .i64 1),
 mv 41 40,
 gf 42 41 (.mov false) [.t 9],
 gf 43 41 (.mov false) [.t 5],
 gf 44 41 (.bin .gtr) [.t 42,.t 43],
 ii 45 .pick [.t 41,.c (.p (.bool true)),.t 44],
 mv 46 45,
 gf 47 46 (.mov false) [.t 7],
 gf 48 46 (.bin .gtr) [.t 47,cI 0],
 gf 49 46 (.mov false) [.t 48],
 gt 50 49 (.mov false) [.t 0],
 gt 51 49 (.mov false) [.t 7],
 gt 52 49 (.bin .sub) [.t 51,cI 1],
 gt 53 49 (.iad 1) [.t 50,.t 52],
 gt 54 49 (.loadp 1 false) [.t 53],
 gt 55 49 (.bin .and) [.t 54,cI 15],
 gt 56 49 (.mov false) [.t 0],
 gt 57 49 (.mov false) [.t 9],
 gt 58 49 (.bin .sub) [.t 57,cI 1],
 gt 59 49 (.iad 1) [.t 56,.t 58],
 gt 60 49 (.loadp 1 false) [.t 59],
 gt 61 49 (.bin .and) [.t 60,cI 15],
 gt 62 49 (.bin .gtr) [.t 55,.t 61],
 gt 63 49 (.mov false) [.t 62],
 gf 64 63 (.mov false) [.t 0],
 gf 65 63 (.mov false) [.t 7],
 gf 66 63 (.bin .sub) [.t 65,cI 1],
 gf 67 63 (.iad 1) [.t 64,.t 66],
 gf 68 63 (.loadp 1 false) [.t 67],
 gf 69 63 (.bin .and) [.t 68,cI 15],
 gf 70 63 (.mov false) [.t 0],
 gf 71 63 (.mov false) [.t 9],
 gf 72 63 (.bin .sub) [.t 71,cI 1],
 gf 73 63 (.iad 1) [.t 70,.t 72],
 gf 74 63 (.loadp 1 false) [.t 73],
 gf 75 63 (.bin .and) [.t 74,cI 15],
 gf 76 63 (.bin .eql) [.t 69,.t 75],
 gf 77 63 (.mov false) [.t 76],
 gt 78 77 (.mov false) [.t 7],
 gt 79 77 (.mov false) [.t 9],
 gt 80 77 (.bin .gtr) [.t 78,.t 79],
 gf 81 63 .pick [.t 77,.t 80,.c (.p (.bool false))],
 gt 82 49 .pick [.t 63,.c (.p (.bool true)),.t 81],
 gf 83 46 .pick [.t 49,.t 82,.c (.p (.bool false))],
 ii 84 .pick [.t 46,.c (.p (.bool true)),.t 83],
 mv 85 84,
 gf 86 85 (.mov false) [.t 4],
 gf 87 85 (.mov false) [.t 9],
 gf 88 85 (.ob (.callo 29 false)) [.t 86,.t 87],
 gf 89 85 (.un .not) [.t 88],
 ii 90 .pick [.t 85,.c (.p (.bool true)),.t 89]])
 (.cond (.t 90)
 (.sr [mc 2 (.bool false)]
 .ret)
 .skip))
 (.reg [mv 91 9,
 mt 7 91]))))
 (.reg [mv 35 8,
 b1 36 .add 35 (.int .i64 1),
 mt 8 36]))))))
 (.sr [mv 92 4,
 ii 93 (.ob (.callo 30 false)) [.t 92],
 b1 94 .eql 93 (.int .i64 0),
 mv 95 94,
 gt 96 95 (.mov false) [.t 4],
 gt 97 95 (.ob (.callo 31 false)) [.t 96],
 gt 98 95 (.bin .eql) [.t 97,cI 0],
 ii 99 .pick [.t 95,.t 98,.c (.p (.bool false))],
 mt 2 99]
 .ret)))))))))⟩
theorem k8:aI Tryz.prog 8 F8=true:=by kernel_rfl
end Go.Proofs.YtnjphclbpgajpaaGreatDoor.Vc
