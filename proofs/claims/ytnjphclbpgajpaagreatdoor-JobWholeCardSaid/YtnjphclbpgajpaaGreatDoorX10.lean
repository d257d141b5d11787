/- Part of a proof over a Go program: Fn4, Fn5. No condition. -/
import Derived.Test.YtnjphclbpgajpaaGreatDoorX08
import Derived.Test.YtnjphclbpgajpaaGreatDoorProg
set_option linter.unnecessarySimpa false
set_option linter.unusedSectionVars false
set_option linter.unusedSimpArgs false
set_option linter.unusedVariables false
namespace Go.Proofs.YtnjphclbpgajpaaGreatDoor.Vc
open Go.RowKit
def RC:Fn:=⟨89,3,[.cell 4 4,.tmp 5],
 (.sr [ii 2 (.box 0 5) [.t 0],
 ⟨some 4,none,.alloc 1 4 [Z0,Z0,Z0,.ow 3 true []],[]⟩,
 mc 5 (.int .i64 0)]
 (.sr [mv 17 1,
 ⟨some 18,none,.call 261,[.t 17,.c (.p (.str ⟨#[32]⟩))]⟩,
 mt 6 18]
 (.sr [mv 19 6,
 ii 20 (.iad 1) [.t 19,cI 0],
 ld 21 20,
 ⟨some 22,none,.call 261,[.t 21,.c (.p (.str ⟨#[47]⟩))]⟩,
 mt 7 22]
 (.seq
 (.sr [mv 23 7,
 ii 24 .len [.t 23],
 b1 25 .neq 24 (.int .i64 3)]
 (.cond (.t 25)
 (.seq
 (.gp (.reg [⟨some 26,none,.build [.int .i64 0,.int .i64 0,.int .i64 0,.sl 3 true []] [],[]⟩,
 ⟨none,none,.store 4,[.t 4,.t 26]⟩,
 mc 5 (.int .i64 1)]) (.lay 1 4))
 .ret)
 .skip))
 (.seq
 (.gp (.pre [8,59,70] [] [2] (.rega [mv 27 7,
 ii 28 (.iad 1) [.t 27,cI 0],
 ii 29 (.loadp 1 false) [.t 28],
 ii 30 (.pl (.call 262)) [.t 29],
 mv 31 7,
 ii 32 (.iad 1) [.t 31,cI 1],
 ii 33 (.loadp 1 false) [.t 32],
 ii 34 (.pl (.call 262)) [.t 33],
 mv 35 7,
 ii 36 (.iad 1) [.t 35,cI 2],
 ii 37 (.loadp 1 false) [.t 36],
 ii 38 (.pl (.call 262)) [.t 37],
 ⟨some 39,none,.build [.int .i64 0,.int .i64 0,.int .i64 0,.sl 3 true []] [(0,1),(1,1),(2,1)],[.t 30,.t 34,.t 38]⟩,
 ⟨some 8,none,.alloc 2 4 [Z0,Z0,Z0,.ow 3 true []],[]⟩,
 ⟨none,none,.at 2 (.store 4),[.t 8,.t 39]⟩])) (.lay 2 4))
 (.seq
 (.sr [mv 40 6,
 ii 41 (.slc 1 true false) [.t 40,cI 1],
 ii 42 .len [.t 41],
 ii 43 (.mov false) [cI 0]]
 (.block 0
 (.loop [0,5,6,7,10,11,12,13,14,15,16,17,18,19,20,21,22,23,24,25,26,27,28,29,30,31,32,33,34,35,36,37,38,39,40,44,45,46,47,48,49,50,51,52,53,54,55,56,57,58,59,60,61,62,63,64,65,66,67,68,69,70,71,72,73,74,75,76,77,78,79,80,81,82,83,84,85,86,87,88] []
 (.sr [b2 44 .lss 43 42]
 (.seq
 (.cond (.t 44)
 .skip
 (.exit 0))
 (.seq
 (.block 1
 (.sr [ii 45 (.iad 1) [.t 41,.t 43],
 ld 46 45,
 mt 10 46]
 (.sr [mv 48 10,
 ⟨some 49,none,.call 263,[.t 48,.c (.p (.str ⟨#[64]⟩))]⟩,
 mv 47 49,
 ii 50 (.ext 0) [.t 47],
 ii 51 (.ext 1) [.t 47],
 ii 52 (.ext 2) [.t 47],
 mt 11 50,
 mt 12 51,
 mt 13 52]
 (.sr [mv 54 12,
 ⟨some 55,none,.call 263,[.t 54,.c (.p (.str ⟨#[43]⟩))]⟩,
 mv 53 55,
 ii 56 (.ext 0) [.t 53],
 ii 57 (.ext 1) [.t 53],
 ii 58 (.ext 2) [.t 53],
 mt 14 56,
 mt 15 57,
 mt 16 58]
 (.gp (.regd [fa 59 3 8,
 ii 60 (.at 2 (.load 1 false true)) [.t 59],
 mv 61 11,
 ii 62 (.pl (.call 262)) [.t 61],
 mv 63 14,
 ii 64 (.pl (.call 262)) [.t 63],
 mv 65 15,
 ii 66 (.pl (.call 262)) [.t 65],
 ⟨some 67,none,.build [.int .i64 0,.int .i64 0,.int .i64 0] [(0,1),(1,1),(2,1)],[.t 62,.t 64,.t 66]⟩,
 ii 68 (.bsl 3 1) [.t 67],
 ii 69 (.pl (.app 3 24)) [.t 60,.t 68],
 fa 70 3 8,
 ⟨none,none,.at 2 (.store 1),[.t 70,.t 69]⟩]) (.lay 2 4))))))
 (.reg [b1 71 .add 43 (.int .i64 1),
 mv 43 71])))))))
 (.seq
 (.sr [ii 72 (.load 5 true false) [.t 2],
 ii 73 (.call 80) [.t 72],
 ii 74 (.un .not) [.t 73],
 mv 75 74,
 gf 76 75 (.load 5 true false) [.t 2],
 gf 77 75 (.load 4 true false) [.t 8],
 gf 78 75 (.call 81) [.t 76,.t 77],
 gf 79 75 (.un .not) [.t 78],
 ii 80 .pick [.t 75,.c (.p (.bool true)),.t 79],
 mv 81 80,
 gf 82 81 (.load 4 true false) [.t 8],
 gf 83 81 (.call 253) [.t 82],
 gf 84 81 (.mov false) [.t 1],
 gf 85 81 (.bin .neq) [.t 83,.t 84],
 ii 86 .pick [.t 81,.c (.p (.bool true)),.t 85]]
 (.cond (.t 86)
 (.seq
 (.gp (.reg [⟨some 87,none,.build [.int .i64 0,.int .i64 0,.int .i64 0,.sl 3 true []] [],[]⟩,
 ⟨none,none,.store 4,[.t 4,.t 87]⟩,
 mc 5 (.int .i64 1)]) (.lay 1 4))
 .ret)
 .skip))
 (.seq
 (.gp (.reg [ii 88 (.load 4 true false) [.t 8],
 ⟨none,none,.store 4,[.t 4,.t 88]⟩,
 mc 5 (.int .i64 0)]) (.lay 1 4))
 .ret))))))))⟩
theorem US:aC Tryz.prog 255 RC=true:=by kernel_rfl
def QP:Fn:=⟨2,0,[.tmp 0],
 (.sr [mc 0 (.bool false)]
 (.sr [ii 1 (.call 166) [],
 mt 0 1]
 .ret))⟩
theorem V8:aC Tryz.prog 121 QP=true:=by kernel_rfl
def PX:Fn:=⟨31,2,[.tmp 4],
 (.sr [ii 2 (.box 0 4) [.t 0],
 ii 3 (.box 1 4) [.t 1],
 mc 4 (.bool false)]
 (.sr [fa 5 0 2,
 ld 6 5,
 fa 7 0 3,
 ld 8 7,
 b2 9 .eql 6 8,
 mv 10 9,
 gt 11 10 (.fad 1) [.t 2],
 gt 12 10 (.load 1 false false) [.t 11],
 gt 13 10 (.fad 1) [.t 3],
 gt 14 10 (.load 1 false false) [.t 13],
 gt 15 10 (.bin .eql) [.t 12,.t 14],
 ii 16 .pick [.t 10,.t 15,.c (.p (.bool false))],
 mv 17 16,
 gt 18 17 (.fad 2) [.t 2],
 gt 19 17 (.load 1 false false) [.t 18],
 gt 20 17 (.fad 2) [.t 3],
 gt 21 17 (.load 1 false false) [.t 20],
 gt 22 17 (.bin .eql) [.t 19,.t 21],
 ii 23 .pick [.t 17,.t 22,.c (.p (.bool false))],
 mv 24 23,
 gt 25 24 (.fad 3) [.t 2],
 gt 26 24 (.load 1 false false) [.t 25],
 gt 27 24 (.fad 3) [.t 3],
 gt 28 24 (.load 1 false false) [.t 27],
 gt 29 24 (.call 264) [.t 26,.t 28],
 ii 30 .pick [.t 24,.t 29,.c (.p (.bool false))],
 mt 4 30]
 .ret))⟩
theorem TZ:aC Tryz.prog 256 PX=true:=by kernel_rfl
def Q8:Fn:=⟨38,4,[.tmp 4],
 (.sr [ii 2 (.box 0 5) [.t 0],
 ii 3 (.box 1 4) [.t 1],
 ii 4 (.mov true) [.c (.ow 1 true [])]]
 (.seq
 (.sr [ii 8 (.load 5 true false) [.t 2],
 ii 9 (.call 80) [.t 8],
 ii 10 (.un .not) [.t 9],
 mv 11 10,
 gf 12 11 (.load 5 true false) [.t 2],
 gf 13 11 (.load 4 true false) [.t 3],
 gf 14 11 (.call 81) [.t 12,.t 13],
 gf 15 11 (.un .not) [.t 14],
 ii 16 .pick [.t 11,.c (.p (.bool true)),.t 15]]
 (.cond (.t 16)
 (.sr [ii 4 (.mov true) [.c (.ow 1 true [])]]
 .ret)
 .skip))
 (.sr [ii 5 (.mov true) [.c (.ow 1 true [])]]
 (.seq
 (.sr [fa 17 3 3,
 ld 18 17,
 ii 19 .len [.t 18],
 ii 20 (.mov false) [cI 0]]
 (.block 0
 (.loop [0,1,3,4,7,8,9,10,11,12,13,14,15,16,17,21,22,23,24,25,26,27,28,29,30,31,32,33,34,35,36,37] [2]
 (.sr [b2 21 .lss 20 19]
 (.seq
 (.cond (.t 21)
 .skip
 (.exit 0))
 (.seq
 (.block 1
 (.sr [ii 22 (.iad 3) [.t 18,.t 20],
 ii 23 (.load 3 true false) [.t 22],
 ⟨some 7,none,.alloc 2 3 [Z0,Z0,Z0],[]⟩,
 ⟨none,none,.store 3,[.t 7,.t 23]⟩]
 (.reg [mt 24 5,
 fa 25 4 2,
 ld 26 25,
 fa 27 0 7,
 ld 28 27,
 ii 29 (.iad 1) [.t 26,.t 28],
 ld 30 29,
 ii 31 (.bsl 1 1) [.t 30],
 ii 32 (.app 1 8) [.t 24,.t 31],
 mt 5 32])))
 (.reg [b1 33 .add 20 (.int .i64 1),
 mv 20 33])))))))
 (.seq
 (.pre [0,1,2,3,4,7,8,9,10,11,12,13,14,15,16,17,18,19,20,21,22,23,24,25,26,27,28,29,30,31,32,33,34,35,36,37] [] [0,1,2] (.own 5 3 false (.reg [mv 34 5,
 ii 35 (.callm 265 3) [.t 34]])))
 (.seq
 (.pre [] [3] [] (.reg [mv 36 5,
 ii 37 (.call 266) [.t 36],
 mt 4 37]))
 (.pre [] [3] [] .ret)))))))⟩
theorem YD:aC Tryz.prog 257 Q8=true:=by kernel_rfl
def OF:Fn:=⟨5,0,[.tmp 2],
 (.sr [⟨some 2,none,.mov true,[.c (.p (.str ⟨#[]⟩))]⟩]
 (.sr [mv 3 0,
 ii 4 (.call 267) [.t 3,cI 10],
 mt 2 4]
 .ret))⟩
theorem V4:aC Tryz.prog 258 OF=true:=by kernel_rfl
def SH:Fn:=⟨3,1,[.cell 0 5],
 (.sr [⟨some 0,none,.alloc 0 5 [Z0,Z0,Z0,Z0,.ow 1 true []],[]⟩]
 (.seq
 (.gp (.reg [ii 1 (.mkz 1 8 (.int .i64 0)) [cI 6,cI 6],
 ⟨some 2,none,.build [.int .i64 0,.int .i64 0,.int .i64 0,.int .i64 0,.sl 1 true []] [(0,1),(1,1),(4,1)],[cI 1,cI 1,.t 1]⟩,
 ⟨none,none,.store 5,[.t 0,.t 2]⟩]) (.lay 0 5))
 .ret))⟩
theorem WS:aC Tryz.prog 260 SH=true:=by kernel_rfl
def SY:Fn:=⟨8,0,[.tmp 4],
 (.sr [ii 4 (.mov true) [.c (.ow 1 true [])]]
 (.sr [mv 5 0,
 mv 6 1,
 ii 7 (.call 271) [.t 5,.t 6,cI 0,.c (.p (.int .i64 (-1)))],
 mt 4 7]
 .ret))⟩
theorem VL:aC Tryz.prog 261 SY=true:=by kernel_rfl
def XT:Fn:=⟨13,0,[.tmp 2],
 (.sr [mc 2 (.int .i64 0)]
 (.sr [mv 6 0,
 ii 7 (.call 272) [.t 6,cI 10,cI 32],
 mv 5 7,
 ii 8 (.ext 0) [.t 5],
 ii 9 (.ext 1) [.t 5],
 mt 3 8,
 mt 4 9]
 (.seq
 (.sr [mv 10 4,
 ii 11 (.eqat true) [.t 10,.c (.p (.atom .nilIface))]]
 (.cond (.t 11)
 (.sr [mc 2 (.int .i64 (-1))]
 .ret)
 .skip))
 (.sr [mv 12 3,
 mt 2 12]
 .ret))))⟩
theorem a0R:aC Tryz.prog 262 XT=true:=by kernel_rfl
def RJ:Fn:=⟨13,0,[.tmp 4,.tmp 5,.tmp 6],
 (.sr [⟨some 4,none,.mov true,[.c (.p (.str ⟨#[]⟩))]⟩,
 ⟨some 5,none,.mov true,[.c (.p (.str ⟨#[]⟩))]⟩,
 mc 6 (.bool false)]
 (.sr [mv 7 0,
 mv 8 1,
 ii 9 (.call 273) [.t 7,.t 8],
 ii 10 (.ext 0) [.t 9],
 ii 11 (.ext 1) [.t 9],
 ii 12 (.ext 2) [.t 9],
 mt 4 10,
 mt 5 11,
 mt 6 12]
 .ret))⟩
theorem XS:aC Tryz.prog 263 RJ=true:=by kernel_rfl
def SV:Fn:=⟨55,0,[.tmp 0],
 (.sr [mc 0 (.bool false)]
 (.sr [ii 8 (.call 193) [cI 4611686018427387904,cI 4611686018427387904],
 mv 7 8,
 ii 9 (.ext 0) [.t 7],
 ii 10 (.ext 1) [.t 7],
 mt 1 9,
 mt 2 10]
 (.sr [ii 12 (.call 194) [.c (.p (.int .i64 (-3))),cI 5],
 mv 11 12,
 ii 13 (.ext 0) [.t 11],
 ii 14 (.ext 1) [.t 11],
 mt 3 13,
 mt 4 14]
 (.sr [ii 16 (.bsl 1 3) [cI 4611686018427387904,cI 4611686018427387904,.c (.p (.int .i64 (-4611686018427387904)))],
 ii 17 (.call 195) [.t 16],
 mv 15 17,
 ii 18 (.ext 0) [.t 15],
 ii 19 (.ext 1) [.t 15],
 mt 5 18,
 mt 6 19]
 (.sr [mv 20 1,
 b1 21 .eql 20 (.int .i64 0),
 mv 22 21,
 gt 23 22 (.mov false) [.t 2],
 gt 24 22 (.un .not) [.t 23],
 ii 25 .pick [.t 22,.t 24,.c (.p (.bool false))],
 mv 26 25,
 gt 27 26 (.mov false) [.t 3],
 gt 28 26 (.bin .eql) [.t 27,.c (.p (.int .i64 (-15)))],
 ii 29 .pick [.t 26,.t 28,.c (.p (.bool false))],
 mv 30 29,
 gt 31 30 (.mov false) [.t 4],
 ii 32 .pick [.t 30,.t 31,.c (.p (.bool false))],
 mv 33 32,
 gt 34 33 (.mov false) [.t 5],
 gt 35 33 (.bin .eql) [.t 34,cI 4611686018427387904],
 ii 36 .pick [.t 33,.t 35,.c (.p (.bool false))],
 mv 37 36,
 gt 38 37 (.mov false) [.t 6],
 ii 39 .pick [.t 37,.t 38,.c (.p (.bool false))],
 mv 40 39,
 gt 41 40 (.call 196) [cI 7,cI 2],
 gt 42 40 (.bin .eql) [.t 41,cI 4],
 ii 43 .pick [.t 40,.t 42,.c (.p (.bool false))],
 mv 44 43,
 gt 45 44 (.call 129) [.c (.p (.int .i64 (-7))),cI 2],
 gt 46 44 (.bin .eql) [.t 45,.c (.p (.int .i64 (-4)))],
 ii 47 .pick [.t 44,.t 46,.c (.p (.bool false))],
 mv 48 47,
 gt 49 48 (.call 197) [cI 1,cI 3,cI 2,cI 5],
 ii 50 .pick [.t 48,.t 49,.c (.p (.bool false))],
 mv 51 50,
 gt 52 51 (.call 197) [cI 1,cI 0,cI 2,cI 5],
 gt 53 51 (.un .not) [.t 52],
 ii 54 .pick [.t 51,.t 53,.c (.p (.bool false))],
 mt 0 54]
 .ret)))))⟩
theorem TY:aC Tryz.prog 166 SV=true:=by kernel_rfl
def OJ:Fn:=⟨26,0,[.tmp 4],
 (.sr [mc 4 (.bool false)]
 (.seq
 (.sr [mv 6 0,
 ii 7 .len [.t 6],
 mv 8 1,
 ii 9 .len [.t 8],
 b2 10 .neq 7 9]
 (.cond (.t 10)
 (.sr [mc 4 (.bool false)]
 .ret)
 .skip))
 (.seq
 (.sr [mv 11 0,
 ii 12 .len [.t 11],
 ii 13 (.mov false) [cI 0]]
 (.block 0
 (.loop [4,5,6,7,8,9,10,11,14,15,16,17,18,19,20,21,22,23,24,25] []
 (.sr [b2 14 .lss 13 12]
 (.seq
 (.cond (.t 14)
 .skip
 (.exit 0))
 (.seq
 (.block 1
 (.sr [mv 15 13,
 mt 5 15]
 (.seq
 (.regd [mv 16 0,
 mv 17 5,
 ii 18 (.iad 3) [.t 16,.t 17],
 ii 19 (.loadp 3 true) [.t 18],
 mv 20 1,
 mv 21 5,
 ii 22 (.iad 3) [.t 20,.t 21],
 ii 23 (.loadp 3 true) [.t 22],
 ii 24 (.eqs 3 true) [.t 19,.t 23]])
 (.cond (.t 24)
 (.sr [mc 4 (.bool false)]
 .ret)
 .skip))))
 (.reg [b1 25 .add 13 (.int .i64 1),
 mv 13 25])))))))
 (.sr [mc 4 (.bool true)]
 .ret))))⟩
theorem Y7:aC Tryz.prog 264 OJ=true:=by kernel_rfl
def PL:Fn:=⟨11,0,[],
 (.sr [mv 3 0,
 ii 4 .len [.t 3],
 mt 2 4]
 (.reg [mv 5 0,
 mv 6 2,
 mv 7 2,
 ii 8 (.conv .u64) [.t 7],
 ii 9 (.call 173) [.t 8],
 ii 10 (.callm 274 0) [.t 5,cI 0,.t 6,.t 9]]))⟩
theorem VV:aC Tryz.prog 265 PL=true:=by kernel_rfl
def OM:Fn:=⟨61,0,[.tmp 2],
 (.sr [ii 2 (.mov true) [.c (.ow 1 true [])]]
 (.seq
 (.sr [mv 6 0,
 ii 7 .len [.t 6],
 b1 8 .lss 7 (.int .i64 2)]
 (.cond (.t 8)
 (.sr [mv 9 0,
 mt 2 9]
 .ret)
 .skip))
 (.seq
 (.sr [mc 3 (.int .i64 1)]
 (.block 0
 (.loop [2,4,5,6,7,8,9,10,11,12,13,14,15,16,17,18,19,20,21,22,23,24,25,26,27,28,29,30,31,32,33,34,35,36,37,38,39,40,41,42,43,44,45,46,47,48,49,50,51,52,53,54,55,56,57,58,59,60] []
 (.seq
 (.sr [mv 10 3,
 mv 11 0,
 ii 12 .len [.t 11],
 b2 13 .lss 10 12]
 (.cond (.t 13)
 .skip
 (.exit 0)))
 (.seq
 (.block 1
 (.seq
 (.regd [mv 16 0,
 mv 17 3,
 ii 18 (.iad 1) [.t 16,.t 17],
 ii 19 (.loadp 1 false) [.t 18],
 mv 20 0,
 mv 21 3,
 b1 22 .sub 21 (.int .i64 1),
 ii 23 (.iad 1) [.t 20,.t 22],
 ii 24 (.loadp 1 false) [.t 23],
 b2 25 .eql 19 24])
 (.cond (.t 25)
 (.sr [mv 26 0,
 mv 27 3,
 ii 28 (.slc 1 true false) [.t 26,.t 27],
 mt 4 28]
 (.seq
 (.sr [mc 5 (.int .i64 1)]
 (.block 2
 (.loop [2,6,7,8,9,10,11,12,13,14,15,16,17,18,19,20,21,22,23,24,25,26,27,28,29,30,31,32,33,34,35,36,37,38,39,40,41,42,43,44,45,46,47,48,49,50,51,52,53,54,55,56,57,58,59,60] []
 (.seq
 (.sr [mv 29 5,
 mv 30 4,
 ii 31 .len [.t 30],
 b2 32 .lss 29 31]
 (.cond (.t 32)
 .skip
 (.exit 2)))
 (.seq
 (.block 3
 (.seq
 (.regd [mv 35 4,
 mv 36 5,
 ii 37 (.iad 1) [.t 35,.t 36],
 ii 38 (.loadp 1 false) [.t 37],
 mv 39 4,
 mv 40 5,
 b1 41 .sub 40 (.int .i64 1),
 ii 42 (.iad 1) [.t 39,.t 41],
 ii 43 (.loadp 1 false) [.t 42],
 b2 44 .neq 38 43])
 (.cond (.t 44)
 (.sr [mv 45 0,
 mv 46 3,
 mv 47 4,
 mv 48 5,
 ii 49 (.iad 1) [.t 47,.t 48],
 ld 50 49,
 ii 51 (.iad 1) [.t 45,.t 46],
 ⟨none,none,.store 1,[.t 51,.t 50]⟩]
 (.reg [mv 52 3,
 b1 53 .add 52 (.int .i64 1),
 mt 3 53]))
 .skip)))
 (.reg [mv 33 5,
 b1 34 .add 33 (.int .i64 1),
 mt 5 34]))))))
 (.sr [mv 54 0,
 mv 55 3,
 ii 56 (.slc 1 true false) [.t 54,.t 55],
 ⟨none,none,.stk,[]⟩]
 (.sr [mv 57 0,
 mv 58 3,
 ii 59 (.slc 1 false true) [.t 57,.t 58],
 mt 2 59]
 .ret))))
 .skip)))
 (.reg [mv 14 3,
 b1 15 .add 14 (.int .i64 1),
 mt 3 15]))))))
 (.sr [mv 60 0,
 mt 2 60]
 .ret))))⟩
theorem U9:aC Tryz.prog 266 OM=true:=by kernel_rfl
def O9:Fn:=⟨8,0,[.tmp 4],
 (.sr [⟨some 4,none,.mov true,[.c (.p (.str ⟨#[]⟩))]⟩]
 (.sr [mv 5 0,
 mv 6 1,
 ii 7 (.call 275) [.t 5,.t 6],
 mt 4 7]
 .ret))⟩
theorem TS:aC Tryz.prog 267 O9=true:=by kernel_rfl
def PC:Fn:=⟨66,1,[.tmp 8],
 (.sr [ii 8 (.mov true) [.c (.ow 1 true [])]]
 (.seq
 (.sr [mv 12 3,
 b1 13 .eql 12 (.int .i64 0)]
 (.cond (.t 13)
 (.sr [ii 8 (.mov true) [.c (.ow 1 true [])]]
 .ret)
 .skip))
 (.seq
 (.sr [mv 14 1,
 ⟨some 15,none,.bin .eql,[.t 14,.c (.p (.str ⟨#[]⟩))]⟩]
 (.cond (.t 15)
 (.sr [mv 16 0,
 mv 17 3,
 ii 18 (.call 278) [.t 16,.t 17],
 mt 8 18]
 .ret)
 .skip))
 (.seq
 (.sr [mv 19 3,
 b1 20 .lss 19 (.int .i64 0)]
 (.cond (.t 20)
 (.reg [mv 21 0,
 mv 22 1,
 ii 23 (.call 279) [.t 21,.t 22],
 b1 24 .add 23 (.int .i64 1),
 mt 3 24])
 .skip))
 (.sr [mv 25 3,
 mv 26 0,
 ii 27 .slen [.t 26],
 b1 28 .add 27 (.int .i64 1),
 ii 29 .mn [.t 25,.t 28],
 mt 3 29]
 (.sr [mv 30 3,
 ⟨some 31,none,.mksl 0 1 16 false [.p (.str ⟨#[]⟩)],[.t 30,.t 30]⟩,
 mt 9 31]
 (.sr [mv 32 3,
 b1 33 .sub 32 (.int .i64 1),
 mt 3 33]
 (.sr [mc 10 (.int .i64 0)]
 (.seq
 (.block 0
 (.loop [8,11,12,13,14,15,16,17,18,19,20,21,22,23,24,25,26,27,28,29,30,31,32,33,34,35,36,37,38,39,40,41,42,43,44,45,46,47,48,49,50,51,52,53,54,55,56,57,58,59,60,61,62,63,64,65] []
 (.seq
 (.sr [mv 34 10,
 mv 35 3,
 b2 36 .lss 34 35]
 (.cond (.t 36)
 .skip
 (.exit 0)))
 (.block 1
 (.sr [mv 37 0,
 mv 38 1,
 ii 39 (.call 280) [.t 37,.t 38],
 mt 11 39]
 (.seq
 (.sr [mv 40 11,
 b1 41 .lss 40 (.int .i64 0)]
 (.cond (.t 41)
 (.exit 0)
 .skip))
 (.sr [mv 42 9,
 mv 43 10,
 mv 44 0,
 mv 45 11,
 mv 46 2,
 b2 47 .add 45 46,
 ii 48 (.ssl false true) [.t 44,.t 47],
 ii 49 (.iad 1) [.t 42,.t 43],
 ⟨none,none,.store 1,[.t 49,.t 48]⟩]
 (.sr [mv 50 0,
 mv 51 11,
 mv 52 1,
 ii 53 .slen [.t 52],
 b2 54 .add 51 53,
 ii 55 (.ssl true false) [.t 50,.t 54],
 mt 0 55]
 (.reg [mv 56 10,
 b1 57 .add 56 (.int .i64 1),
 mt 10 57])))))))))
 (.sr [mv 58 9,
 mv 59 10,
 mv 60 0,
 ii 61 (.iad 1) [.t 58,.t 59],
 ⟨none,none,.store 1,[.t 61,.t 60]⟩]
 (.sr [mv 62 9,
 mv 63 10,
 b1 64 .add 63 (.int .i64 1),
 ii 65 (.slb 0 1) [.t 62,.t 64],
 mt 8 65]
 (.pre [] [0] [] .ret))))))))))))⟩
theorem V3:aC Tryz.prog 271 PC=true:=by kernel_rfl
def UN:Fn:=⟨25,0,[.tmp 6,.tmp 7],
 (.sr [mc 6 (.int .i64 0),
 mc 7 (.atom .nilIface)]
 (.sr [mv 10 0,
 mv 11 1,
 mv 12 2,
 ii 13 (.call 281) [.t 10,.t 11,.t 12],
 mv 9 13,
 ii 14 (.ext 0) [.t 9],
 ii 15 (.ext 1) [.t 9],
 mt 8 14,
 mt 7 15]
 (.seq
 (.sr [mv 16 7,
 ii 17 (.eqat true) [.t 16,.c (.p (.atom .nilIface))]]
 (.cond (.t 17)
 (.sr [mv 18 8,
 mv 19 0,
 mv 20 1,
 mv 21 2,
 mv 22 7,
 ⟨some 23,none,.call 282,[.c (.p (.str ⟨#[80,97,114,115,101,73,110,116]⟩)),.t 19,.t 20,.t 21,.t 22]⟩,
 mt 6 18,
 mt 7 23]
 .ret)
 .skip))
 (.sr [mv 24 8,
 mt 6 24,
 mc 7 (.atom .nilIface)]
 .ret))))⟩
theorem a0Z:aC Tryz.prog 272 UN=true:=by kernel_rfl
def QU:Fn:=⟨23,0,[.tmp 4,.tmp 5,.tmp 6],
 (.sr [⟨some 4,none,.mov true,[.c (.p (.str ⟨#[]⟩))]⟩,
 ⟨some 5,none,.mov true,[.c (.p (.str ⟨#[]⟩))]⟩,
 mc 6 (.bool false)]
 (.seq
 (.sr [mv 8 0,
 mv 9 1,
 ii 10 (.call 283) [.t 8,.t 9],
 mt 7 10]
 (.sr [mv 11 7,
 b1 12 .geq 11 (.int .i64 0)]
 (.cond (.t 12)
 (.seq
 (.regd [mv 13 0,
 mv 14 7,
 ii 15 (.ssl false true) [.t 13,.t 14],
 mv 16 0,
 mv 17 7,
 mv 18 1,
 ii 19 .slen [.t 18],
 b2 20 .add 17 19,
 ii 21 (.ssl true false) [.t 16,.t 20],
 mt 4 15,
 mt 5 21,
 mc 6 (.bool true)])
 .ret)
 .skip)))
 (.sr [mv 22 0,
 mt 4 22,
 ⟨some 5,none,.mov true,[.c (.p (.str ⟨#[]⟩))]⟩,
 mc 6 (.bool false)]
 .ret)))⟩
theorem VO:aC Tryz.prog 273 QU=true:=by kernel_rfl
def PB:Fn:=⟨14,0,[.tmp 4,.tmp 5],
 (.sr [mc 4 (.int .i64 0),
 mc 5 (.bool false)]
 (.sr [mv 6 0,
 ii 7 (.call 221) [.t 6],
 mv 8 1,
 ii 9 (.call 221) [.t 8],
 ii 10 (.call 222) [.t 7,.t 9],
 ii 11 (.call 223) [.t 10],
 ii 12 (.ext 0) [.t 11],
 ii 13 (.ext 1) [.t 11],
 mt 4 12,
 mt 5 13]
 .ret))⟩
theorem TJ:aC Tryz.prog 193 PB=true:=by kernel_rfl
def RA:Fn:=⟨12,0,[.tmp 4,.tmp 5],
 (.sr [mc 4 (.int .i64 0),
 mc 5 (.bool false)]
 (.sr [mv 6 0,
 mv 7 1,
 ii 8 (.call 224) [.t 6,.t 7],
 ii 9 (.call 223) [.t 8],
 ii 10 (.ext 0) [.t 9],
 ii 11 (.ext 1) [.t 9],
 mt 4 10,
 mt 5 11]
 .ret))⟩
theorem UC:aC Tryz.prog 194 RA=true:=by kernel_rfl
def RW:Fn:=⟨22,1,[.tmp 2,.tmp 3],
 (.sr [mc 2 (.int .i64 0),
 mc 3 (.bool false)]
 (.sr [⟨some 4,none,.alloc 0 2 [Z0,.p (.int .u64 0)],[]⟩]
 (.seq
 (.sr [mv 7 0,
 ii 8 .len [.t 7],
 ii 9 (.mov false) [cI 0]]
 (.block 0
 (.loop [0,2,3,6,10,11,12,13,14,15,16,17,18,19,20,21] []
 (.sr [b2 10 .lss 9 8]
 (.seq
 (.cond (.t 10)
 .skip
 (.exit 0))
 (.seq
 (.block 1
 (.sr [ii 11 (.iad 1) [.t 7,.t 9],
 ld 12 11,
 mt 6 12]
 (.gp (.regd [ii 13 (.at 0 (.load 2 true false)) [.t 4],
 mv 14 6,
 ii 15 (.pl (.call 221)) [.t 14],
 ii 16 (.pl (.call 222)) [.t 13,.t 15],
 ⟨none,none,.at 0 (.store 2),[.t 4,.t 16]⟩]) (.lay 0 2))))
 (.reg [b1 17 .add 9 (.int .i64 1),
 mv 9 17])))))))
 (.sr [ii 18 (.load 2 true false) [.t 4],
 ii 19 (.call 223) [.t 18],
 ii 20 (.ext 0) [.t 19],
 ii 21 (.ext 1) [.t 19],
 mt 2 20,
 mt 3 21]
 .ret))))⟩
theorem YC:aC Tryz.prog 195 RW=true:=by kernel_rfl
def S3:Fn:=⟨24,0,[.tmp 8],
 (.sr [mc 8 (.bool false)]
 (.sr [mv 9 1,
 b1 10 .gtr 9 (.int .i64 0),
 mv 11 10,
 gt 12 11 (.mov false) [.t 3],
 gt 13 11 (.bin .gtr) [.t 12,cI 0],
 ii 14 .pick [.t 11,.t 13,.c (.p (.bool false))],
 mv 15 14,
 gt 16 15 (.mov false) [.t 0],
 gt 17 15 (.mov false) [.t 3],
 gt 18 15 (.call 224) [.t 16,.t 17],
 gt 19 15 (.mov false) [.t 2],
 gt 20 15 (.mov false) [.t 1],
 gt 21 15 (.call 224) [.t 19,.t 20],
 gt 22 15 (.call 225) [.t 18,.t 21],
 ii 23 .pick [.t 15,.t 22,.c (.p (.bool false))],
 mt 8 23]
 .ret))⟩
theorem W4:aC Tryz.prog 197 S3=true:=by kernel_rfl
def SC:Fn:=⟨134,0,[],
 (.sr [mc 8 (.bool true)]
 (.sr [mc 9 (.bool true)]
 (.block 0
 (.loop [10,11,12,13,14,15,16,17,18,19,20,21,22,23,24,25,26,27,28,29,30,31,32,33,34,35,36,37,38,39,40,41,42,43,44,45,46,47,48,49,50,51,52,53,54,55,56,57,58,59,60,61,62,63,64,65,66,67,68,69,70,71,72,73,74,75,76,77,78,79,80,81,82,83,84,85,86,87,88,89,90,91,92,93,94,95,96,97,98,99,100,101,102,103,104,105,106,107,108,109,110,111,112,113,114,115,116,117,118,119,120,121,122,123,124,125,126,127,128,129,130,131,132,133] []
 (.block 1
 (.sr [mv 19 2,
 mv 20 1,
 b2 21 .sub 19 20,
 mt 10 21]
 (.seq
 (.sr [mv 22 10,
 b1 23 .leq 22 (.int .i64 12)]
 (.cond (.t 23)
 (.sr [mv 24 0,
 mv 25 1,
 mv 26 2,
 ii 27 (.callm 284 0) [.t 24,.t 25,.t 26]]
 .ret)
 .skip))
 (.seq
 (.sr [mv 28 3,
 b1 29 .eql 28 (.int .i64 0)]
 (.cond (.t 29)
 (.sr [mv 30 0,
 mv 31 1,
 mv 32 2,
 ii 33 (.call 285) [.t 30,.t 31,.t 32]]
 .ret)
 .skip))
 (.seq
 (.sr [mv 34 8,
 ii 35 (.un .not) [.t 34]]
 (.cond (.t 35)
 (.sr [mv 36 0,
 mv 37 1,
 mv 38 2,
 ii 39 (.call 286) [.t 36,.t 37,.t 38]]
 (.reg [mv 40 3,
 b1 41 .sub 40 (.int .i64 1),
 mt 3 41]))
 .skip))
 (.sr [mv 43 0,
 mv 44 1,
 mv 45 2,
 ii 46 (.call 287) [.t 43,.t 44,.t 45],
 mv 42 46,
 ii 47 (.ext 0) [.t 42],
 ii 48 (.ext 1) [.t 42],
 mt 11 47,
 mt 12 48]
 (.seq
 (.sr [mv 49 12,
 b1 50 .eql 49 (.int .i64 2)]
 (.cond (.t 50)
 (.sr [mv 51 0,
 mv 52 1,
 mv 53 2,
 ii 54 (.call 288) [.t 51,.t 52,.t 53]]
 (.sr [mv 55 2,
 b1 56 .sub 55 (.int .i64 1),
 mv 57 11,
 mv 58 1,
 b2 59 .sub 57 58,
 b2 60 .sub 56 59,
 mt 11 60]
 (.reg [mc 12 (.int .i64 1)])))
 .skip))
 (.seq
 (.sr [mv 61 8,
 mv 62 61,
 gt 63 62 (.mov false) [.t 9],
 ii 64 .pick [.t 62,.t 63,.c (.p (.bool false))],
 mv 65 64,
 gt 66 65 (.mov false) [.t 12],
 gt 67 65 (.bin .eql) [.t 66,cI 1],
 ii 68 .pick [.t 65,.t 67,.c (.p (.bool false))]]
 (.cond (.t 68)
 (.sr [mv 69 0,
 mv 70 1,
 mv 71 2,
 ii 72 (.call 289) [.t 69,.t 70,.t 71]]
 (.cond (.t 72)
 .ret
 .skip))
 .skip))
 (.seq
 (.seq
 (.regd [mv 73 1,
 b1 74 .gtr 73 (.int .i64 0),
 mv 75 74,
 gt 76 75 (.mov false) [.t 0],
 gt 77 75 (.mov false) [.t 1],
 gt 78 75 (.bin .sub) [.t 77,cI 1],
 gt 79 75 (.iad 1) [.t 76,.t 78],
 gt 80 75 (.at 0 (.load 1 false false)) [.t 79],
 gt 81 75 (.mov false) [.t 0],
 gt 82 75 (.mov false) [.t 11],
 gt 83 75 (.iad 1) [.t 81,.t 82],
 gt 84 75 (.at 0 (.load 1 false false)) [.t 83],
 gt 85 75 (.pl (.call 290)) [.t 80,.t 84],
 gt 86 75 (.un .not) [.t 85],
 ii 87 .pick [.t 75,.t 86,.c (.p (.bool false))]])
 (.cond (.t 87)
 (.sr [mv 88 0,
 mv 89 1,
 mv 90 2,
 mv 91 11,
 ii 92 (.call 291) [.t 88,.t 89,.t 90,.t 91],
 mt 13 92]
 (.sr [mv 93 13,
 mt 1 93]
 (.exit 1)))
 .skip))
 (.sr [mv 95 0,
 mv 96 1,
 mv 97 2,
 mv 98 11,
 ii 99 (.call 292) [.t 95,.t 96,.t 97,.t 98],
 mv 94 99,
 ii 100 (.ext 0) [.t 94],
 ii 101 (.ext 1) [.t 94],
 mt 14 100,
 mt 15 101]
 (.sr [mv 102 15,
 mt 9 102]
 (.sr [mv 103 14,
 mv 104 1,
 b2 105 .sub 103 104,
 mv 106 2,
 mv 107 14,
 b2 108 .sub 106 107,
 mt 16 105,
 mt 17 108]
 (.sr [mv 109 10,
 b1 110 .quo 109 (.int .i64 8),
 mt 18 110]
 (.sr [mv 111 16,
 mv 112 17,
 b2 113 .lss 111 112]
 (.cond (.t 113)
 (.sr [mv 114 16,
 mv 115 18,
 b2 116 .geq 114 115,
 mt 8 116]
 (.sr [mv 117 0,
 mv 118 1,
 mv 119 14,
 mv 120 3,
 ii 121 (.callm 274 0) [.t 117,.t 118,.t 119,.t 120]]
 (.reg [mv 122 14,
 b1 123 .add 122 (.int .i64 1),
 mt 1 123])))
 (.sr [mv 124 17,
 mv 125 18,
 b2 126 .geq 124 125,
 mt 8 126]
 (.sr [mv 127 0,
 mv 128 14,
 b1 129 .add 128 (.int .i64 1),
 mv 130 2,
 mv 131 3,
 ii 132 (.callm 274 0) [.t 127,.t 129,.t 130,.t 131]]
 (.reg [mv 133 14,
 mt 2 133]))))))))))))))))))))))⟩
theorem Y5:aC Tryz.prog 274 SC=true:=by kernel_rfl
def SD:Fn:=⟨54,1,[.tmp 4],
 (.sr [⟨some 4,none,.mov true,[.c (.p (.str ⟨#[]⟩))]⟩]
 (.seq
 (.sr [mv 10 1,
 b1 11 .eql 10 (.int .i64 10)]
 (.cond (.t 11)
 (.seq
 (.sr [mv 12 0,
 ii 13 (.bin .leq) [cI 0,.t 12],
 mv 14 13,
 gt 15 14 (.mov false) [.t 0],
 gt 16 14 (.bin .lss) [.t 15,cI 100],
 ii 17 .pick [.t 14,.t 16,.c (.p (.bool false))]]
 (.cond (.t 17)
 (.sr [mv 18 0,
 ii 19 (.call 293) [.t 18],
 mt 4 19]
 .ret)
 .skip))
 (.sr [⟨some 5,none,.alloc 0 24 [.p (.int .u8 0),.p (.int .u8 0),.p (.int .u8 0),.p (.int .u8 0),.p (.int .u8 0),.p (.int .u8 0),.p (.int .u8 0),.p (.int .u8 0),.p (.int .u8 0),.p (.int .u8 0),.p (.int .u8 0),.p (.int .u8 0),.p (.int .u8 0),.p (.int .u8 0),.p (.int .u8 0),.p (.int .u8 0),.p (.int .u8 0),.p (.int .u8 0),.p (.int .u8 0),.p (.int .u8 0),.p (.int .u8 0),.p (.int .u8 0),.p (.int .u8 0),.p (.int .u8 0)],[]⟩]
 (.sr [mv 20 0,
 ii 21 (.conv .u64) [.t 20],
 mt 6 21]
 (.seq
 (.sr [mv 22 0,
 b1 23 .lss 22 (.int .i64 0)]
 (.cond (.t 23)
 (.reg [mv 24 6,
 ii 25 (.un .neg) [.t 24],
 mt 6 25])
 .skip))
 (.sr [mv 26 6,
 ii 27 (.call 294) [.t 26],
 mt 7 27]
 (.sr [mv 28 7,
 ii 29 (.bin .add) [cI 1,.t 28],
 ii 30 .stk [],
 mv 31 6,
 ii 32 (.call 295) [.t 30,.t 31]]
 (.seq
 (.sr [mv 33 0,
 b1 34 .lss 33 (.int .i64 0)]
 (.cond (.t 34)
 (.seq
 (.gp (.reg [ii 35 .stk [],
 ⟨none,none,.store 1,[.t 35,.c (.p (.int .u8 45))]⟩]) (.lay 0 24))
 (.sr [mv 36 7,
 ii 37 (.bin .add) [cI 1,.t 36],
 ii 38 .stk [],
 ii 39 .stk [],
 mt 4 39]
 .ret))
 .skip))
 (.sr [mv 40 7,
 ii 41 (.bin .add) [cI 1,.t 40],
 ii 42 .stk [],
 ii 43 .stk [],
 mt 4 43]
 .ret))))))))
 .skip))
 (.sr [mv 45 0,
 ii 46 (.conv .u64) [.t 45],
 mv 47 1,
 mv 48 0,
 b1 49 .lss 48 (.int .i64 0),
 ii 50 (.call 296) [.c (.ow 1 true []),.t 46,.t 47,.t 49,.c (.p (.bool false))],
 mv 44 50,
 ii 51 (.ext 0) [.t 44],
 ii 52 (.ext 1) [.t 44],
 mt 8 51,
 mt 9 52]
 (.sr [mv 53 9,
 mt 4 53]
 .ret))))⟩
theorem YF:aC Tryz.prog 275 SD=true:=by kernel_rfl
def Q9:Fn:=⟨34,0,[.tmp 4],
 (.sr [mc 4 (.int .i64 0)]
 (.seq
 (.sr [mv 7 1,
 ii 8 .slen [.t 7],
 b1 9 .eql 8 (.int .i64 0)]
 (.cond (.t 9)
 (.sr [mv 10 0,
 ii 11 (.call 299) [.t 10],
 b1 12 .add 11 (.int .i64 1),
 mt 4 12]
 .ret)
 .skip))
 (.seq
 (.sr [mv 13 1,
 ii 14 .slen [.t 13],
 b1 15 .eql 14 (.int .i64 1)]
 (.cond (.t 15)
 (.sr [mv 16 0,
 mv 17 1,
 ii 18 .sidx [.t 17,cI 0],
 ii 19 (.call 301) [.t 16,.t 18],
 mt 4 19]
 .ret)
 .skip))
 (.sr [mc 5 (.int .i64 0)]
 (.block 0
 (.loop [4,6,7,8,9,10,11,12,13,14,15,16,17,18,19,20,21,22,23,24,25,26,27,28,29,30,31,32,33] []
 (.block 1
 (.sr [mv 20 0,
 mv 21 1,
 ii 22 (.call 280) [.t 20,.t 21],
 mt 6 22]
 (.seq
 (.sr [mv 23 6,
 b1 24 .eql 23 (.int .i64 (-1))]
 (.cond (.t 24)
 (.sr [mv 25 5,
 mt 4 25]
 .ret)
 .skip))
 (.sr [mv 26 5,
 b1 27 .add 26 (.int .i64 1),
 mt 5 27]
 (.reg [mv 28 0,
 mv 29 6,
 mv 30 1,
 ii 31 .slen [.t 30],
 b2 32 .add 29 31,
 ii 33 (.ssl true false) [.t 28,.t 32],
 mt 0 33])))))))))))⟩
theorem W0:aC Tryz.prog 279 Q9=true:=by kernel_rfl
def P8:Fn:=⟨8,0,[.tmp 4],
 (.sr [mc 4 (.int .i64 0)]
 (.sr [mv 5 0,
 mv 6 1,
 ii 7 (.call 283) [.t 5,.t 6],
 mt 4 7]
 .ret))⟩
theorem UI:aC Tryz.prog 280 P8=true:=by kernel_rfl
def TP:Fn:=⟨73,0,[.tmp 6,.tmp 7],
 (.sr [mc 6 (.int .i64 0),
 mc 7 (.atom .nilIface)]
 (.seq
 (.sr [mv 12 0,
 ⟨some 13,none,.bin .eql,[.t 12,.c (.p (.str ⟨#[]⟩))]⟩]
 (.cond (.t 13)
 (.sr [ii 14 .stk [],
 mc 6 (.int .i64 0),
 mt 7 14]
 .ret)
 .skip))
 (.sr [mc 8 (.bool false)]
 (.seq
 (.sr [mv 15 0,
 ii 16 .sidx [.t 15,cI 0]]
 (.block 0
 (.sr [b1 18 .eql 16 (.int .u8 43),
 mt 17 18]
 (.cond (.t 17)
 (.reg [mv 19 0,
 ii 20 (.ssl true false) [.t 19,cI 1],
 mt 0 20])
 (.sr [b1 22 .eql 16 (.int .u8 45),
 mt 21 22]
 (.cond (.t 21)
 (.sr [mv 23 0,
 ii 24 (.ssl true false) [.t 23,cI 1],
 mt 0 24]
 (.reg [mc 8 (.bool true)]))
 .skip))))))
 (.sr [mc 9 (.int .u64 0)]
 (.sr [mv 26 0,
 mv 27 1,
 mv 28 2,
 ii 29 (.call 302) [.t 26,.t 27,.t 28],
 mv 25 29,
 ii 30 (.ext 0) [.t 25],
 ii 31 (.ext 1) [.t 25],
 mt 9 30,
 mt 7 31]
 (.seq
 (.sr [mv 32 7,
 ii 33 (.eqat true) [.t 32,.c (.p (.atom .nilIface))],
 mv 34 33,
 gt 35 34 (.mov false) [.t 7],
 gt 36 34 .stk [],
 gt 37 34 .stk [],
 ii 38 .pick [.t 34,.t 37,.c (.p (.bool false))]]
 (.cond (.t 38)
 (.sr [mv 39 7,
 mc 6 (.int .i64 0),
 mt 7 39]
 .ret)
 .skip))
 (.seq
 (.sr [mv 40 2,
 b1 41 .eql 40 (.int .i64 0)]
 (.cond (.t 41)
 (.reg [mc 2 (.int .i64 64)])
 .skip))
 (.sr [mv 42 2,
 b1 43 .sub 42 (.int .i64 1),
 ii 44 (.conv .u64) [.t 43],
 ii 45 (.bin .shl) [.c (.p (.int .u64 1)),.t 44],
 mt 10 45]
 (.seq
 (.sr [mv 46 8,
 ii 47 (.un .not) [.t 46],
 mv 48 47,
 gt 49 48 (.mov false) [.t 9],
 gt 50 48 (.mov false) [.t 10],
 gt 51 48 (.bin .geq) [.t 49,.t 50],
 ii 52 .pick [.t 48,.t 51,.c (.p (.bool false))]]
 (.cond (.t 52)
 (.sr [mv 53 10,
 b1 54 .sub 53 (.int .u64 1),
 ii 55 (.conv .i64) [.t 54],
 ii 56 .stk [],
 mt 6 55,
 mt 7 56]
 .ret)
 .skip))
 (.seq
 (.sr [mv 57 8,
 mv 58 57,
 gt 59 58 (.mov false) [.t 9],
 gt 60 58 (.mov false) [.t 10],
 gt 61 58 (.bin .gtr) [.t 59,.t 60],
 ii 62 .pick [.t 58,.t 61,.c (.p (.bool false))]]
 (.cond (.t 62)
 (.sr [mv 63 10,
 ii 64 (.conv .i64) [.t 63],
 ii 65 (.un .neg) [.t 64],
 ii 66 .stk [],
 mt 6 65,
 mt 7 66]
 .ret)
 .skip))
 (.sr [mv 67 9,
 ii 68 (.conv .i64) [.t 67],
 mt 11 68]
 (.seq
 (.sr [mv 69 8]
 (.cond (.t 69)
 (.reg [mv 70 11,
 ii 71 (.un .neg) [.t 70],
 mt 11 71])
 .skip))
 (.sr [mv 72 11,
 mt 6 72,
 mc 7 (.atom .nilIface)]
 .ret))))))))))))))⟩
theorem a1R:aC Tryz.prog 281 TP=true:=by kernel_rfl
def PR:Fn:=⟨143,0,[.tmp 4],
 (.sr [mc 4 (.int .i64 0)]
 (.sr [mv 14 1,
 ii 15 .slen [.t 14],
 mt 5 15]
 (.seq
 (.block 0
 (.sr [mv 17 5,
 b1 18 .eql 17 (.int .i64 0),
 mv 19 18,
 gf 20 19 (.mov false) [.t 1],
 gf 21 19 (.mov false) [.t 0],
 gf 22 19 (.bin .eql) [.t 20,.t 21],
 ii 23 .pick [.t 19,.c (.p (.bool true)),.t 22],
 mt 16 23]
 (.cond (.t 16)
 (.sr [mc 4 (.int .i64 0)]
 .ret)
 (.sr [mv 25 5,
 b1 26 .eql 25 (.int .i64 1),
 mt 24 26]
 (.cond (.t 24)
 (.sr [mv 27 0,
 mv 28 1,
 ii 29 .sidx [.t 28,cI 0],
 ii 30 (.call 307) [.t 27,.t 29],
 mt 4 30]
 .ret)
 (.sr [mv 32 5,
 mv 33 0,
 ii 34 .slen [.t 33],
 b2 35 .geq 32 34,
 mt 31 35]
 (.cond (.t 31)
 (.sr [mc 4 (.int .i64 (-1))]
 .ret)
 (.sr [mv 37 5,
 ii 38 (.load 1 false false) [.c .top],
 b2 39 .leq 37 38,
 mv 40 39,
 gt 41 40 (.mov false) [.t 0],
 gt 42 40 .slen [.t 41],
 gt 43 40 (.bin .leq) [.t 42,cI 64],
 ii 44 .pick [.t 40,.t 43,.c (.p (.bool false))],
 mt 36 44]
 (.cond (.t 36)
 (.sr [mv 45 0,
 mv 46 1,
 ii 47 (.call 308) [.t 45,.t 46],
 mt 4 47]
 .ret)
 .skip)))))))))
 (.sr [mv 48 1,
 ii 49 .sidx [.t 48,cI 0],
 mt 6 49]
 (.sr [mv 50 1,
 ii 51 .sidx [.t 50,cI 1],
 mt 7 51]
 (.sr [mc 8 (.int .i64 0)]
 (.sr [mv 52 0,
 ii 53 .slen [.t 52],
 mv 54 5,
 b2 55 .sub 53 54,
 b1 56 .add 55 (.int .i64 1),
 mt 9 56]
 (.sr [mc 10 (.int .i64 0)]
 (.seq
 (.block 1
 (.loop [4,11,12,13,14,15,16,17,18,19,20,21,22,23,24,25,26,27,28,29,30,31,32,33,34,35,36,37,38,39,40,41,42,43,44,45,46,47,48,49,50,51,52,53,54,55,56,57,58,59,60,61,62,63,64,65,66,67,68,69,70,71,72,73,74,75,76,77,78,79,80,81,82,83,84,85,86,87,88,89,90,91,92,93,94,95,96,97,98,99,100,101,102,103,104,105,106,107,108,109,110,111,112,113,114,115,116,117,118,119,120,121,122,123,124,125,126,127,128,129,130,131,132,133,134,135,136,137,138,139,140,141,142] []
 (.seq
 (.sr [mv 57 8,
 mv 58 9,
 b2 59 .lss 57 58]
 (.cond (.t 59)
 .skip
 (.exit 1)))
 (.block 2
 (.seq
 (.sr [mv 60 0,
 mv 61 8,
 ii 62 .sidx [.t 60,.t 61],
 mv 63 6,
 b2 64 .neq 62 63]
 (.cond (.t 64)
 (.sr [mv 65 0,
 mv 66 8,
 b1 67 .add 66 (.int .i64 1),
 mv 68 9,
 ii 69 (.ssl true true) [.t 65,.t 67,.t 68],
 mv 70 6,
 ii 71 (.call 307) [.t 69,.t 70],
 mt 11 71]
 (.seq
 (.sr [mv 72 11,
 b1 73 .lss 72 (.int .i64 0)]
 (.cond (.t 73)
 (.sr [mc 4 (.int .i64 (-1))]
 .ret)
 .skip))
 (.reg [mv 74 8,
 mv 75 11,
 b1 76 .add 75 (.int .i64 1),
 b2 77 .add 74 76,
 mt 8 77])))
 .skip))
 (.seq
 (.sr [mv 78 0,
 mv 79 8,
 b1 80 .add 79 (.int .i64 1),
 ii 81 .sidx [.t 78,.t 80],
 mv 82 7,
 b2 83 .eql 81 82,
 mv 84 83,
 gt 85 84 (.mov false) [.t 0],
 gt 86 84 (.mov false) [.t 8],
 gt 87 84 (.mov false) [.t 8],
 gt 88 84 (.mov false) [.t 5],
 gt 89 84 (.bin .add) [.t 87,.t 88],
 gt 90 84 (.ssl true true) [.t 85,.t 86,.t 89],
 gt 91 84 (.mov false) [.t 1],
 gt 92 84 (.bin .eql) [.t 90,.t 91],
 ii 93 .pick [.t 84,.t 92,.c (.p (.bool false))]]
 (.cond (.t 93)
 (.sr [mv 94 8,
 mt 4 94]
 .ret)
 .skip))
 (.sr [mv 95 8,
 b1 96 .add 95 (.int .i64 1),
 mt 8 96]
 (.sr [mv 97 10,
 b1 98 .add 97 (.int .i64 1),
 mt 10 98]
 (.sr [mv 99 5,
 ii 100 (.load 1 false false) [.c .top],
 b2 101 .leq 99 100,
 mv 102 101,
 gt 103 102 (.mov false) [.t 10],
 gt 104 102 (.mov false) [.t 8],
 gt 105 102 (.call 309) [.t 104],
 gt 106 102 (.bin .gtr) [.t 103,.t 105],
 ii 107 .pick [.t 102,.t 106,.c (.p (.bool false))]]
 (.cond (.t 107)
 (.sr [mv 108 0,
 mv 109 8,
 ii 110 (.ssl true false) [.t 108,.t 109],
 mv 111 1,
 ii 112 (.call 308) [.t 110,.t 111],
 mt 12 112]
 (.seq
 (.sr [mv 113 12,
 b1 114 .geq 113 (.int .i64 0)]
 (.cond (.t 114)
 (.sr [mv 115 12,
 mv 116 8,
 b2 117 .add 115 116,
 mt 4 117]
 .ret)
 .skip))
 (.sr [mc 4 (.int .i64 (-1))]
 .ret)))
 (.sr [mv 118 5,
 ii 119 (.load 1 false false) [.c .top],
 b2 120 .gtr 118 119,
 mv 121 120,
 gt 122 121 (.mov false) [.t 10],
 gt 123 121 (.mov false) [.t 8],
 gt 124 121 (.bin .shr) [.t 123,.c (.p (.int .u64 4))],
 gt 125 121 (.bin .add) [cI 4,.t 124],
 gt 126 121 (.bin .geq) [.t 122,.t 125],
 ii 127 .pick [.t 121,.t 126,.c (.p (.bool false))],
 mv 128 127,
 gt 129 128 (.mov false) [.t 8],
 gt 130 128 (.mov false) [.t 9],
 gt 131 128 (.bin .lss) [.t 129,.t 130],
 ii 132 .pick [.t 128,.t 131,.c (.p (.bool false))]]
 (.cond (.t 132)
 (.sr [mv 133 0,
 mv 134 8,
 ii 135 (.ssl true false) [.t 133,.t 134],
 mv 136 1,
 ii 137 (.call 310) [.t 135,.t 136],
 mt 13 137]
 (.seq
 (.sr [mv 138 13,
 b1 139 .lss 138 (.int .i64 0)]
 (.cond (.t 139)
 (.sr [mc 4 (.int .i64 (-1))]
 .ret)
 .skip))
 (.sr [mv 140 8,
 mv 141 13,
 b2 142 .add 140 141,
 mt 4 142]
 .ret)))
 .skip))))))))))))
 (.sr [mc 4 (.int .i64 (-1))]
 .ret))))))))))⟩
theorem Y3:aC Tryz.prog 283 PR=true:=by kernel_rfl
def QR:Fn:=⟨8,1,[.cell 2 2],
 (.sr [⟨some 2,none,.alloc 0 2 [Z0,.p (.int .u64 0)],[]⟩]
 (.seq
 (.gp (.reg [mv 3 0,
 b1 4 .shr 3 (.int .u64 63),
 mv 5 0,
 ii 6 (.conv .u64) [.t 5],
 ⟨some 7,none,.build [.int .i64 0,.int .u64 0] [(0,1),(1,1)],[.t 4,.t 6]⟩,
 ⟨none,none,.store 2,[.t 2,.t 7]⟩]) (.lay 0 2))
 .ret))⟩
theorem X3:aC Tryz.prog 221 QR=true:=by kernel_rfl
def OI:Fn:=⟨25,3,[.cell 4 2],
 (.sr [ii 2 (.box 0 2) [.t 0],
 ii 3 (.box 1 2) [.t 1],
 ⟨some 4,none,.alloc 2 2 [Z0,.p (.int .u64 0)],[]⟩]
 (.sr [fa 8 1 2,
 ld 9 8,
 fa 10 1 3,
 ld 11 10,
 ii 12 (.call 243) [.t 9,.t 11,.c (.p (.int .u64 0))],
 mv 7 12,
 ii 13 (.ext 0) [.t 7],
 ii 14 (.ext 1) [.t 7],
 mt 5 13,
 mt 6 14]
 (.seq
 (.gp (.reg [fa 15 0 2,
 ld 16 15,
 fa 17 0 3,
 ld 18 17,
 b2 19 .add 16 18,
 mv 20 6,
 ii 21 (.conv .i64) [.t 20],
 b2 22 .add 19 21,
 mv 23 5,
 ⟨some 24,none,.build [.int .i64 0,.int .u64 0] [(0,1),(1,1)],[.t 22,.t 23]⟩,
 ⟨none,none,.store 2,[.t 4,.t 24]⟩]) (.lay 2 2))
 .ret)))⟩
theorem WZ:aC Tryz.prog 222 OI=true:=by kernel_rfl
def RM:Fn:=⟨13,1,[.tmp 2,.tmp 3],
 (.sr [ii 1 (.box 0 2) [.t 0],
 mc 2 (.int .i64 0),
 mc 3 (.bool false)]
 (.sr [fa 5 1 1,
 ld 6 5,
 ii 7 (.conv .i64) [.t 6],
 mt 4 7]
 (.seq
 (.seq
 (.regd [ii 8 (.at 0 (.load 2 true false)) [.t 1],
 mv 9 4,
 ii 10 (.pl (.call 221)) [.t 9],
 ii 11 (.eqs 2 true) [.t 8,.t 10]])
 (.cond (.t 11)
 (.sr [mc 2 (.int .i64 0),
 mc 3 (.bool false)]
 .ret)
 .skip))
 (.sr [mv 12 4,
 mt 2 12,
 mc 3 (.bool true)]
 .ret))))⟩
theorem UM:aC Tryz.prog 223 RM=true:=by kernel_rfl
def QL:Fn:=⟨31,1,[.cell 4 2],
 (.sr [⟨some 4,none,.alloc 0 2 [Z0,.p (.int .u64 0)],[]⟩]
 (.sr [mv 9 0,
 ii 10 (.conv .u64) [.t 9],
 mv 11 1,
 ii 12 (.conv .u64) [.t 11],
 ii 13 (.call 244) [.t 10,.t 12],
 mv 8 13,
 ii 14 (.ext 0) [.t 8],
 ii 15 (.ext 1) [.t 8],
 mt 5 14,
 mt 6 15]
 (.sr [mv 16 5,
 ii 17 (.conv .i64) [.t 16],
 mt 7 17]
 (.seq
 (.sr [mv 18 0,
 b1 19 .lss 18 (.int .i64 0)]
 (.cond (.t 19)
 (.reg [mv 20 7,
 mv 21 1,
 b2 22 .sub 20 21,
 mt 7 22])
 .skip))
 (.seq
 (.sr [mv 23 1,
 b1 24 .lss 23 (.int .i64 0)]
 (.cond (.t 24)
 (.reg [mv 25 7,
 mv 26 0,
 b2 27 .sub 25 26,
 mt 7 27])
 .skip))
 (.seq
 (.gp (.reg [mv 28 7,
 mv 29 6,
 ⟨some 30,none,.build [.int .i64 0,.int .u64 0] [(0,1),(1,1)],[.t 28,.t 29]⟩,
 ⟨none,none,.store 2,[.t 4,.t 30]⟩]) (.lay 0 2))
 .ret))))))⟩
theorem WN:aC Tryz.prog 224 QL=true:=by kernel_rfl
def Q6:Fn:=⟨24,2,[.tmp 4],
 (.sr [ii 2 (.box 0 2) [.t 0],
 ii 3 (.box 1 2) [.t 1],
 mc 4 (.bool false)]
 (.sr [fa 5 0 2,
 ld 6 5,
 fa 7 0 3,
 ld 8 7,
 b2 9 .lss 6 8,
 mv 10 9,
 gf 11 10 (.fad 0) [.t 2],
 gf 12 10 (.load 1 false false) [.t 11],
 gf 13 10 (.fad 0) [.t 3],
 gf 14 10 (.load 1 false false) [.t 13],
 gf 15 10 (.bin .eql) [.t 12,.t 14],
 gf 16 10 (.mov false) [.t 15],
 gt 17 16 (.fad 1) [.t 2],
 gt 18 16 (.load 1 false false) [.t 17],
 gt 19 16 (.fad 1) [.t 3],
 gt 20 16 (.load 1 false false) [.t 19],
 gt 21 16 (.bin .lss) [.t 18,.t 20],
 gf 22 10 .pick [.t 16,.t 21,.c (.p (.bool false))],
 ii 23 .pick [.t 10,.c (.p (.bool true)),.t 22],
 mt 4 23]
 .ret))⟩
theorem XY:aC Tryz.prog 225 Q6=true:=by kernel_rfl
def RI:Fn:=⟨49,0,[],
 (.sr [mv 8 1,
 b1 9 .add 8 (.int .i64 1),
 mt 6 9]
 (.block 0
 (.loop [7,8,9,10,11,12,13,14,15,16,17,18,19,20,21,22,23,24,25,26,27,28,29,30,31,32,33,34,35,36,37,38,39,40,41,42,43,44,45,46,47,48] []
 (.seq
 (.sr [mv 10 6,
 mv 11 2,
 b2 12 .lss 10 11]
 (.cond (.t 12)
 .skip
 (.exit 0)))
 (.seq
 (.block 1
 (.sr [mv 15 6,
 mt 7 15]
 (.block 2
 (.loop [8,9,10,11,12,13,14,15,16,17,18,19,20,21,22,23,24,25,26,27,28,29,30,31,32,33,34,35,36,37,38,39,40,41,42,43,44,45,46,47,48] []
 (.seq
 (.seq
 (.regd [mv 16 7,
 mv 17 1,
 b2 18 .gtr 16 17,
 mv 19 18,
 gt 20 19 (.mov false) [.t 0],
 gt 21 19 (.mov false) [.t 7],
 gt 22 19 (.iad 1) [.t 20,.t 21],
 gt 23 19 (.at 0 (.load 1 false false)) [.t 22],
 gt 24 19 (.mov false) [.t 0],
 gt 25 19 (.mov false) [.t 7],
 gt 26 19 (.bin .sub) [.t 25,cI 1],
 gt 27 19 (.iad 1) [.t 24,.t 26],
 gt 28 19 (.at 0 (.load 1 false false)) [.t 27],
 gt 29 19 (.pl (.call 290)) [.t 23,.t 28],
 ii 30 .pick [.t 19,.t 29,.c (.p (.bool false))]])
 (.cond (.t 30)
 .skip
 (.exit 2)))
 (.seq
 (.block 3
 (.regd [mv 33 0,
 mv 34 7,
 mv 35 0,
 mv 36 7,
 b1 37 .sub 36 (.int .i64 1),
 mv 38 0,
 mv 39 7,
 b1 40 .sub 39 (.int .i64 1),
 ii 41 (.iad 1) [.t 38,.t 40],
 ii 42 (.at 0 (.load 1 false false)) [.t 41],
 mv 43 0,
 mv 44 7,
 ii 45 (.iad 1) [.t 43,.t 44],
 ii 46 (.at 0 (.load 1 false false)) [.t 45],
 ii 47 (.iad 1) [.t 33,.t 34],
 ⟨none,none,.at 0 (.store 1),[.t 47,.t 42]⟩,
 ii 48 (.iad 1) [.t 35,.t 37],
 ⟨none,none,.at 0 (.store 1),[.t 48,.t 46]⟩]))
 (.reg [mv 31 7,
 b1 32 .sub 31 (.int .i64 1),
 mt 7 32])))))))
 (.reg [mv 13 6,
 b1 14 .add 13 (.int .i64 1),
 mt 6 14]))))))⟩
theorem UV:aC Tryz.prog 284 RI=true:=by kernel_rfl
def PN:Fn:=⟨17,0,[.tmp 4],
 (.sr [mc 4 (.bool false)]
 (.sr [mv 5 0,
 ii 6 (.call 98) [.t 5],
 mv 7 6,
 gt 8 7 (.mov false) [.t 1],
 gt 9 7 (.call 98) [.t 8],
 gt 10 7 (.un .not) [.t 9],
 ii 11 .pick [.t 7,.t 10,.c (.p (.bool false))],
 mv 12 11,
 gf 13 12 (.mov false) [.t 0],
 gf 14 12 (.mov false) [.t 1],
 gf 15 12 (.bin .lss) [.t 13,.t 14],
 ii 16 .pick [.t 12,.c (.p (.bool true)),.t 15],
 mt 4 16]
 .ret))⟩
theorem XC:aC Tryz.prog 290 PN=true:=by kernel_rfl
def RN:Fn:=⟨15,0,[.tmp 2],
 (.sr [⟨some 2,none,.mov true,[.c (.p (.str ⟨#[]⟩))]⟩]
 (.seq
 (.sr [mv 3 0,
 b1 4 .lss 3 (.int .i64 10)]
 (.cond (.t 4)
 (.sr [mv 5 0,
 mv 6 0,
 b1 7 .add 6 (.int .i64 1),
 ⟨some 8,none,.ssl true true,[.c (.p (.str ⟨#[48,49,50,51,52,53,54,55,56,57,97,98,99,100,101,102,103,104,105,106,107,108,109,110,111,112,113,114,115,116,117,118,119,120,121,122]⟩)),.t 5,.t 7]⟩,
 mt 2 8]
 .ret)
 .skip))
 (.sr [mv 9 0,
 b1 10 .mul 9 (.int .i64 2),
 mv 11 0,
 b1 12 .mul 11 (.int .i64 2),
 b1 13 .add 12 (.int .i64 2),
 ⟨some 14,none,.ssl true true,[.c (.p (.str ⟨#[48,48,48,49,48,50,48,51,48,52,48,53,48,54,48,55,48,56,48,57,49,48,49,49,49,50,49,51,49,52,49,53,49,54,49,55,49,56,49,57,50,48,50,49,50,50,50,51,50,52,50,53,50,54,50,55,50,56,50,57,51,48,51,49,51,50,51,51,51,52,51,53,51,54,51,55,51,56,51,57,52,48,52,49,52,50,52,51,52,52,52,53,52,54,52,55,52,56,52,57,53,48,53,49,53,50,53,51,53,52,53,53,53,54,53,55,53,56,53,57,54,48,54,49,54,50,54,51,54,52,54,53,54,54,54,55,54,56,54,57,55,48,55,49,55,50,55,51,55,52,55,53,55,54,55,55,55,56,55,57,56,48,56,49,56,50,56,51,56,52,56,53,56,54,56,55,56,56,56,57,57,48,57,49,57,50,57,51,57,52,57,53,57,54,57,55,57,56,57,57]⟩)),.t 10,.t 13]⟩,
 mt 2 14]
 .ret)))⟩
theorem UG:aC Tryz.prog 293 RN=true:=by kernel_rfl
def W7:Fn:=⟨172,0,[.tmp 6,.tmp 7],
 (.sr [mc 6 (.int .u64 0),
 mc 7 (.atom .nilIface)]
 (.seq
 (.sr [mv 18 0,
 ⟨some 19,none,.bin .eql,[.t 18,.c (.p (.str ⟨#[]⟩))]⟩]
 (.cond (.t 19)
 (.sr [ii 20 .stk [],
 mc 6 (.int .u64 0),
 mt 7 20]
 .ret)
 .skip))
 (.sr [mv 21 1,
 b1 22 .eql 21 (.int .i64 0),
 mt 8 22]
 (.sr [mv 23 0,
 mt 9 23]
 (.seq
 (.block 0
 (.sr [mv 26 1,
 ii 27 (.bin .leq) [cI 2,.t 26],
 mv 28 27,
 gt 29 28 (.mov false) [.t 1],
 gt 30 28 (.bin .leq) [.t 29,cI 36],
 ii 31 .pick [.t 28,.t 30,.c (.p (.bool false))],
 mt 25 31]
 (.cond (.t 25)
 .skip
 (.sr [mv 33 1,
 b1 34 .eql 33 (.int .i64 0),
 mt 32 34]
 (.cond (.t 32)
 (.sr [mc 1 (.int .i64 10)]
 (.sr [mv 35 0,
 ii 36 .sidx [.t 35,cI 0],
 b1 37 .eql 36 (.int .u8 48)]
 (.cond (.t 37)
 (.block 1
 (.sr [mv 41 0,
 ii 42 .slen [.t 41],
 b1 43 .geq 42 (.int .i64 3),
 mv 44 43,
 gt 45 44 (.mov false) [.t 0],
 gt 46 44 .sidx [.t 45,cI 1],
 gt 47 44 (.call 319) [.t 46],
 gt 48 44 (.bin .eql) [.t 47,.c (.p (.int .u8 98))],
 ii 49 .pick [.t 44,.t 48,.c (.p (.bool false))],
 mt 40 49]
 (.cond (.t 40)
 (.sr [mc 1 (.int .i64 2)]
 (.reg [mv 50 0,
 ii 51 (.ssl true false) [.t 50,cI 2],
 mt 0 51]))
 (.sr [mv 53 0,
 ii 54 .slen [.t 53],
 b1 55 .geq 54 (.int .i64 3),
 mv 56 55,
 gt 57 56 (.mov false) [.t 0],
 gt 58 56 .sidx [.t 57,cI 1],
 gt 59 56 (.call 319) [.t 58],
 gt 60 56 (.bin .eql) [.t 59,.c (.p (.int .u8 111))],
 ii 61 .pick [.t 56,.t 60,.c (.p (.bool false))],
 mt 52 61]
 (.cond (.t 52)
 (.sr [mc 1 (.int .i64 8)]
 (.reg [mv 62 0,
 ii 63 (.ssl true false) [.t 62,cI 2],
 mt 0 63]))
 (.sr [mv 65 0,
 ii 66 .slen [.t 65],
 b1 67 .geq 66 (.int .i64 3),
 mv 68 67,
 gt 69 68 (.mov false) [.t 0],
 gt 70 68 .sidx [.t 69,cI 1],
 gt 71 68 (.call 319) [.t 70],
 gt 72 68 (.bin .eql) [.t 71,.c (.p (.int .u8 120))],
 ii 73 .pick [.t 68,.t 72,.c (.p (.bool false))],
 mt 64 73]
 (.cond (.t 64)
 (.sr [mc 1 (.int .i64 16)]
 (.reg [mv 74 0,
 ii 75 (.ssl true false) [.t 74,cI 2],
 mt 0 75]))
 (.sr [mc 1 (.int .i64 8)]
 (.reg [mv 38 0,
 ii 39 (.ssl true false) [.t 38,cI 1],
 mt 0 39])))))))))
 .skip)))
 (.sr [ii 24 .stk [],
 mc 6 (.int .u64 0),
 mt 7 24]
 .ret))))))
 (.seq
 (.sr [mv 76 2,
 b1 77 .eql 76 (.int .i64 0)]
 (.cond (.t 77)
 (.reg [mc 2 (.int .i64 64)])
 (.sr [mv 78 2,
 b1 79 .lss 78 (.int .i64 0),
 mv 80 79,
 gf 81 80 (.mov false) [.t 2],
 gf 82 80 (.bin .gtr) [.t 81,cI 64],
 ii 83 .pick [.t 80,.c (.p (.bool true)),.t 82]]
 (.cond (.t 83)
 (.sr [ii 84 .stk [],
 mc 6 (.int .u64 0),
 mt 7 84]
 .ret)
 .skip))))
 (.sr [mc 10 (.int .u64 0)]
 (.seq
 (.sr [mv 85 1]
 (.block 2
 (.sr [b1 91 .eql 85 (.int .i64 10),
 mt 90 91]
 (.cond (.t 90)
 (.reg [mc 10 (.int .u64 1844674407370955162)])
 (.sr [b1 93 .eql 85 (.int .i64 16),
 mt 92 93]
 (.cond (.t 92)
 (.reg [mc 10 (.int .u64 1152921504606846976)])
 (.reg [mv 86 1,
 ii 87 (.conv .u64) [.t 86],
 ii 88 (.bin .quo) [.c (.p (.int .u64 18446744073709551615)),.t 87],
 b1 89 .add 88 (.int .u64 1),
 mt 10 89])))))))
 (.sr [mv 94 2,
 ii 95 (.conv .u64) [.t 94],
 ii 96 (.bin .shl) [.c (.p (.int .u64 1)),.t 95],
 b1 97 .sub 96 (.int .u64 1),
 mt 11 97]
 (.sr [mc 12 (.bool false)]
 (.sr [mc 13 (.int .u64 0)]
 (.seq
 (.sr [mv 98 0,
 ii 99 .s2b [.t 98],
 ii 100 .len [.t 99],
 ii 101 (.mov false) [cI 0]]
 (.block 3
 (.loop [0,2,6,7,15,16,17,18,19,20,21,22,23,24,25,26,27,28,29,30,31,32,33,34,35,36,37,38,39,40,41,42,43,44,45,46,47,48,49,50,51,52,53,54,55,56,57,58,59,60,61,62,63,64,65,66,67,68,69,70,71,72,73,74,75,76,77,78,79,80,81,82,83,84,85,86,87,88,89,90,91,92,93,94,95,96,97,98,102,103,104,105,106,107,108,109,110,111,112,113,114,115,116,117,118,119,120,121,122,123,124,125,126,127,128,129,130,131,132,133,134,135,136,137,138,139,140,141,142,143,144,145,146,147,148,149,150,151,152,153,154,155,156,157,158,159,160,161,162,163,164,165,166,167,168,169,170,171] []
 (.sr [b2 102 .lss 101 100]
 (.seq
 (.cond (.t 102)
 .skip
 (.exit 3))
 (.seq
 (.block 4
 (.sr [ii 103 (.iad 1) [.t 99,.t 101],
 ld 104 103,
 mt 15 104]
 (.sr [mc 16 (.int .u8 0)]
 (.seq
 (.block 5
 (.sr [mv 107 15,
 b1 108 .eql 107 (.int .u8 95),
 mv 109 108,
 gt 110 109 (.mov false) [.t 8],
 ii 111 .pick [.t 109,.t 110,.c (.p (.bool false))],
 mt 106 111]
 (.cond (.t 106)
 (.sr [mc 12 (.bool true)]
 (.exit 4))
 (.sr [mv 113 15,
 ii 114 (.bin .leq) [.c (.p (.int .u8 48)),.t 113],
 mv 115 114,
 gt 116 115 (.mov false) [.t 15],
 gt 117 115 (.bin .leq) [.t 116,.c (.p (.int .u8 57))],
 ii 118 .pick [.t 115,.t 117,.c (.p (.bool false))],
 mt 112 118]
 (.cond (.t 112)
 (.reg [mv 119 15,
 b1 120 .sub 119 (.int .u8 48),
 mt 16 120])
 (.sr [mv 122 15,
 ii 123 (.call 319) [.t 122],
 ii 124 (.bin .leq) [.c (.p (.int .u8 97)),.t 123],
 mv 125 124,
 gt 126 125 (.mov false) [.t 15],
 gt 127 125 (.call 319) [.t 126],
 gt 128 125 (.bin .leq) [.t 127,.c (.p (.int .u8 122))],
 ii 129 .pick [.t 125,.t 128,.c (.p (.bool false))],
 mt 121 129]
 (.cond (.t 121)
 (.reg [mv 130 15,
 ii 131 (.call 319) [.t 130],
 b1 132 .sub 131 (.int .u8 97),
 b1 133 .add 132 (.int .u8 10),
 mt 16 133])
 (.sr [ii 105 .stk [],
 mc 6 (.int .u64 0),
 mt 7 105]
 .ret))))))))
 (.seq
 (.sr [mv 134 16,
 mv 135 1,
 ii 136 (.conv .u8) [.t 135],
 b2 137 .geq 134 136]
 (.cond (.t 137)
 (.sr [ii 138 .stk [],
 mc 6 (.int .u64 0),
 mt 7 138]
 .ret)
 .skip))
 (.seq
 (.sr [mv 139 13,
 mv 140 10,
 b2 141 .geq 139 140]
 (.cond (.t 141)
 (.sr [mv 142 11,
 ii 143 .stk [],
 mt 6 142,
 mt 7 143]
 .ret)
 .skip))
 (.sr [mv 144 13,
 mv 145 1,
 ii 146 (.conv .u64) [.t 145],
 b2 147 .mul 144 146,
 mt 13 147]
 (.sr [mv 148 13,
 mv 149 16,
 ii 150 (.conv .u64) [.t 149],
 b2 151 .add 148 150,
 mt 17 151]
 (.seq
 (.sr [mv 152 17,
 mv 153 13,
 b2 154 .lss 152 153,
 mv 155 154,
 gf 156 155 (.mov false) [.t 17],
 gf 157 155 (.mov false) [.t 11],
 gf 158 155 (.bin .gtr) [.t 156,.t 157],
 ii 159 .pick [.t 155,.c (.p (.bool true)),.t 158]]
 (.cond (.t 159)
 (.sr [mv 160 11,
 ii 161 .stk [],
 mt 6 160,
 mt 7 161]
 .ret)
 .skip))
 (.reg [mv 162 17,
 mt 13 162]))))))))))
 (.reg [b1 163 .add 101 (.int .i64 1),
 mv 101 163])))))))
 (.seq
 (.sr [mv 164 12,
 mv 165 164,
 gt 166 165 (.mov false) [.t 9],
 gt 167 165 (.call 320) [.t 166],
 gt 168 165 (.un .not) [.t 167],
 ii 169 .pick [.t 165,.t 168,.c (.p (.bool false))]]
 (.cond (.t 169)
 (.sr [ii 170 .stk [],
 mc 6 (.int .u64 0),
 mt 7 170]
 .ret)
 .skip))
 (.sr [mv 171 13,
 mt 6 171,
 mc 7 (.atom .nilIface)]
 .ret))))))))))))))⟩
theorem YZ:aC Tryz.prog 302 W7=true:=by kernel_rfl
def RS:Fn:=⟨8,0,[.tmp 4],
 (.sr [mc 4 (.int .i64 0)]
 (.sr [mv 5 0,
 mv 6 1,
 ii 7 (.call 324) [.t 5,.t 6],
 mt 4 7]
 .ret))⟩
theorem VU:aC Tryz.prog 307 RS=true:=by kernel_rfl
def SO:Fn:=⟨51,0,[.tmp 4,.tmp 5],
 (.sr [mc 4 (.int .u64 0),
 mc 5 (.int .u64 0)]
 (.sr [mv 14 0,
 b1 15 .and 14 (.int .u64 4294967295),
 mt 6 15]
 (.sr [mv 16 0,
 b1 17 .shr 16 (.int .u64 32),
 mt 7 17]
 (.sr [mv 18 1,
 b1 19 .and 18 (.int .u64 4294967295),
 mt 8 19]
 (.sr [mv 20 1,
 b1 21 .shr 20 (.int .u64 32),
 mt 9 21]
 (.sr [mv 22 6,
 mv 23 8,
 b2 24 .mul 22 23,
 mt 10 24]
 (.sr [mv 25 7,
 mv 26 8,
 b2 27 .mul 25 26,
 mv 28 10,
 b1 29 .shr 28 (.int .u64 32),
 b2 30 .add 27 29,
 mt 11 30]
 (.sr [mv 31 11,
 b1 32 .and 31 (.int .u64 4294967295),
 mt 12 32]
 (.sr [mv 33 11,
 b1 34 .shr 33 (.int .u64 32),
 mt 13 34]
 (.sr [mv 35 12,
 mv 36 6,
 mv 37 9,
 b2 38 .mul 36 37,
 b2 39 .add 35 38,
 mt 12 39]
 (.sr [mv 40 7,
 mv 41 9,
 b2 42 .mul 40 41,
 mv 43 13,
 b2 44 .add 42 43,
 mv 45 12,
 b1 46 .shr 45 (.int .u64 32),
 b2 47 .add 44 46,
 mt 4 47]
 (.sr [mv 48 0,
 mv 49 1,
 b2 50 .mul 48 49,
 mt 5 50]
 .ret))))))))))))⟩
theorem WF:aC Tryz.prog 244 SO=true:=by kernel_rfl
def QB:Fn:=⟨5,0,[.tmp 2],
 (.sr [mc 2 (.int .u8 0)]
 (.sr [mv 3 0,
 b1 4 .or 3 (.int .u8 32),
 mt 2 4]
 .ret))⟩
theorem W3:aC Tryz.prog 319 QB=true:=by kernel_rfl
open Go.RowKit
def OR:Fn:=⟨25,0,[.tmp 2],
 (.sr [mc 2 (.int .i64 0)]
 (.seq
 (.sr [mv 3 0,
 b1 4 .geq 3 (.int .u64 4294967296)]
 (.cond (.t 4)
 (.sr [mv 5 0,
 b1 6 .shr 5 (.int .u64 32),
 mt 0 6]
 (.reg [mc 2 (.int .i64 32)]))
 .skip))
 (.seq
 (.sr [mv 7 0,
 b1 8 .geq 7 (.int .u64 65536)]
 (.cond (.t 8)
 (.sr [mv 9 0,
 b1 10 .shr 9 (.int .u64 16),
 mt 0 10]
 (.reg [mv 11 2,
 b1 12 .add 11 (.int .i64 16),
 mt 2 12]))
 .skip))
 (.seq
 (.sr [mv 13 0,
 b1 14 .geq 13 (.int .u64 256)]
 (.cond (.t 14)
 (.sr [mv 15 0,
 b1 16 .shr 15 (.int .u64 8),
 mt 0 16]
 (.reg [mv 17 2,
 b1 18 .add 17 (.int .i64 8),
 mt 2 18]))
 .skip))
 (.sr [mv 19 2,
 mv 20 0,
 ii 21 (.conv .u8) [.t 20],
 ⟨some 22,none,.sidx,[.c (.p (.str ⟨#[0,1,2,2,3,3,3,3,4,4,4,4,4,4,4,4,5,5,5,5,5,5,5,5,5,5,5,5,5,5,5,5,6,6,6,6,6,6,6,6,6,6,6,6,6,6,6,6,6,6,6,6,6,6,6,6,6,6,6,6,6,6,6,6,7,7,7,7,7,7,7,7,7,7,7,7,7,7,7,7,7,7,7,7,7,7,7,7,7,7,7,7,7,7,7,7,7,7,7,7,7,7,7,7,7,7,7,7,7,7,7,7,7,7,7,7,7,7,7,7,7,7,7,7,7,7,7,7,8,8,8,8,8,8,8,8,8,8,8,8,8,8,8,8,8,8,8,8,8,8,8,8,8,8,8,8,8,8,8,8,8,8,8,8,8,8,8,8,8,8,8,8,8,8,8,8,8,8,8,8,8,8,8,8,8,8,8,8,8,8,8,8,8,8,8,8,8,8,8,8,8,8,8,8,8,8,8,8,8,8,8,8,8,8,8,8,8,8,8,8,8,8,8,8,8,8,8,8,8,8,8,8,8,8,8,8,8,8,8,8,8,8,8,8,8,8,8,8,8,8,8,8,8,8,8,8]⟩)),.t 21]⟩,
 ii 23 (.conv .i64) [.t 22],
 b2 24 .add 19 23,
 mt 2 24]
 .ret)))))⟩
theorem XL:aC Tryz.prog 208 OR=true:=by kernel_rfl
end Go.Proofs.YtnjphclbpgajpaaGreatDoor.Vc
