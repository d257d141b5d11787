/- Part of a proof over a Go program: Beg2, Fq, Fr, Fk. No condition. -/
import Derived.Test.YtnjphclbpgajpaaGreatDoorX13
import Derived.Test.YtnjphclbpgajpaaGreatDoorX08
import Derived.Test.YtnjphclbpgajpaaGreatDoorProg
set_option linter.unnecessarySimpa false
set_option linter.unusedSectionVars false
set_option linter.unusedSimpArgs false
set_option linter.unusedVariables false
set_option maxHeartbeats 4000000
set_option maxRecDepth 1000000
namespace Go.Proofs.YtnjphclbpgajpaaGreatDoor.Vc
open Go.RowKit
def SJ:Tbl:=(75,F75) ::(105,YB) ::(101,VD) ::(102,WL) ::(103,VP) ::(107,UF) ::(106,XK) ::(104,XM) ::(108,TE) ::(144,TR) ::(145,TX) ::(146,U4) ::(147,UY) ::(148,WD) ::(150,X7) ::(151,U0) ::(152,UO) ::(153,WE) ::(157,V6) ::(156,XU) ::(159,Y4) ::(178,UK) ::(179,VI) ::(181,WQ) ::(182,VX) ::MY
theorem tblO_ok:TblOK Tryz.prog SJ:=.cons k75 <| .cons a0Y <| .cons a0x <| .cons a1G <| .cons a0U <| .cons Z7 <| .cons a1K <| .cons a0d <| .cons a0J <| .cons a0n <| .cons a0i <| .cons a0K <| .cons a0b <| .cons ZJ <| .cons a0o <| .cons a0v <| .cons a1J <| .cons Z8 <| .cons a1N <| .cons ZE <| .cons ZO <| .cons ZU <| .cons a1O <| .cons Z4 <| .cons ZW<|tblP_ok
def a1M(zs:List Nat)(n:Nat):Env:=rM (HR zs) TU (Tbl.del zs SJ) n
theorem ND{zs:List Nat}(h:∀z,z∈zs->aB Tryz.prog z [] (.p (.bool true)))(n:Nat):(a1M zs n).OK Tryz.prog:=p9 (zH h) yW (tblO_ok.del zs)
theorem SZ:aB Tryz.prog 75 [] (.p (.bool true)):=(ND (zs:=[155]) (fun z hz=>by simp at hz;subst hz;exact L8) 100).call 75 [] (.p (.bool true)) (by kernel_rfl)
open Go.RowKit
def F88:Fn:=⟨62,0,[],
 (.seq
 (.regd [mv 6 0,
 ii 7 .nilchk [.t 6],
 fa 8 1 7,
 ii 9 (.at 0 (.load 1 false false)) [.t 8],
 mv 10 1,
 mv 11 0,
 ii 12 .nilchk [.t 11],
 fa 13 1 12,
 ii 14 (.at 0 (.load 1 false false)) [.t 13],
 mv 15 2,
 mv 16 0,
 ii 17 .nilchk [.t 16],
 fa 18 1 17,
 ii 19 (.at 0 (.load 1 false false)) [.t 18],
 mv 20 2,
 ii 21 (.iad 4) [.t 19,.t 20],
 ii 22 (.load 4 true false) [.t 21],
 mv 23 0,
 ii 24 .nilchk [.t 23],
 fa 25 1 24,
 ii 26 (.at 0 (.load 1 false false)) [.t 25],
 mv 27 1,
 ii 28 (.iad 4) [.t 26,.t 27],
 ii 29 (.load 4 true false) [.t 28],
 ii 30 (.iad 4) [.t 9,.t 10],
 ⟨none,none,.store 4,[.t 30,.t 22]⟩,
 ii 31 (.iad 4) [.t 14,.t 15],
 ⟨none,none,.store 4,[.t 31,.t 29]⟩])
 (.regd [mv 32 0,
 ii 33 .nilchk [.t 32],
 fa 34 2 33,
 ii 35 (.at 0 (.load 1 false false)) [.t 34],
 mv 36 0,
 ii 37 .nilchk [.t 36],
 fa 38 1 37,
 ii 39 (.at 0 (.load 1 false false)) [.t 38],
 mv 40 1,
 ii 41 (.iad 4) [.t 39,.t 40],
 fa 42 0 41,
 ld 43 42,
 mv 44 0,
 ii 45 .nilchk [.t 44],
 fa 46 2 45,
 ii 47 (.at 0 (.load 1 false false)) [.t 46],
 mv 48 0,
 ii 49 .nilchk [.t 48],
 fa 50 1 49,
 ii 51 (.at 0 (.load 1 false false)) [.t 50],
 mv 52 2,
 ii 53 (.iad 4) [.t 51,.t 52],
 fa 54 0 53,
 ld 55 54,
 mv 56 1,
 mv 57 2,
 ii 58 (.ob (.mpe (some .i64))) [.t 35,.t 43],
 ii 59 (.ext 1) [.t 58],
 ⟨none,none,.ob .ents,[.t 35,.t 59,.t 56]⟩,
 ii 60 (.ob (.mpe (some .i64))) [.t 47,.t 55],
 ii 61 (.ext 1) [.t 60],
 ⟨none,none,.ob .ents,[.t 47,.t 61,.t 57]⟩]))⟩
theorem k88:aC Tryz.prog 88 F88=true:=by kernel_rfl
def F87:Fn:=⟨23,0,[],
 (.block 0
 (.loop [4,5,6,7,8,9,10,11,12,13,14,15,16,17,18,19,20,21,22] []
 (.seq
 (.sr [mv 4 1,
 b1 5 .gtr 4 (.int .i64 0),
 mt 6 5,
 gt 7 6 (.mov false) [.t 0],
 gt 8 6 (.mov false) [.t 1],
 gt 9 6 (.mov false) [.t 1],
 gt 10 6 (.bin .sub) [.t 9,cI 1],
 gt 11 6 (.bin .quo) [.t 10,cI 2],
 gt 12 6 (.ob (.callo 140 false)) [.t 7,.t 8,.t 11],
 ii 13 .pick [.t 6,.t 12,.c (.p (.bool false))]]
 (.cond (.t 13)
 .skip
 (.exit 0)))
 (.block 1
 (.sr [mv 14 0,
 mv 15 1,
 mv 16 1,
 b1 17 .sub 16 (.int .i64 1),
 b1 18 .quo 17 (.int .i64 2),
 ii 19 (.ob (.callo 88 false)) [.t 14,.t 15,.t 18]]
 (.reg [mv 20 1,
 b1 21 .sub 20 (.int .i64 1),
 b1 22 .quo 21 (.int .i64 2),
 mt 1 22]))))))⟩
theorem k87:aC Tryz.prog 87 F87=true:=by kernel_rfl
def F89:Fn:=⟨44,0,[],
 (.block 0
 (.loop [4,5,6,7,8,9,10,11,12,13,14,15,16,17,18,19,20,21,22,23,24,25,26,27,28,29,30,31,32,33,34,35,36,37,38,39,40,41,42,43] []
 (.block 1
 (.sr [mv 5 1,
 ii 6 (.bin .mul) [cI 2,.t 5],
 b1 7 .add 6 (.int .i64 1),
 mt 4 7]
 (.seq
 (.sr [mv 8 4,
 b1 9 .add 8 (.int .i64 1),
 mv 10 0,
 ii 11 .nilchk [.t 10],
 fa 12 1 11,
 ld 13 12,
 ii 14 .len [.t 13],
 b2 15 .lss 9 14,
 mt 16 15,
 gt 17 16 (.mov false) [.t 0],
 gt 18 16 (.mov false) [.t 4],
 gt 19 16 (.bin .add) [.t 18,cI 1],
 gt 20 16 (.mov false) [.t 4],
 gt 21 16 (.ob (.callo 140 false)) [.t 17,.t 19,.t 20],
 ii 22 .pick [.t 16,.t 21,.c (.p (.bool false))]]
 (.cond (.t 22)
 (.reg [mv 23 4,
 b1 24 .add 23 (.int .i64 1),
 mt 4 24])
 .skip))
 (.seq
 (.sr [mv 25 4,
 mv 26 0,
 ii 27 .nilchk [.t 26],
 fa 28 1 27,
 ld 29 28,
 ii 30 .len [.t 29],
 b2 31 .geq 25 30,
 mt 32 31,
 gf 33 32 (.mov false) [.t 0],
 gf 34 32 (.mov false) [.t 4],
 gf 35 32 (.mov false) [.t 1],
 gf 36 32 (.ob (.callo 140 false)) [.t 33,.t 34,.t 35],
 gf 37 32 (.un .not) [.t 36],
 ii 38 .pick [.t 32,.c (.p (.bool true)),.t 37]]
 (.cond (.t 38)
 .ret
 .skip))
 (.sr [mv 39 0,
 mt 40 1,
 mv 41 4,
 ii 42 (.ob (.callo 88 false)) [.t 39,.t 40,.t 41]]
 (.reg [mt 43 4,
 mt 1 43]))))))))⟩
theorem k89:aC Tryz.prog 89 F89=true:=by kernel_rfl
def UQ:Fn:=⟨50,2,[.tmp 6],
 (.sr [mc 6 (.bool false)]
 (.seq
 (.pre [7,8,24,26,29,31,35,37,40,42,45,47] [] [0,1] (.rega [mv 9 0,
 ii 10 .nilchk [.t 9],
 fa 11 1 10,
 ii 12 (.at 2 (.load 1 false false)) [.t 11],
 mt 13 1,
 ii 14 (.iad 4) [.t 12,.t 13],
 ii 15 (.at 3 (.load 4 true false)) [.t 14],
 mv 16 0,
 ii 17 .nilchk [.t 16],
 fa 18 1 17,
 ii 19 (.at 2 (.load 1 false false)) [.t 18],
 mt 20 2,
 ii 21 (.iad 4) [.t 19,.t 20],
 ii 22 (.at 3 (.load 4 true false)) [.t 21],
 ⟨some 7,none,.alloc 0 4 [Z0,Z0,Z0,Z0],[]⟩,
 ⟨some 8,none,.alloc 1 4 [Z0,Z0,Z0,Z0],[]⟩,
 ⟨none,none,.at 0 (.store 4),[.t 7,.t 15]⟩,
 ⟨none,none,.at 1 (.store 4),[.t 8,.t 22]⟩]))
 (.seq
 (.block 0
 (.sr [fa 24 1 7,
 ld 25 24,
 fa 26 1 8,
 ld 27 26,
 b2 28 .neq 25 27,
 mt 23 28]
 (.cond (.t 23)
 (.sr [fa 29 1 7,
 ld 30 29,
 fa 31 1 8,
 ld 32 31,
 b2 33 .lss 30 32,
 mt 6 33]
 .ret)
 (.sr [fa 35 2 7,
 ld 36 35,
 fa 37 2 8,
 ld 38 37,
 b2 39 .neq 36 38,
 mt 34 39]
 (.cond (.t 34)
 (.sr [fa 40 2 7,
 ld 41 40,
 fa 42 2 8,
 ld 43 42,
 b2 44 .lss 41 43,
 mt 6 44]
 .ret)
 .skip)))))
 (.sr [fa 45 3 7,
 ld 46 45,
 fa 47 3 8,
 ld 48 47,
 b2 49 .lss 46 48,
 mt 6 49]
 .ret))))⟩
theorem a0P:aC Tryz.prog 140 UQ=true:=by kernel_rfl
def VY:Fn:=⟨38,0,[.tmp 4,.tmp 5,.tmp 6],
 (.sr [mc 4 (.int .i64 0),
 mc 5 (.int .i64 0),
 mc 6 (.bool false)]
 (.seq
 (.sr [mv 9 0,
 ii 10 (.ob (.eqp false)) [.t 9,.c (.p (.atom (.pointer none)))]]
 (.cond (.t 10)
 (.sr [mc 4 (.int .i64 0),
 mc 5 (.int .i64 0),
 mc 6 (.bool false)]
 .ret)
 .skip))
 (.sr [mv 12 0,
 ii 13 .nilchk [.t 12],
 fa 14 2 13,
 ld 15 14,
 mt 16 1,
 ii 17 (.ob (.lookx (some .i64) (.int .i64 0) true)) [.t 15,.t 16],
 mt 11 17,
 ii 18 (.ext 0) [.t 11],
 ii 19 (.ext 1) [.t 11],
 mt 7 18,
 mt 8 19]
 (.seq
 (.sr [mt 20 8,
 ii 21 (.un .not) [.t 20]]
 (.cond (.t 21)
 (.sr [mc 4 (.int .i64 0),
 mc 5 (.int .i64 0),
 mc 6 (.bool false)]
 .ret)
 .skip))
 (.seq
 (.regd [mv 22 0,
 ii 23 .nilchk [.t 22],
 fa 24 1 23,
 ii 25 (.at 0 (.load 1 false false)) [.t 24],
 mv 26 7,
 ii 27 (.iad 4) [.t 25,.t 26],
 fa 28 1 27,
 ld 29 28,
 mv 30 0,
 ii 31 .nilchk [.t 30],
 fa 32 1 31,
 ii 33 (.at 0 (.load 1 false false)) [.t 32],
 mv 34 7,
 ii 35 (.iad 4) [.t 33,.t 34],
 fa 36 2 35,
 ld 37 36,
 mt 4 29,
 mt 5 37,
 mc 6 (.bool true)])
 .ret)))))⟩
theorem a1Z:aC Tryz.prog 141 VY=true:=by kernel_rfl
def F55:Fn:=⟨69,0,[.tmp 8],
 (.sr [mc 8 (.bool false)]
 (.seq
 (.sr [mv 9 0,
 ii 10 (.ob (.eqp false)) [.t 9,.c (.p (.atom (.pointer none)))]]
 (.cond (.t 10)
 (.sr [mc 8 (.bool false)]
 .ret)
 .skip))
 (.seq
 (.seq
 (.regd [mv 11 0,
 mv 12 1,
 ii 13 (.ob (.callo 56 false)) [.t 11,.t 12],
 ii 14 (.un .not) [.t 13],
 mt 15 14,
 gt 16 15 (.mov false) [.t 0],
 gt 17 15 .nilchk [.t 16],
 gt 18 15 (.fad 1) [.t 17],
 gt 19 15 (.at 0 (.load 1 false false)) [.t 18],
 gt 20 15 .lenD [.t 19],
 gt 21 15 (.mov false) [.t 0],
 gt 22 15 .nilchk [.t 21],
 gt 23 15 (.fad 0) [.t 22],
 gt 24 15 (.at 0 (.load 1 false false)) [.t 23],
 gt 25 15 (.bin .geq) [.t 20,.t 24],
 ii 26 .pick [.t 15,.t 25,.c (.p (.bool false))]])
 (.cond (.t 26)
 (.sr [mc 8 (.bool false)]
 .ret)
 .skip))
 (.sr [mv 27 0,
 ii 28 .nilchk [.t 27],
 fa 29 3 28,
 ld 30 29,
 b1 31 .add 30 (.int .i64 1),
 ii 32 .nilchk [.t 27],
 fa 33 3 32,
 ⟨none,none,.store 1,[.t 33,.t 31]⟩]
 (.seq
 (.regd [mv 34 0,
 ii 35 .nilchk [.t 34],
 fa 36 2 35,
 ii 37 (.at 0 (.load 1 false false)) [.t 36],
 mv 38 1,
 mv 39 0,
 ii 40 .nilchk [.t 39],
 fa 41 1 40,
 ii 42 (.at 0 (.load 1 false false)) [.t 41],
 ii 43 .lenD [.t 42],
 ⟨none,none,.ob (.mupx (some .i64)),[.t 37,.t 38,.t 43]⟩])
 (.seq
 (.pre [44,45,52] [] [] (.regm [mv 44 0,
 mv 45 0,
 ii 46 .nilchk [.t 45],
 fa 47 1 46,
 ii 48 (.at 0 (.load 1 false false)) [.t 47],
 mt 49 1,
 mt 50 2,
 mt 51 3,
 mv 52 0,
 ii 53 .nilchk [.t 52],
 fa 54 3 53,
 ii 55 (.at 0 (.load 1 false false)) [.t 54],
 ⟨some 56,none,.build [.int .i64 0,.int .i64 0,.int .i64 0,.int .i64 0] [(0,1),(1,1),(2,1),(3,1)],[.t 49,.t 50,.t 51,.t 55]⟩,
 ii 57 (.bsl 4 1) [.t 56],
 ii 58 (.ob (.appd 4 32 true)) [.t 48,.t 57],
 ii 59 .nilchk [.t 44],
 fa 60 1 59,
 ⟨none,none,.at 0 (.store 1),[.t 60,.t 58]⟩]))
 (.sr [mv 61 0,
 mt 62 0,
 ii 63 .nilchk [.t 62],
 fa 64 1 63,
 ld 65 64,
 ii 66 .len [.t 65],
 b1 67 .sub 66 (.int .i64 1),
 ii 68 (.ob (.callo 87 false)) [.t 61,.t 67]]
 (.sr [mc 8 (.bool true)]
 .ret))))))))⟩
theorem k55:aC Tryz.prog 55 F55=true:=by kernel_rfl
def F56:Fn:=⟨54,0,[.tmp 4],
 (.sr [mc 4 (.bool false)]
 (.seq
 (.sr [mv 8 0,
 ii 9 (.ob (.eqp false)) [.t 8,.c (.p (.atom (.pointer none)))]]
 (.cond (.t 9)
 (.sr [mc 4 (.bool false)]
 .ret)
 .skip))
 (.sr [mv 11 0,
 ii 12 .nilchk [.t 11],
 fa 13 2 12,
 ld 14 13,
 mv 15 1,
 ii 16 (.ob (.lookx (some .i64) (.int .i64 0) true)) [.t 14,.t 15],
 mt 10 16,
 ii 17 (.ext 0) [.t 10],
 ii 18 (.ext 1) [.t 10],
 mt 5 17,
 mt 6 18]
 (.seq
 (.sr [mt 19 6,
 ii 20 (.un .not) [.t 19]]
 (.cond (.t 20)
 (.sr [mc 4 (.bool false)]
 .ret)
 .skip))
 (.sr [mv 21 0,
 ii 22 .nilchk [.t 21],
 fa 23 1 22,
 ld 24 23,
 ii 25 .len [.t 24],
 b1 26 .sub 25 (.int .i64 1),
 mt 7 26]
 (.sr [mv 27 0,
 mv 28 5,
 mv 29 7,
 ii 30 (.ob (.callo 88 false)) [.t 27,.t 28,.t 29]]
 (.sr [mv 31 0,
 mv 32 0,
 ii 33 .nilchk [.t 32],
 fa 34 1 33,
 ld 35 34,
 mv 36 7,
 ii 37 (.ob (.slx 4)) [.t 35,.t 36],
 ii 38 .nilchk [.t 31],
 fa 39 1 38,
 ⟨none,none,.store 1,[.t 39,.t 37]⟩]
 (.sr [mv 40 0,
 ii 41 .nilchk [.t 40],
 fa 42 2 41,
 ld 43 42,
 mt 44 1,
 ⟨none,none,.ob (.mdel (some .i64)),[.t 43,.t 44]⟩]
 (.seq
 (.sr [mv 45 5,
 mt 46 7,
 b2 47 .lss 45 46]
 (.cond (.t 47)
 (.sr [mv 48 0,
 mv 49 5,
 ii 50 (.ob (.callo 87 false)) [.t 48,.t 49]]
 (.reg [mt 51 0,
 mt 52 5,
 ii 53 (.ob (.callo 89 false)) [.t 51,.t 52]]))
 .skip))
 (.sr [mc 4 (.bool true)]
 .ret))))))))))⟩
theorem k56:aC Tryz.prog 56 F56=true:=by kernel_rfl
def F57:Fn:=⟨16,0,[.tmp 2,.tmp 3],
 (.sr [mc 2 (.int .i64 0),
 mc 3 (.bool false)]
 (.sr [mc 4 (.int .i64 0)]
 (.seq
 (.sr [mv 5 0,
 ii 6 (.ob (.callo 58 false)) [.t 5],
 b1 7 .eql 6 (.int .i64 0)]
 (.cond (.t 7)
 (.sr [mt 8 4,
 mt 2 8,
 mc 3 (.bool false)]
 .ret)
 .skip))
 (.sr [mt 9 0,
 ii 10 .nilchk [.t 9],
 fa 11 1 10,
 ld 12 11,
 ii 13 (.iad 4) [.t 12,cI 0],
 fa 14 0 13,
 ld 15 14,
 mt 2 15,
 mc 3 (.bool true)]
 .ret))))⟩
theorem k57:aC Tryz.prog 57 F57=true:=by kernel_rfl
def F58:Fn:=⟨10,0,[.tmp 2],
 (.sr [mc 2 (.int .i64 0)]
 (.seq
 (.sr [mv 3 0,
 ii 4 (.ob (.eqp false)) [.t 3,.c (.p (.atom (.pointer none)))]]
 (.cond (.t 4)
 (.sr [mc 2 (.int .i64 0)]
 .ret)
 .skip))
 (.sr [mt 5 0,
 ii 6 .nilchk [.t 5],
 fa 7 1 6,
 ld 8 7,
 ii 9 .len [.t 8],
 mt 2 9]
 .ret)))⟩
theorem k58:aC Tryz.prog 58 F58=true:=by kernel_rfl
def F95:Fn:=⟨17,0,[.tmp 2,.tmp 3],
 (.sr [mc 2 (.int .i64 0),
 mc 3 (.bool false)]
 (.sr [mv 7 0,
 ii 8 (.ob (.callo 57 false)) [.t 7],
 mt 6 8,
 ii 9 (.ext 0) [.t 6],
 ii 10 (.ext 1) [.t 6],
 mt 4 9,
 mt 5 10]
 (.seq
 (.sr [mv 11 5]
 (.cond (.t 11)
 (.reg [mt 12 0,
 mv 13 4,
 ii 14 (.ob (.callo 56 false)) [.t 12,.t 13]])
 .skip))
 (.sr [mt 15 4,
 mt 16 5,
 mt 2 15,
 mt 3 16]
 .ret))))⟩
theorem k95:aC Tryz.prog 95 F95=true:=by kernel_rfl
def F54:Fn:=⟨9,2,[.tmp 2],
 (.sr [mc 2 (.atom (.pointer none))]
 (.sr [mt 3 0,
 ii 4 .mx [.t 3,cI 0],
 ii 5 .mn [.t 4,cI 1000],
 ii 6 (.mkmap 0) [],
 ⟨some 7,none,.ob (.bldo [.int .i64 0,.sl 4 true [],.atom (.map none),.int .i64 0] [(0,1),(2,1)]),[.t 5,.t 6]⟩,
 ii 8 (.box 1 4) [.t 7],
 mt 2 8]
 .ret))⟩
theorem k54:aC Tryz.prog 54 F54=true:=by kernel_rfl
def ZA:Fn:=⟨62,0,[],
 (.seq
 (.regd [mv 6 0,
 ii 7 .nilchk [.t 6],
 fa 8 1 7,
 ii 9 (.at 0 (.load 1 false false)) [.t 8],
 mv 10 1,
 mv 11 0,
 ii 12 .nilchk [.t 11],
 fa 13 1 12,
 ii 14 (.at 0 (.load 1 false false)) [.t 13],
 mv 15 2,
 mv 16 0,
 ii 17 .nilchk [.t 16],
 fa 18 1 17,
 ii 19 (.at 0 (.load 1 false false)) [.t 18],
 mv 20 2,
 ii 21 (.iad 4) [.t 19,.t 20],
 ii 22 (.load 4 true false) [.t 21],
 mv 23 0,
 ii 24 .nilchk [.t 23],
 fa 25 1 24,
 ii 26 (.at 0 (.load 1 false false)) [.t 25],
 mv 27 1,
 ii 28 (.iad 4) [.t 26,.t 27],
 ii 29 (.load 4 true false) [.t 28],
 ii 30 (.iad 4) [.t 9,.t 10],
 ⟨none,none,.store 4,[.t 30,.t 22]⟩,
 ii 31 (.iad 4) [.t 14,.t 15],
 ⟨none,none,.store 4,[.t 31,.t 29]⟩])
 (.regd [mv 32 0,
 ii 33 .nilchk [.t 32],
 fa 34 2 33,
 ii 35 (.at 0 (.load 1 false false)) [.t 34],
 mv 36 0,
 ii 37 .nilchk [.t 36],
 fa 38 1 37,
 ii 39 (.at 0 (.load 1 false false)) [.t 38],
 mv 40 1,
 ii 41 (.iad 4) [.t 39,.t 40],
 fa 42 0 41,
 ld 43 42,
 mv 44 0,
 ii 45 .nilchk [.t 44],
 fa 46 2 45,
 ii 47 (.at 0 (.load 1 false false)) [.t 46],
 mv 48 0,
 ii 49 .nilchk [.t 48],
 fa 50 1 49,
 ii 51 (.at 0 (.load 1 false false)) [.t 50],
 mv 52 2,
 ii 53 (.iad 4) [.t 51,.t 52],
 fa 54 0 53,
 ld 55 54,
 mv 56 1,
 mv 57 2,
 ii 58 (.ob (.mpe none)) [.t 35,.t 43],
 ii 59 (.ext 1) [.t 58],
 ⟨none,none,.ob .ents,[.t 35,.t 59,.t 56]⟩,
 ii 60 (.ob (.mpe none)) [.t 47,.t 55],
 ii 61 (.ext 1) [.t 60],
 ⟨none,none,.ob .ents,[.t 47,.t 61,.t 57]⟩]))⟩
theorem ZK:aC Tryz.prog 189 ZA=true:=by kernel_rfl
def X0:Fn:=⟨23,0,[],
 (.block 0
 (.loop [4,5,6,7,8,9,10,11,12,13,14,15,16,17,18,19,20,21,22] []
 (.seq
 (.sr [mv 4 1,
 b1 5 .gtr 4 (.int .i64 0),
 mt 6 5,
 gt 7 6 (.mov false) [.t 0],
 gt 8 6 (.mov false) [.t 1],
 gt 9 6 (.mov false) [.t 1],
 gt 10 6 (.bin .sub) [.t 9,cI 1],
 gt 11 6 (.bin .quo) [.t 10,cI 2],
 gt 12 6 (.ob (.callo 191 false)) [.t 7,.t 8,.t 11],
 ii 13 .pick [.t 6,.t 12,.c (.p (.bool false))]]
 (.cond (.t 13)
 .skip
 (.exit 0)))
 (.block 1
 (.sr [mv 14 0,
 mv 15 1,
 mv 16 1,
 b1 17 .sub 16 (.int .i64 1),
 b1 18 .quo 17 (.int .i64 2),
 ii 19 (.ob (.callo 189 false)) [.t 14,.t 15,.t 18]]
 (.reg [mv 20 1,
 b1 21 .sub 20 (.int .i64 1),
 b1 22 .quo 21 (.int .i64 2),
 mt 1 22]))))))⟩
theorem a1c:aC Tryz.prog 161 X0=true:=by kernel_rfl
def TW:Fn:=⟨44,0,[],
 (.block 0
 (.loop [4,5,6,7,8,9,10,11,12,13,14,15,16,17,18,19,20,21,22,23,24,25,26,27,28,29,30,31,32,33,34,35,36,37,38,39,40,41,42,43] []
 (.block 1
 (.sr [mv 5 1,
 ii 6 (.bin .mul) [cI 2,.t 5],
 b1 7 .add 6 (.int .i64 1),
 mt 4 7]
 (.seq
 (.sr [mv 8 4,
 b1 9 .add 8 (.int .i64 1),
 mv 10 0,
 ii 11 .nilchk [.t 10],
 fa 12 1 11,
 ld 13 12,
 ii 14 .len [.t 13],
 b2 15 .lss 9 14,
 mt 16 15,
 gt 17 16 (.mov false) [.t 0],
 gt 18 16 (.mov false) [.t 4],
 gt 19 16 (.bin .add) [.t 18,cI 1],
 gt 20 16 (.mov false) [.t 4],
 gt 21 16 (.ob (.callo 191 false)) [.t 17,.t 19,.t 20],
 ii 22 .pick [.t 16,.t 21,.c (.p (.bool false))]]
 (.cond (.t 22)
 (.reg [mv 23 4,
 b1 24 .add 23 (.int .i64 1),
 mt 4 24])
 .skip))
 (.seq
 (.sr [mv 25 4,
 mv 26 0,
 ii 27 .nilchk [.t 26],
 fa 28 1 27,
 ld 29 28,
 ii 30 .len [.t 29],
 b2 31 .geq 25 30,
 mt 32 31,
 gf 33 32 (.mov false) [.t 0],
 gf 34 32 (.mov false) [.t 4],
 gf 35 32 (.mov false) [.t 1],
 gf 36 32 (.ob (.callo 191 false)) [.t 33,.t 34,.t 35],
 gf 37 32 (.un .not) [.t 36],
 ii 38 .pick [.t 32,.c (.p (.bool true)),.t 37]]
 (.cond (.t 38)
 .ret
 .skip))
 (.sr [mv 39 0,
 mt 40 1,
 mv 41 4,
 ii 42 (.ob (.callo 189 false)) [.t 39,.t 40,.t 41]]
 (.reg [mt 43 4,
 mt 1 43]))))))))⟩
theorem Z2:aC Tryz.prog 190 TW=true:=by kernel_rfl
def VH:Fn:=⟨50,2,[.tmp 6],
 (.sr [mc 6 (.bool false)]
 (.seq
 (.pre [7,8,24,26,29,31,35,37,40,42,45,47] [] [0,1] (.rega [mv 9 0,
 ii 10 .nilchk [.t 9],
 fa 11 1 10,
 ii 12 (.at 2 (.load 1 false false)) [.t 11],
 mt 13 1,
 ii 14 (.iad 4) [.t 12,.t 13],
 ii 15 (.at 3 (.load 4 true false)) [.t 14],
 mv 16 0,
 ii 17 .nilchk [.t 16],
 fa 18 1 17,
 ii 19 (.at 2 (.load 1 false false)) [.t 18],
 mt 20 2,
 ii 21 (.iad 4) [.t 19,.t 20],
 ii 22 (.at 3 (.load 4 true false)) [.t 21],
 ⟨some 7,none,.alloc 0 4 [.p (.str ⟨#[]⟩),Z0,Z0,Z0],[]⟩,
 ⟨some 8,none,.alloc 1 4 [.p (.str ⟨#[]⟩),Z0,Z0,Z0],[]⟩,
 ⟨none,none,.at 0 (.store 4),[.t 7,.t 15]⟩,
 ⟨none,none,.at 1 (.store 4),[.t 8,.t 22]⟩]))
 (.seq
 (.block 0
 (.sr [fa 24 1 7,
 ld 25 24,
 fa 26 1 8,
 ld 27 26,
 b2 28 .neq 25 27,
 mt 23 28]
 (.cond (.t 23)
 (.sr [fa 29 1 7,
 ld 30 29,
 fa 31 1 8,
 ld 32 31,
 b2 33 .lss 30 32,
 mt 6 33]
 .ret)
 (.sr [fa 35 2 7,
 ld 36 35,
 fa 37 2 8,
 ld 38 37,
 b2 39 .neq 36 38,
 mt 34 39]
 (.cond (.t 34)
 (.sr [fa 40 2 7,
 ld 41 40,
 fa 42 2 8,
 ld 43 42,
 b2 44 .lss 41 43,
 mt 6 44]
 .ret)
 .skip)))))
 (.sr [fa 45 3 7,
 ld 46 45,
 fa 47 3 8,
 ld 48 47,
 b2 49 .lss 46 48,
 mt 6 49]
 .ret))))⟩
theorem a0X:aC Tryz.prog 191 VH=true:=by kernel_rfl
def VQ:Fn:=⟨69,0,[.tmp 8],
 (.sr [mc 8 (.bool false)]
 (.seq
 (.sr [mv 9 0,
 ii 10 (.ob (.eqp false)) [.t 9,.c (.p (.atom (.pointer none)))]]
 (.cond (.t 10)
 (.sr [mc 8 (.bool false)]
 .ret)
 .skip))
 (.seq
 (.seq
 (.regd [mv 11 0,
 mv 12 1,
 ii 13 (.ob (.callo 160 false)) [.t 11,.t 12],
 ii 14 (.un .not) [.t 13],
 mt 15 14,
 gt 16 15 (.mov false) [.t 0],
 gt 17 15 .nilchk [.t 16],
 gt 18 15 (.fad 1) [.t 17],
 gt 19 15 (.at 0 (.load 1 false false)) [.t 18],
 gt 20 15 .lenD [.t 19],
 gt 21 15 (.mov false) [.t 0],
 gt 22 15 .nilchk [.t 21],
 gt 23 15 (.fad 0) [.t 22],
 gt 24 15 (.at 0 (.load 1 false false)) [.t 23],
 gt 25 15 (.bin .geq) [.t 20,.t 24],
 ii 26 .pick [.t 15,.t 25,.c (.p (.bool false))]])
 (.cond (.t 26)
 (.sr [mc 8 (.bool false)]
 .ret)
 .skip))
 (.sr [mv 27 0,
 ii 28 .nilchk [.t 27],
 fa 29 3 28,
 ld 30 29,
 b1 31 .add 30 (.int .i64 1),
 ii 32 .nilchk [.t 27],
 fa 33 3 32,
 ⟨none,none,.store 1,[.t 33,.t 31]⟩]
 (.seq
 (.regd [mv 34 0,
 ii 35 .nilchk [.t 34],
 fa 36 2 35,
 ii 37 (.at 0 (.load 1 false false)) [.t 36],
 mv 38 1,
 mv 39 0,
 ii 40 .nilchk [.t 39],
 fa 41 1 40,
 ii 42 (.at 0 (.load 1 false false)) [.t 41],
 ii 43 .lenD [.t 42],
 ⟨none,none,.ob (.mupx none),[.t 37,.t 38,.t 43]⟩])
 (.seq
 (.pre [44,45,52] [] [] (.regm [mv 44 0,
 mv 45 0,
 ii 46 .nilchk [.t 45],
 fa 47 1 46,
 ii 48 (.at 0 (.load 1 false false)) [.t 47],
 mt 49 1,
 mt 50 2,
 mt 51 3,
 mv 52 0,
 ii 53 .nilchk [.t 52],
 fa 54 3 53,
 ii 55 (.at 0 (.load 1 false false)) [.t 54],
 ⟨some 56,none,.build [.str ⟨#[]⟩,.int .i64 0,.int .i64 0,.int .i64 0] [(0,1),(1,1),(2,1),(3,1)],[.t 49,.t 50,.t 51,.t 55]⟩,
 ii 57 (.bsl 4 1) [.t 56],
 ii 58 (.ob (.appd 4 40 true)) [.t 48,.t 57],
 ii 59 .nilchk [.t 44],
 fa 60 1 59,
 ⟨none,none,.at 0 (.store 1),[.t 60,.t 58]⟩]))
 (.sr [mv 61 0,
 mt 62 0,
 ii 63 .nilchk [.t 62],
 fa 64 1 63,
 ld 65 64,
 ii 66 .len [.t 65],
 b1 67 .sub 66 (.int .i64 1),
 ii 68 (.ob (.callo 161 false)) [.t 61,.t 67]]
 (.sr [mc 8 (.bool true)]
 .ret))))))))⟩
theorem a1A:aC Tryz.prog 113 VQ=true:=by kernel_rfl
def TG:Fn:=⟨54,0,[.tmp 4],
 (.sr [mc 4 (.bool false)]
 (.seq
 (.sr [mv 8 0,
 ii 9 (.ob (.eqp false)) [.t 8,.c (.p (.atom (.pointer none)))]]
 (.cond (.t 9)
 (.sr [mc 4 (.bool false)]
 .ret)
 .skip))
 (.sr [mv 11 0,
 ii 12 .nilchk [.t 11],
 fa 13 2 12,
 ld 14 13,
 mv 15 1,
 ii 16 (.ob (.lookx none (.int .i64 0) true)) [.t 14,.t 15],
 mt 10 16,
 ii 17 (.ext 0) [.t 10],
 ii 18 (.ext 1) [.t 10],
 mt 5 17,
 mt 6 18]
 (.seq
 (.sr [mt 19 6,
 ii 20 (.un .not) [.t 19]]
 (.cond (.t 20)
 (.sr [mc 4 (.bool false)]
 .ret)
 .skip))
 (.sr [mv 21 0,
 ii 22 .nilchk [.t 21],
 fa 23 1 22,
 ld 24 23,
 ii 25 .len [.t 24],
 b1 26 .sub 25 (.int .i64 1),
 mt 7 26]
 (.sr [mv 27 0,
 mv 28 5,
 mv 29 7,
 ii 30 (.ob (.callo 189 false)) [.t 27,.t 28,.t 29]]
 (.sr [mv 31 0,
 mv 32 0,
 ii 33 .nilchk [.t 32],
 fa 34 1 33,
 ld 35 34,
 mv 36 7,
 ii 37 (.ob (.slx 4)) [.t 35,.t 36],
 ii 38 .nilchk [.t 31],
 fa 39 1 38,
 ⟨none,none,.store 1,[.t 39,.t 37]⟩]
 (.sr [mv 40 0,
 ii 41 .nilchk [.t 40],
 fa 42 2 41,
 ld 43 42,
 mt 44 1,
 ⟨none,none,.ob (.mdel none),[.t 43,.t 44]⟩]
 (.seq
 (.sr [mv 45 5,
 mt 46 7,
 b2 47 .lss 45 46]
 (.cond (.t 47)
 (.sr [mv 48 0,
 mv 49 5,
 ii 50 (.ob (.callo 161 false)) [.t 48,.t 49]]
 (.reg [mt 51 0,
 mt 52 5,
 ii 53 (.ob (.callo 190 false)) [.t 51,.t 52]]))
 .skip))
 (.sr [mc 4 (.bool true)]
 .ret))))))))))⟩
theorem YY:aC Tryz.prog 160 TG=true:=by kernel_rfl
def WK:Fn:=⟨16,0,[.tmp 2,.tmp 3],
 (.sr [⟨some 2,none,.mov true,[.c (.p (.str ⟨#[]⟩))]⟩,
 mc 3 (.bool false)]
 (.sr [⟨some 4,none,.mov true,[.c (.p (.str ⟨#[]⟩))]⟩]
 (.seq
 (.sr [mv 5 0,
 ii 6 (.ob (.callo 122 false)) [.t 5],
 b1 7 .eql 6 (.int .i64 0)]
 (.cond (.t 7)
 (.sr [mt 8 4,
 mt 2 8,
 mc 3 (.bool false)]
 .ret)
 .skip))
 (.sr [mt 9 0,
 ii 10 .nilchk [.t 9],
 fa 11 1 10,
 ld 12 11,
 ii 13 (.iad 4) [.t 12,cI 0],
 fa 14 0 13,
 ld 15 14,
 mt 2 15,
 mc 3 (.bool true)]
 .ret))))⟩
theorem a1d:aC Tryz.prog 114 WK=true:=by kernel_rfl
def XI:Fn:=⟨10,0,[.tmp 2],
 (.sr [mc 2 (.int .i64 0)]
 (.seq
 (.sr [mv 3 0,
 ii 4 (.ob (.eqp false)) [.t 3,.c (.p (.atom (.pointer none)))]]
 (.cond (.t 4)
 (.sr [mc 2 (.int .i64 0)]
 .ret)
 .skip))
 (.sr [mt 5 0,
 ii 6 .nilchk [.t 5],
 fa 7 1 6,
 ld 8 7,
 ii 9 .len [.t 8],
 mt 2 9]
 .ret)))⟩
theorem ZF:aC Tryz.prog 122 XI=true:=by kernel_rfl
def WB:Fn:=⟨9,2,[.tmp 2],
 (.sr [mc 2 (.atom (.pointer none))]
 (.sr [mt 3 0,
 ii 4 .mx [.t 3,cI 0],
 ii 5 .mn [.t 4,cI 1000],
 ii 6 (.mkmap 0) [],
 ⟨some 7,none,.ob (.bldo [.int .i64 0,.sl 4 true [],.atom (.map none),.int .i64 0] [(0,1),(2,1)]),[.t 5,.t 6]⟩,
 ii 8 (.box 1 4) [.t 7],
 mt 2 8]
 .ret))⟩
theorem a0B:aC Tryz.prog 109 WB=true:=by kernel_rfl
open Go.RowKit
def F72:Fn:=⟨35,2,[.cell 2 2,.tmp 3],
 (.sr [⟨some 2,none,.alloc 0 2 [Z0,Z0],[]⟩,
 mc 3 (.bool false)]
 (.sr [mv 7 0,
 ii 8 (.ob (.callo 99 false)) [.t 7,cI 0],
 mt 6 8,
 ii 9 (.ext 0) [.t 6],
 ii 10 (.ext 1) [.t 6],
 ⟨some 4,none,.alloc 1 2 [Z0,Z0],[]⟩,
 ⟨none,none,.store 2,[.t 4,.t 9]⟩,
 mt 5 10]
 (.seq
 (.sr [mv 11 5]
 (.cond (.t 11)
 (.seq
 (.regd [mv 12 0,
 mv 13 0,
 ii 14 .nilchk [.t 13],
 fa 15 1 14,
 ii 16 (.at 2 (.load 1 false false)) [.t 15],
 b1 17 .add 16 (.int .i64 1),
 mv 18 0,
 ii 19 .nilchk [.t 18],
 fa 20 0 19,
 ii 21 (.at 2 (.load 1 false false)) [.t 20],
 ii 22 .lenD [.t 21],
 b2 23 .rem 17 22,
 ii 24 .nilchk [.t 12],
 fa 25 1 24,
 ⟨none,none,.at 2 (.store 1),[.t 25,.t 23]⟩])
 (.reg [mt 26 0,
 ii 27 .nilchk [.t 26],
 fa 28 2 27,
 ld 29 28,
 b1 30 .sub 29 (.int .i64 1),
 ii 31 .nilchk [.t 26],
 fa 32 2 31,
 ⟨none,none,.store 1,[.t 32,.t 30]⟩]))
 .skip))
 (.sr [ii 33 (.load 2 true false) [.t 4],
 mt 34 5,
 ⟨none,none,.store 2,[.t 2,.t 33]⟩,
 mt 3 34]
 .ret))))⟩
theorem k72:aC Tryz.prog 72 F72=true:=by kernel_rfl
def F71:Fn:=⟨36,1,[.tmp 4],
 (.sr [ii 3 (.box 0 2) [.t 1],
 mc 4 (.bool false)]
 (.seq
 (.sr [mv 5 0,
 ii 6 (.ob (.callo 100 false)) [.t 5],
 b1 7 .eql 6 (.int .i64 0)]
 (.cond (.t 7)
 (.sr [mc 4 (.bool false)]
 .ret)
 .skip))
 (.seq
 (.regd [mv 8 0,
 ii 9 .nilchk [.t 8],
 fa 10 0 9,
 ii 11 (.at 1 (.load 1 false false)) [.t 10],
 mv 12 0,
 ii 13 .nilchk [.t 12],
 fa 14 1 13,
 ii 15 (.at 1 (.load 1 false false)) [.t 14],
 mv 16 0,
 ii 17 .nilchk [.t 16],
 fa 18 2 17,
 ii 19 (.at 1 (.load 1 false false)) [.t 18],
 b2 20 .add 15 19,
 mv 21 0,
 ii 22 .nilchk [.t 21],
 fa 23 0 22,
 ii 24 (.at 1 (.load 1 false false)) [.t 23],
 ii 25 .lenD [.t 24],
 b2 26 .rem 20 25,
 ii 27 (.at 0 (.load 2 true false)) [.t 3],
 ii 28 (.iad 2) [.t 11,.t 26],
 ⟨none,none,.store 2,[.t 28,.t 27]⟩])
 (.sr [mt 29 0,
 ii 30 .nilchk [.t 29],
 fa 31 2 30,
 ld 32 31,
 b1 33 .add 32 (.int .i64 1),
 ii 34 .nilchk [.t 29],
 fa 35 2 34,
 ⟨none,none,.store 1,[.t 35,.t 33]⟩]
 (.sr [mc 4 (.bool true)]
 .ret)))))⟩
theorem k71:aC Tryz.prog 71 F71=true:=by kernel_rfl
def F73:Fn:=⟨9,0,[.tmp 2],
 (.sr [mc 2 (.int .i64 0)]
 (.seq
 (.sr [mv 3 0,
 ii 4 (.ob (.eqp false)) [.t 3,.c (.p (.atom (.pointer none)))]]
 (.cond (.t 4)
 (.sr [mc 2 (.int .i64 0)]
 .ret)
 .skip))
 (.sr [mt 5 0,
 ii 6 .nilchk [.t 5],
 fa 7 2 6,
 ld 8 7,
 mt 2 8]
 .ret)))⟩
theorem k73:aC Tryz.prog 73 F73=true:=by kernel_rfl
def F99:Fn:=⟨34,2,[.cell 4 2,.tmp 5],
 (.sr [⟨some 4,none,.alloc 0 2 [Z0,Z0],[]⟩,
 mc 5 (.bool false)]
 (.sr [⟨some 6,none,.alloc 1 2 [Z0,Z0],[]⟩]
 (.seq
 (.sr [mv 7 1,
 b1 8 .lss 7 (.int .i64 0),
 mt 9 8,
 gf 10 9 (.mov false) [.t 1],
 gf 11 9 (.mov false) [.t 0],
 gf 12 9 (.ob (.callo 73 false)) [.t 11],
 gf 13 9 (.bin .geq) [.t 10,.t 12],
 ii 14 .pick [.t 9,.c (.p (.bool true)),.t 13]]
 (.cond (.t 14)
 (.sr [ii 15 (.load 2 true false) [.t 6],
 ⟨none,none,.store 2,[.t 4,.t 15]⟩,
 mc 5 (.bool false)]
 .ret)
 .skip))
 (.seq
 (.regd [mv 16 0,
 ii 17 .nilchk [.t 16],
 fa 18 0 17,
 ii 19 (.at 2 (.load 1 false false)) [.t 18],
 mv 20 0,
 ii 21 .nilchk [.t 20],
 fa 22 1 21,
 ii 23 (.at 2 (.load 1 false false)) [.t 22],
 mt 24 1,
 b2 25 .add 23 24,
 mv 26 0,
 ii 27 .nilchk [.t 26],
 fa 28 0 27,
 ii 29 (.at 2 (.load 1 false false)) [.t 28],
 ii 30 .lenD [.t 29],
 b2 31 .rem 25 30,
 ii 32 (.iad 2) [.t 19,.t 31],
 ii 33 (.load 2 true false) [.t 32],
 ⟨none,none,.at 0 (.store 2),[.t 4,.t 33]⟩,
 mc 5 (.bool true)])
 .ret))))⟩
theorem k99:aC Tryz.prog 99 F99=true:=by kernel_rfl
def U1:Fn:=⟨15,0,[.tmp 2],
 (.sr [mc 2 (.int .i64 0)]
 (.seq
 (.sr [mv 3 0,
 ii 4 (.ob (.eqp false)) [.t 3,.c (.p (.atom (.pointer none)))]]
 (.cond (.t 4)
 (.sr [mc 2 (.int .i64 0)]
 .ret)
 .skip))
 (.seq
 (.regd [mv 5 0,
 ii 6 .nilchk [.t 5],
 fa 7 0 6,
 ii 8 (.at 0 (.load 1 false false)) [.t 7],
 ii 9 .lenD [.t 8],
 mv 10 0,
 ii 11 .nilchk [.t 10],
 fa 12 2 11,
 ii 13 (.at 0 (.load 1 false false)) [.t 12],
 b2 14 .sub 9 13,
 mt 2 14])
 .ret)))⟩
theorem a1b:aC Tryz.prog 100 U1=true:=by kernel_rfl
def F69:Fn:=⟨9,2,[.tmp 2],
 (.sr [mc 2 (.atom (.pointer none))]
 (.sr [mt 3 0,
 ii 4 .mx [.t 3,cI 0],
 ii 5 .mn [.t 4,cI 1000],
 ⟨some 6,none,.mksl 0 2 16 true [Z0,Z0],[.t 5,.t 5]⟩,
 ⟨some 7,none,.ob (.bldo [.sl 2 true [],.int .i64 0,.int .i64 0] [(0,1)]),[.t 6]⟩,
 ii 8 (.box 1 3) [.t 7],
 mt 2 8]
 .ret))⟩
theorem k69:aC Tryz.prog 69 F69=true:=by kernel_rfl
def V2:Fn:=⟨36,0,[.tmp 4],
 (.sr [mc 4 (.bool false)]
 (.seq
 (.sr [mv 5 0,
 ii 6 (.ob (.callo 123 false)) [.t 5],
 b1 7 .eql 6 (.int .i64 0)]
 (.cond (.t 7)
 (.sr [mc 4 (.bool false)]
 .ret)
 .skip))
 (.seq
 (.regd [mv 8 0,
 ii 9 .nilchk [.t 8],
 fa 10 0 9,
 ii 11 (.at 0 (.load 1 false false)) [.t 10],
 mv 12 0,
 ii 13 .nilchk [.t 12],
 fa 14 1 13,
 ii 15 (.at 0 (.load 1 false false)) [.t 14],
 mv 16 0,
 ii 17 .nilchk [.t 16],
 fa 18 2 17,
 ii 19 (.at 0 (.load 1 false false)) [.t 18],
 b2 20 .add 15 19,
 mv 21 0,
 ii 22 .nilchk [.t 21],
 fa 23 0 22,
 ii 24 (.at 0 (.load 1 false false)) [.t 23],
 ii 25 .lenD [.t 24],
 b2 26 .rem 20 25,
 mt 27 1,
 ii 28 (.iad 1) [.t 11,.t 26],
 ⟨none,none,.store 1,[.t 28,.t 27]⟩])
 (.sr [mt 29 0,
 ii 30 .nilchk [.t 29],
 fa 31 2 30,
 ld 32 31,
 b1 33 .add 32 (.int .i64 1),
 ii 34 .nilchk [.t 29],
 fa 35 2 34,
 ⟨none,none,.store 1,[.t 35,.t 33]⟩]
 (.sr [mc 4 (.bool true)]
 .ret)))))⟩
theorem a1B:aC Tryz.prog 115 V2=true:=by kernel_rfl
def VK:Fn:=⟨35,0,[.tmp 2,.tmp 3],
 (.sr [mc 2 (.int .i64 0),
 mc 3 (.bool false)]
 (.sr [mv 7 0,
 ii 8 (.ob (.callo 162 false)) [.t 7,cI 0],
 mt 6 8,
 ii 9 (.ext 0) [.t 6],
 ii 10 (.ext 1) [.t 6],
 mt 4 9,
 mt 5 10]
 (.seq
 (.sr [mv 11 5]
 (.cond (.t 11)
 (.seq
 (.regd [mv 12 0,
 mv 13 0,
 ii 14 .nilchk [.t 13],
 fa 15 1 14,
 ii 16 (.at 0 (.load 1 false false)) [.t 15],
 b1 17 .add 16 (.int .i64 1),
 mv 18 0,
 ii 19 .nilchk [.t 18],
 fa 20 0 19,
 ii 21 (.at 0 (.load 1 false false)) [.t 20],
 ii 22 .lenD [.t 21],
 b2 23 .rem 17 22,
 ii 24 .nilchk [.t 12],
 fa 25 1 24,
 ⟨none,none,.at 0 (.store 1),[.t 25,.t 23]⟩])
 (.reg [mt 26 0,
 ii 27 .nilchk [.t 26],
 fa 28 2 27,
 ld 29 28,
 b1 30 .sub 29 (.int .i64 1),
 ii 31 .nilchk [.t 26],
 fa 32 2 31,
 ⟨none,none,.store 1,[.t 32,.t 30]⟩]))
 .skip))
 (.sr [mt 33 4,
 mt 34 5,
 mt 2 33,
 mt 3 34]
 .ret))))⟩
theorem a0H:aC Tryz.prog 116 VK=true:=by kernel_rfl
def TI:Fn:=⟨34,0,[.tmp 4,.tmp 5],
 (.sr [mc 4 (.int .i64 0),
 mc 5 (.bool false)]
 (.sr [mc 6 (.int .i64 0)]
 (.seq
 (.sr [mv 7 1,
 b1 8 .lss 7 (.int .i64 0),
 mt 9 8,
 gf 10 9 (.mov false) [.t 1],
 gf 11 9 (.mov false) [.t 0],
 gf 12 9 (.ob (.callo 192 false)) [.t 11],
 gf 13 9 (.bin .geq) [.t 10,.t 12],
 ii 14 .pick [.t 9,.c (.p (.bool true)),.t 13]]
 (.cond (.t 14)
 (.sr [mt 15 6,
 mt 4 15,
 mc 5 (.bool false)]
 .ret)
 .skip))
 (.seq
 (.regd [mv 16 0,
 ii 17 .nilchk [.t 16],
 fa 18 0 17,
 ii 19 (.at 0 (.load 1 false false)) [.t 18],
 mv 20 0,
 ii 21 .nilchk [.t 20],
 fa 22 1 21,
 ii 23 (.at 0 (.load 1 false false)) [.t 22],
 mt 24 1,
 b2 25 .add 23 24,
 mv 26 0,
 ii 27 .nilchk [.t 26],
 fa 28 0 27,
 ii 29 (.at 0 (.load 1 false false)) [.t 28],
 ii 30 .lenD [.t 29],
 b2 31 .rem 25 30,
 ii 32 (.iad 1) [.t 19,.t 31],
 ld 33 32,
 mt 4 33,
 mc 5 (.bool true)])
 .ret))))⟩
theorem a1C:aC Tryz.prog 162 TI=true:=by kernel_rfl
def VA:Fn:=⟨15,0,[.tmp 2],
 (.sr [mc 2 (.int .i64 0)]
 (.seq
 (.sr [mv 3 0,
 ii 4 (.ob (.eqp false)) [.t 3,.c (.p (.atom (.pointer none)))]]
 (.cond (.t 4)
 (.sr [mc 2 (.int .i64 0)]
 .ret)
 .skip))
 (.seq
 (.regd [mv 5 0,
 ii 6 .nilchk [.t 5],
 fa 7 0 6,
 ii 8 (.at 0 (.load 1 false false)) [.t 7],
 ii 9 .lenD [.t 8],
 mv 10 0,
 ii 11 .nilchk [.t 10],
 fa 12 2 11,
 ii 13 (.at 0 (.load 1 false false)) [.t 12],
 b2 14 .sub 9 13,
 mt 2 14])
 .ret)))⟩
theorem Z3:aC Tryz.prog 123 VA=true:=by kernel_rfl
def UA:Fn:=⟨9,0,[.tmp 2],
 (.sr [mc 2 (.int .i64 0)]
 (.seq
 (.sr [mv 3 0,
 ii 4 (.ob (.eqp false)) [.t 3,.c (.p (.atom (.pointer none)))]]
 (.cond (.t 4)
 (.sr [mc 2 (.int .i64 0)]
 .ret)
 .skip))
 (.sr [mt 5 0,
 ii 6 .nilchk [.t 5],
 fa 7 2 6,
 ld 8 7,
 mt 2 8]
 .ret)))⟩
theorem a0D:aC Tryz.prog 192 UA=true:=by kernel_rfl
def XE:Fn:=⟨9,2,[.tmp 2],
 (.sr [mc 2 (.atom (.pointer none))]
 (.sr [mt 3 0,
 ii 4 .mx [.t 3,cI 0],
 ii 5 .mn [.t 4,cI 1000],
 ⟨some 6,none,.mksl 0 1 8 false [Z0],[.t 5,.t 5]⟩,
 ⟨some 7,none,.ob (.bldo [.sl 1 true [],.int .i64 0,.int .i64 0] [(0,1)]),[.t 6]⟩,
 ii 8 (.box 1 3) [.t 7],
 mt 2 8]
 .ret))⟩
theorem a1F:aC Tryz.prog 110 XE=true:=by kernel_rfl
def F91:Fn:=⟨12,0,[.tmp 6],
 (.sr [mc 6 (.bool false)]
 (.sr [mt 7 0,
 ii 8 (.ob (.callo 94 false)) [.t 7],
 mt 9 1,
 mt 10 2,
 ii 11 (.ob (.callo 55 true)) [.t 8,.t 9,.t 10,cI 0],
 mt 6 11]
 .ret))⟩
theorem k91:aC Tryz.prog 91 F91=true:=by kernel_rfl
def F93:Fn:=⟨26,0,[.tmp 2,.tmp 3],
 (.sr [mc 2 (.int .i64 0),
 mc 3 (.bool false)]
 (.sr [mv 10 0,
 ii 11 (.ob (.callo 94 false)) [.t 10],
 ii 12 (.ob (.callo 57 false)) [.t 11],
 mt 9 12,
 ii 13 (.ext 0) [.t 9],
 ii 14 (.ext 1) [.t 9],
 mt 4 13,
 mt 5 14]
 (.seq
 (.sr [mt 15 5,
 ii 16 (.un .not) [.t 15]]
 (.cond (.t 16)
 (.sr [mc 2 (.int .i64 0),
 mc 3 (.bool false)]
 .ret)
 .skip))
 (.sr [mt 18 0,
 ii 19 (.ob (.callo 94 false)) [.t 18],
 mt 20 4,
 ii 21 (.ob (.callo 141 false)) [.t 19,.t 20],
 mt 17 21,
 ii 22 (.ext 0) [.t 17],
 ii 23 (.ext 1) [.t 17],
 ii 24 (.ext 2) [.t 17],
 mt 6 22,
 mt 7 23,
 mt 8 24]
 (.sr [mt 25 6,
 mt 2 25,
 mc 3 (.bool true)]
 .ret)))))⟩
theorem k93:aC Tryz.prog 93 F93=true:=by kernel_rfl
def F94:Fn:=⟨9,0,[.tmp 2],
 (.sr [mc 2 (.atom (.pointer none))]
 (.seq
 (.sr [mv 3 0,
 ii 4 (.ob (.eqp false)) [.t 3,.c (.p (.atom (.pointer none)))]]
 (.cond (.t 4)
 (.sr [mc 2 (.atom (.pointer none))]
 .ret)
 .skip))
 (.sr [mt 5 0,
 ii 6 .nilchk [.t 5],
 fa 7 0 6,
 ld 8 7,
 mt 2 8]
 .ret)))⟩
theorem k94:aC Tryz.prog 94 F94=true:=by kernel_rfl
def F63:Fn:=⟨33,0,[.tmp 4],
 (.sr [ii 4 (.mov true) [.c (.ow 1 true [])]]
 (.sr [ii 5 (.mov true) [.c (.ow 1 true [])]]
 (.block 0
 (.loop [4,6,7,8,9,10,11,12,13,14,15,16,17,18,19,20,21,22,23,24,25,26,27,28,29,30,31,32] []
 (.block 1
 (.sr [mv 11 0,
 ii 12 (.ob (.callo 93 false)) [.t 11],
 mt 10 12,
 ii 13 (.ext 0) [.t 10],
 ii 14 (.ext 1) [.t 10],
 mt 6 13,
 mt 7 14]
 (.seq
 (.sr [mt 15 7,
 ii 16 (.un .not) [.t 15],
 mt 17 16,
 gf 18 17 (.mov true) [.t 6],
 gf 19 17 (.mov false) [.t 1],
 gf 20 17 (.bin .gtr) [.t 18,.t 19],
 ii 21 .pick [.t 17,.c (.p (.bool true)),.t 20]]
 (.cond (.t 21)
 (.sr [mt 22 5,
 mt 4 22]
 .ret)
 .skip))
 (.sr [mv 24 0,
 ii 25 (.ob (.callo 94 false)) [.t 24],
 ii 26 (.ob (.callo 95 false)) [.t 25],
 mt 23 26,
 ii 27 (.ext 0) [.t 23],
 ii 28 (.ext 1) [.t 23],
 mt 8 27,
 mt 9 28]
 (.reg [mt 29 5,
 mt 30 8,
 ii 31 (.bsl 1 1) [.t 30],
 ii 32 (.app 1 8) [.t 29,.t 31],
 mt 5 32])))))))))⟩
theorem k63:aC Tryz.prog 63 F63=true:=by kernel_rfl
def F60:Fn:=⟨7,1,[.tmp 2],
 (.sr [mc 2 (.atom (.pointer none))]
 (.sr [mt 3 0,
 ii 4 (.ob (.callo 54 true)) [.t 3],
 ⟨some 5,none,.ob (.bldo [.atom (.pointer none)] [(0,1)]),[.t 4]⟩,
 ii 6 (.box 0 1) [.t 5],
 mt 2 6]
 .ret))⟩
theorem k60:aC Tryz.prog 60 F60=true:=by kernel_rfl
def WU:Fn:=⟨36,0,[.tmp 4],
 (.sr [mc 4 (.int .i64 0)]
 (.seq
 (.sr [mv 6 0,
 ii 7 (.ob (.eqp false)) [.t 6,.c (.p (.atom (.pointer none)))]]
 (.cond (.t 7)
 (.sr [mc 4 (.int .i64 0)]
 .ret)
 .skip))
 (.seq
 (.sr [mv 8 0,
 ii 9 .nilchk [.t 8],
 fa 10 0 9,
 ld 11 10,
 ii 12 .len [.t 11],
 ii 13 (.mov false) [cI 0]]
 (.block 0
 (.loop [4,5,6,7,8,9,10,11,14,15,16,17,18,19,20,21,22,23,24,25,26,27,28,29,30,31,32,33,34,35] []
 (.sr [b2 14 .lss 13 12]
 (.seq
 (.cond (.t 14)
 .skip
 (.exit 0))
 (.seq
 (.block 1
 (.sr [mv 15 13,
 mt 5 15]
 (.sr [mv 16 0,
 ii 17 .nilchk [.t 16],
 fa 18 0 17,
 ld 19 18,
 mv 20 5,
 ii 21 (.iad 2) [.t 19,.t 20],
 fa 22 1 21,
 ld 23 22,
 ii 24 (.un .not) [.t 23]]
 (.cond (.t 24)
 (.sr [mt 25 0,
 ii 26 .nilchk [.t 25],
 fa 27 0 26,
 ld 28 27,
 mv 29 5,
 mt 30 1,
 ⟨some 31,none,.build [.str ⟨#[]⟩,.bool false] [(0,1),(1,1)],[.t 30,.c (.p (.bool true))]⟩,
 ii 32 (.iad 2) [.t 28,.t 29],
 ⟨none,none,.store 2,[.t 32,.t 31]⟩]
 (.sr [mt 33 5,
 b1 34 .add 33 (.int .i64 1),
 mt 4 34]
 .ret))
 .skip))))
 (.reg [b1 35 .add 13 (.int .i64 1),
 mt 13 35])))))))
 (.sr [mc 4 (.int .i64 0)]
 .ret))))⟩
theorem ZZ:aC Tryz.prog 117 WU=true:=by kernel_rfl
def TH:Fn:=⟨14,0,[.tmp 4],
 (.sr [mc 4 (.bool false)]
 (.sr [mt 6 0,
 mt 7 1,
 ii 8 (.ob (.callo 163 false)) [.t 6,.t 7],
 mt 5 8]
 (.seq
 (.sr [mv 9 5,
 ii 10 (.ob (.eqp false)) [.t 9,.c (.p (.atom (.pointer none)))]]
 (.cond (.t 10)
 (.sr [mc 4 (.bool false)]
 .ret)
 .skip))
 (.sr [mt 11 5,
 ⟨some 12,none,.build [.str ⟨#[]⟩,.bool false] [],[]⟩,
 ii 13 .nilchk [.t 11],
 ⟨none,none,.store 2,[.t 13,.t 12]⟩]
 (.sr [mc 4 (.bool true)]
 .ret)))))⟩
theorem Z6:aC Tryz.prog 118 TH=true:=by kernel_rfl
def WI:Fn:=⟨39,0,[.tmp 4],
 (.sr [mc 4 (.atom (.pointer none))]
 (.seq
 (.sr [mv 5 0,
 ii 6 (.ob (.eqp false)) [.t 5,.c (.p (.atom (.pointer none)))],
 mt 7 6,
 gf 8 7 (.mov false) [.t 1],
 gf 9 7 (.bin .lss) [.t 8,cI 1],
 ii 10 .pick [.t 7,.c (.p (.bool true)),.t 9],
 mt 11 10,
 gf 12 11 (.mov false) [.t 1],
 gf 13 11 (.mov false) [.t 0],
 gf 14 11 .nilchk [.t 13],
 gf 15 11 (.fad 0) [.t 14],
 gf 16 11 (.load 1 false false) [.t 15],
 gf 17 11 .len [.t 16],
 gf 18 11 (.bin .gtr) [.t 12,.t 17],
 ii 19 .pick [.t 11,.c (.p (.bool true)),.t 18],
 mt 20 19,
 gf 21 20 (.mov false) [.t 0],
 gf 22 20 .nilchk [.t 21],
 gf 23 20 (.fad 0) [.t 22],
 gf 24 20 (.load 1 false false) [.t 23],
 gf 25 20 (.mov false) [.t 1],
 gf 26 20 (.bin .sub) [.t 25,cI 1],
 gf 27 20 (.iad 2) [.t 24,.t 26],
 gf 28 20 (.fad 1) [.t 27],
 gf 29 20 (.load 1 false false) [.t 28],
 gf 30 20 (.un .not) [.t 29],
 ii 31 .pick [.t 20,.c (.p (.bool true)),.t 30]]
 (.cond (.t 31)
 (.sr [mc 4 (.atom (.pointer none))]
 .ret)
 .skip))
 (.sr [mt 32 0,
 ii 33 .nilchk [.t 32],
 fa 34 0 33,
 ld 35 34,
 mt 36 1,
 b1 37 .sub 36 (.int .i64 1),
 ii 38 (.iad 2) [.t 35,.t 37],
 mt 4 38]
 .ret)))⟩
theorem YX:aC Tryz.prog 163 WI=true:=by kernel_rfl
def UX:Fn:=⟨9,2,[.tmp 2],
 (.sr [mc 2 (.atom (.pointer none))]
 (.sr [mt 3 0,
 ii 4 .mx [.t 3,cI 0],
 ii 5 .mn [.t 4,cI 100],
 ⟨some 6,none,.mksl 0 2 24 true [.p (.str ⟨#[]⟩),.p (.bool false)],[.t 5,.t 5]⟩,
 ⟨some 7,none,.ob (.bldo [.sl 2 true []] [(0,1)]),[.t 6]⟩,
 ii 8 (.box 1 1) [.t 7],
 mt 2 8]
 .ret))⟩
theorem a1L:aC Tryz.prog 111 UX=true:=by kernel_rfl
def F28:Fn:=⟨23,0,[.tmp 6],
 (.sr [mc 6 (.bool false)]
 (.sr [mv 7 0,
 ii 8 (.ob (.eqp true)) [.t 7,.c (.p (.atom (.pointer none)))],
 mt 9 8,
 gt 10 9 (.mov false) [.t 1],
 gt 11 9 (.bin .geq) [.t 10,cI 1],
 ii 12 .pick [.t 9,.t 11,.c (.p (.bool false))],
 mt 13 12,
 gt 14 13 (.mov true) [.t 0],
 gt 15 13 .nilchk [.t 14],
 gt 16 13 (.fad 0) [.t 15],
 gt 17 13 (.load 1 false false) [.t 16],
 gt 18 13 (.mov false) [.t 1],
 gt 19 13 (.mov true) [.t 2],
 gt 20 13 (.mov true) [.t 1],
 gt 21 13 (.ob (.callo 55 true)) [.t 17,.t 18,.t 19,.t 20],
 ii 22 .pick [.t 13,.t 21,.c (.p (.bool false))],
 mt 6 22]
 .ret))⟩
theorem k28:aC Tryz.prog 28 F28=true:=by kernel_rfl
def F29:Fn:=⟨15,0,[.tmp 4],
 (.sr [mc 4 (.bool false)]
 (.sr [mv 5 0,
 ii 6 (.ob (.eqp true)) [.t 5,.c (.p (.atom (.pointer none)))],
 mt 7 6,
 gt 8 7 (.mov true) [.t 0],
 gt 9 7 .nilchk [.t 8],
 gt 10 7 (.fad 0) [.t 9],
 gt 11 7 (.load 1 false false) [.t 10],
 gt 12 7 (.mov true) [.t 1],
 gt 13 7 (.ob (.callo 56 false)) [.t 11,.t 12],
 ii 14 .pick [.t 7,.t 13,.c (.p (.bool false))],
 mt 4 14]
 .ret))⟩
theorem k29:aC Tryz.prog 29 F29=true:=by kernel_rfl
def F30:Fn:=⟨16,0,[.tmp 2],
 (.sr [mc 2 (.int .i64 0)]
 (.seq
 (.sr [mv 5 0,
 ii 6 (.ob (.eqp false)) [.t 5,.c (.p (.atom (.pointer none)))]]
 (.cond (.t 6)
 (.sr [mc 2 (.int .i64 0)]
 .ret)
 .skip))
 (.sr [mt 8 0,
 ii 9 .nilchk [.t 8],
 fa 10 0 9,
 ld 11 10,
 ii 12 (.ob (.callo 57 false)) [.t 11],
 mt 7 12,
 ii 13 (.ext 0) [.t 7],
 ii 14 (.ext 1) [.t 7],
 mt 3 13,
 mt 4 14]
 (.sr [mt 15 3,
 mt 2 15]
 .ret))))⟩
theorem k30:aC Tryz.prog 30 F30=true:=by kernel_rfl
def F31:Fn:=⟨10,0,[.tmp 2],
 (.sr [mc 2 (.int .i64 0)]
 (.seq
 (.sr [mv 3 0,
 ii 4 (.ob (.eqp false)) [.t 3,.c (.p (.atom (.pointer none)))]]
 (.cond (.t 4)
 (.sr [mc 2 (.int .i64 0)]
 .ret)
 .skip))
 (.sr [mt 5 0,
 ii 6 .nilchk [.t 5],
 fa 7 0 6,
 ld 8 7,
 ii 9 (.ob (.callo 58 false)) [.t 8],
 mt 2 9]
 .ret)))⟩
theorem k31:aC Tryz.prog 31 F31=true:=by kernel_rfl
def F27:Fn:=⟨4,1,[.tmp 0],
 (.sr [mc 0 (.atom (.pointer none))]
 (.sr [ii 1 (.ob (.callo 54 true)) [cI 1000],
 ⟨some 2,none,.ob (.bldo [.atom (.pointer none)] [(0,1)]),[.t 1]⟩,
 ii 3 (.box 0 1) [.t 2],
 mt 0 3]
 .ret))⟩
theorem k27:aC Tryz.prog 27 F27=true:=by kernel_rfl
def F38:Fn:=⟨52,0,[.tmp 2,.tmp 3],
 (.sr [mc 2 (.int .i64 0),
 mc 3 (.bool false)]
 (.seq
 (.sr [mv 5 0,
 ii 6 (.ob (.eqp false)) [.t 5,.c (.p (.atom (.pointer none)))]]
 (.cond (.t 6)
 (.sr [mc 2 (.int .i64 0),
 mc 3 (.bool false)]
 .ret)
 .skip))
 (.seq
 (.sr [mv 7 0,
 ii 8 .nilchk [.t 7],
 fa 9 1 8,
 fa 10 0 9,
 ld 11 10,
 b1 12 .eql 11 (.int .i64 0)]
 (.cond (.t 12)
 (.reg [mv 14 0,
 mv 15 0,
 ii 16 .nilchk [.t 15],
 fa 17 0 16,
 ld 18 17,
 ii 19 (.ob (.callo 72 false)) [.t 18],
 mt 13 19,
 ii 20 (.ext 0) [.t 13],
 ii 21 (.ext 1) [.t 13],
 ii 22 .nilchk [.t 14],
 fa 23 1 22,
 ⟨none,none,.store 2,[.t 23,.t 20]⟩])
 .skip))
 (.sr [mv 24 0,
 ii 25 .nilchk [.t 24],
 fa 26 1 25,
 fa 27 0 26,
 ld 28 27,
 mt 4 28]
 (.seq
 (.sr [mv 29 4,
 b1 30 .eql 29 (.int .i64 0)]
 (.cond (.t 30)
 (.sr [mc 2 (.int .i64 0),
 mc 3 (.bool false)]
 .ret)
 .skip))
 (.sr [mv 31 0,
 ii 32 .nilchk [.t 31],
 fa 33 1 32,
 fa 34 1 33,
 ld 35 34,
 b1 36 .sub 35 (.int .i64 1),
 ii 37 .nilchk [.t 31],
 fa 38 1 37,
 fa 39 1 38,
 ⟨none,none,.store 1,[.t 39,.t 36]⟩]
 (.seq
 (.sr [mv 40 0,
 ii 41 .nilchk [.t 40],
 fa 42 1 41,
 fa 43 1 42,
 ld 44 43,
 b1 45 .gtr 44 (.int .i64 0)]
 (.cond (.t 45)
 (.sr [mt 46 4,
 mt 2 46,
 mc 3 (.bool false)]
 .ret)
 .skip))
 (.sr [mt 47 0,
 ⟨some 48,none,.build [.int .i64 0,.int .i64 0] [],[]⟩,
 ii 49 .nilchk [.t 47],
 fa 50 1 49,
 ⟨none,none,.store 2,[.t 50,.t 48]⟩]
 (.sr [mt 51 4,
 mt 2 51,
 mc 3 (.bool true)]
 .ret)))))))))⟩
theorem k38:aC Tryz.prog 38 F38=true:=by kernel_rfl
def F37:Fn:=⟨33,0,[.tmp 6],
 (.sr [mc 6 (.bool false)]
 (.sr [mv 7 0,
 ii 8 (.ob (.eqp true)) [.t 7,.c (.p (.atom (.pointer none)))],
 mt 9 8,
 gt 10 9 (.mov false) [.t 1],
 gt 11 9 (.bin .geq) [.t 10,cI 1],
 ii 12 .pick [.t 9,.t 11,.c (.p (.bool false))],
 mt 13 12,
 gt 14 13 (.mov false) [.t 2],
 gt 15 13 (.bin .geq) [.t 14,cI 1],
 ii 16 .pick [.t 13,.t 15,.c (.p (.bool false))],
 mt 17 16,
 gt 18 17 (.mov false) [.t 0],
 gt 19 17 (.mov false) [.t 1],
 gt 20 17 (.ob (.callo 70 false)) [.t 18,.t 19],
 gt 21 17 (.un .not) [.t 20],
 ii 22 .pick [.t 17,.t 21,.c (.p (.bool false))],
 mt 23 22,
 gt 24 23 (.mov true) [.t 0],
 gt 25 23 .nilchk [.t 24],
 gt 26 23 (.fad 0) [.t 25],
 gt 27 23 (.load 1 false false) [.t 26],
 gt 28 23 (.mov true) [.t 1],
 gt 29 23 (.mov true) [.t 2],
 ⟨some 30,(some (23,true)),.build [.int .i64 0,.int .i64 0] [(0,1),(1,1)],[.t 28,.t 29]⟩,
 gt 31 23 (.ob (.callo 71 false)) [.t 27,.t 30],
 ii 32 .pick [.t 23,.t 31,.c (.p (.bool false))],
 mt 6 32]
 .ret))⟩
theorem k37:aC Tryz.prog 37 F37=true:=by kernel_rfl
def F39:Fn:=⟨10,0,[.tmp 2],
 (.sr [mc 2 (.int .i64 0)]
 (.seq
 (.sr [mv 3 0,
 ii 4 (.ob (.eqp false)) [.t 3,.c (.p (.atom (.pointer none)))]]
 (.cond (.t 4)
 (.sr [mc 2 (.int .i64 0)]
 .ret)
 .skip))
 (.sr [mt 5 0,
 ii 6 .nilchk [.t 5],
 fa 7 1 6,
 fa 8 0 7,
 ld 9 8,
 mt 2 9]
 .ret)))⟩
theorem k39:aC Tryz.prog 39 F39=true:=by kernel_rfl
def F40:Fn:=⟨10,0,[.tmp 2],
 (.sr [mc 2 (.int .i64 0)]
 (.seq
 (.sr [mv 3 0,
 ii 4 (.ob (.eqp false)) [.t 3,.c (.p (.atom (.pointer none)))]]
 (.cond (.t 4)
 (.sr [mc 2 (.int .i64 0)]
 .ret)
 .skip))
 (.sr [mt 5 0,
 ii 6 .nilchk [.t 5],
 fa 7 0 6,
 ld 8 7,
 ii 9 (.ob (.callo 73 false)) [.t 8],
 mt 2 9]
 .ret)))⟩
theorem k40:aC Tryz.prog 40 F40=true:=by kernel_rfl
def F70:Fn:=⟨37,1,[.tmp 4],
 (.sr [mc 4 (.bool false)]
 (.seq
 (.sr [mv 8 0,
 ii 9 .nilchk [.t 8],
 fa 10 0 9,
 ld 11 10,
 ii 12 (.ob (.callo 73 false)) [.t 11],
 ii 13 (.mov false) [cI 0]]
 (.block 0
 (.loop [4,5,6,7,8,9,10,11,14,15,16,17,18,19,20,21,22,23,24,25,26,27,28,29,30,31,32,33,34,35,36] [0]
 (.sr [b2 14 .lss 13 12]
 (.seq
 (.cond (.t 14)
 .skip
 (.exit 0))
 (.seq
 (.block 1
 (.sr [mv 15 13,
 mt 5 15]
 (.sr [mv 17 0,
 ii 18 .nilchk [.t 17],
 fa 19 0 18,
 ld 20 19,
 mt 21 5,
 ii 22 (.ob (.callo 99 false)) [.t 20,.t 21],
 mt 16 22,
 ii 23 (.ext 0) [.t 16],
 ii 24 (.ext 1) [.t 16],
 ⟨some 6,none,.alloc 0 2 [Z0,Z0],[]⟩,
 ⟨none,none,.store 2,[.t 6,.t 23]⟩,
 mt 7 24]
 (.sr [fa 25 0 6,
 ld 26 25,
 mv 27 1,
 b2 28 .eql 26 27]
 (.cond (.t 28)
 (.sr [mc 4 (.bool true)]
 .ret)
 .skip)))))
 (.reg [b1 29 .add 13 (.int .i64 1),
 mt 13 29])))))))
 (.sr [mt 30 0,
 ii 31 .nilchk [.t 30],
 fa 32 1 31,
 fa 33 0 32,
 ld 34 33,
 mt 35 1,
 b2 36 .eql 34 35,
 mt 4 36]
 .ret)))⟩
theorem k70:aC Tryz.prog 70 F70=true:=by kernel_rfl
def F36:Fn:=⟨4,1,[.tmp 0],
 (.sr [mc 0 (.atom (.pointer none))]
 (.sr [ii 1 (.ob (.callo 69 true)) [cI 12],
 ⟨some 2,none,.ob (.bldo [.atom (.pointer none),.int .i64 0,.int .i64 0] [(0,1)]),[.t 1]⟩,
 ii 3 (.box 0 3) [.t 2],
 mt 0 3]
 .ret))⟩
theorem k36:aC Tryz.prog 36 F36=true:=by kernel_rfl
def F41:Fn:=⟨24,2,[.cell 4 5,.tmp 5],
 (.sr [⟨some 4,none,.alloc 0 5 [Z0,Z0,Z0,Z0,Z0],[]⟩,
 mc 5 (.bool false)]
 (.seq
 (.sr [mv 8 0,
 ii 9 (.ob (.eqp false)) [.t 8,.c (.p (.atom (.pointer none)))]]
 (.cond (.t 9)
 (.sr [⟨some 10,none,.build [.int .i64 0,.int .i64 0,.int .i64 0,.int .i64 0,.int .i64 0] [],[]⟩,
 ⟨none,none,.store 5,[.t 4,.t 10]⟩,
 mc 5 (.bool false)]
 .ret)
 .skip))
 (.sr [mv 11 0,
 ii 12 (.ob (.callo 61 true)) [.t 11]]
 (.sr [mt 14 0,
 ii 15 .nilchk [.t 14],
 fa 16 2 15,
 ld 17 16,
 mt 18 1,
 ⟨some 19,none,.ob (.lookx (some .i64) (.agg [.int .i64 0,.int .i64 0,.int .i64 0,.int .i64 0,.int .i64 0]) true),[.t 17,.t 18]⟩,
 mt 13 19,
 ii 20 (.ext 0) [.t 13],
 ii 21 (.ext 1) [.t 13],
 ⟨some 6,none,.alloc 1 5 [Z0,Z0,Z0,Z0,Z0],[]⟩,
 ⟨none,none,.store 5,[.t 6,.t 20]⟩,
 mt 7 21]
 (.sr [ii 22 (.load 5 true false) [.t 6],
 mt 23 7,
 ⟨none,none,.store 5,[.t 4,.t 22]⟩,
 mt 5 23]
 .ret)))))⟩
theorem k41:aC Tryz.prog 41 F41=true:=by kernel_rfl
def F33:Fn:=⟨48,2,[.tmp 4],
 (.sr [ii 3 (.box 0 5) [.t 1],
 mc 4 (.bool false)]
 (.seq
 (.sr [mv 7 0,
 ii 8 (.ob (.eqp false)) [.t 7,.c (.p (.atom (.pointer none)))],
 mt 9 8,
 gf 10 9 (.fad 1) [.t 3],
 gf 11 9 (.load 1 false false) [.t 10],
 gf 12 9 (.bin .lss) [.t 11,cI 1],
 ii 13 .pick [.t 9,.c (.p (.bool true)),.t 12],
 mt 14 13,
 gf 15 14 (.fad 1) [.t 3],
 gf 16 14 (.load 1 false false) [.t 15],
 gf 17 14 (.bin .gtr) [.t 16,cI 12],
 ii 18 .pick [.t 14,.c (.p (.bool true)),.t 17],
 mt 19 18,
 gf 20 19 (.fad 0) [.t 3],
 gf 21 19 (.load 1 false false) [.t 20],
 gf 22 19 (.bin .lss) [.t 21,cI 1],
 ii 23 .pick [.t 19,.c (.p (.bool true)),.t 22],
 mt 24 23,
 gf 25 24 (.fad 0) [.t 3],
 gf 26 24 (.load 1 false false) [.t 25],
 gf 27 24 (.bin .gtr) [.t 26,cI 3],
 ii 28 .pick [.t 24,.c (.p (.bool true)),.t 27]]
 (.cond (.t 28)
 (.sr [mc 4 (.bool false)]
 .ret)
 .skip))
 (.sr [mv 29 0,
 ii 30 (.ob (.callo 61 true)) [.t 29]]
 (.seq
 (.seq
 (.pre [5] [] [1] (.regx [(mv 32 0,[]),
 (ii 33 .nilchk [.t 32],[0]),
 (fa 34 2 33,[1]),
 (ii 35 (.at 2 (.load 1 false false)) [.t 34],[2]),
 (fa 36 1 3,[]),
 (ii 37 (.at 0 (.load 1 false false)) [.t 36],[4]),
 (⟨some 38,none,.ob (.lookx (some .i64) (.agg [.int .i64 0,.int .i64 0,.int .i64 0,.int .i64 0,.int .i64 0]) true),[.t 35,.t 37]⟩,[3,5]),
 (mt 31 38,[6]),
 (ii 39 (.extp 0) [.t 31],[7]),
 (ii 40 (.extp 1) [.t 31],[7]),
 (⟨some 5,none,.alloc 1 5 [Z0,Z0,Z0,Z0,Z0],[]⟩,[]),
 (⟨none,none,.at 1 (.store 5),[.t 5,.t 39]⟩,[0,1,2,3,4,5,6,7,8,10]),
 (mt 6 40,[0,1,2,3,4,5,6,7,8,9,10,11])]))
 (.sr [mt 41 6]
 (.cond (.t 41)
 (.sr [mc 4 (.bool false)]
 .ret)
 .skip)))
 (.seq
 (.regd [mt 42 0,
 ii 43 .nilchk [.t 42],
 fa 44 0 43,
 ii 45 (.at 2 (.load 1 false false)) [.t 44],
 ii 46 (.at 0 (.load 5 true false)) [.t 3],
 ii 47 (.ob (.callo 62 false)) [.t 45,.t 46],
 mt 4 47])
 .ret)))))⟩
theorem k33:aC Tryz.prog 33 F33=true:=by kernel_rfl
def F34:Fn:=⟨41,0,[.tmp 4],
 (.sr [ii 4 (.mov true) [.c (.p (.sl 5 true []))]]
 (.seq
 (.sr [mv 8 0,
 ii 9 (.ob (.eqp false)) [.t 8,.c (.p (.atom (.pointer none)))]]
 (.cond (.t 9)
 (.sr [ii 4 (.mov true) [.c (.p (.sl 5 true []))]]
 .ret)
 .skip))
 (.sr [mv 10 0,
 ii 11 (.ob (.callo 61 true)) [.t 10]]
 (.sr [ii 5 (.mov true) [.c (.p (.sl 5 true []))]]
 (.seq
 (.sr [mv 12 0,
 ii 13 .nilchk [.t 12],
 fa 14 1 13,
 ld 15 14,
 mt 16 1,
 ii 17 (.ob (.callo 63 false)) [.t 15,.t 16],
 ii 18 .len [.t 17],
 ii 19 (.mov false) [cI 0]]
 (.block 0
 (.loop [1,4,7,8,9,10,11,12,13,14,15,16,20,21,22,23,24,25,26,27,28,29,30,31,32,33,34,35,36,37,38,39,40] []
 (.sr [b2 20 .lss 19 18]
 (.seq
 (.cond (.t 20)
 .skip
 (.exit 0))
 (.seq
 (.block 1
 (.sr [ii 21 (.iad 1) [.t 17,.t 19],
 ld 22 21,
 mt 7 22]
 (.sr [mt 23 5,
 mv 24 0,
 ii 25 .nilchk [.t 24],
 fa 26 2 25,
 ld 27 26,
 mv 28 7,
 ⟨some 29,none,.ob (.lookx (some .i64) (.agg [.int .i64 0,.int .i64 0,.int .i64 0,.int .i64 0,.int .i64 0]) false),[.t 27,.t 28]⟩,
 ii 30 (.bsl 5 1) [.t 29],
 ii 31 (.ob (.appd 5 40 true)) [.t 23,.t 30],
 mt 5 31]
 (.reg [mv 32 0,
 ii 33 .nilchk [.t 32],
 fa 34 2 33,
 ld 35 34,
 mt 36 7,
 ⟨none,none,.ob (.mdel (some .i64)),[.t 35,.t 36]⟩]))))
 (.reg [b1 37 .add 19 (.int .i64 1),
 mt 19 37])))))))
 (.sr [mv 38 5,
 ii 39 (.ob (.callo 64 false)) [.t 38,.c (.p (.fn 65 []))]]
 (.sr [mt 40 5,
 mt 4 40]
 .ret)))))))⟩
theorem k34:aC Tryz.prog 34 F34=true:=by kernel_rfl
def F35:Fn:=⟨12,0,[.tmp 2],
 (.sr [mc 2 (.int .i64 0)]
 (.seq
 (.sr [mv 3 0,
 ii 4 (.ob (.eqp false)) [.t 3,.c (.p (.atom (.pointer none)))]]
 (.cond (.t 4)
 (.sr [mc 2 (.int .i64 0)]
 .ret)
 .skip))
 (.sr [mv 5 0,
 ii 6 (.ob (.callo 61 true)) [.t 5]]
 (.sr [mt 7 0,
 ii 8 .nilchk [.t 7],
 fa 9 2 8,
 ld 10 9,
 ii 11 (.ob .mlen) [.t 10],
 mt 2 11]
 .ret))))⟩
theorem k35:aC Tryz.prog 35 F35=true:=by kernel_rfl
def F61:Fn:=⟨38,2,[],
 (.sr [mv 5 0,
 ii 6 .nilchk [.t 5],
 fa 7 0 6,
 ld 8 7,
 ii 9 (.ob (.callo 90 false)) [.t 8],
 mt 4 9,
 ii 10 (.ext 0) [.t 4],
 ii 11 (.ext 1) [.t 4],
 ⟨some 2,none,.alloc 0 5 [Z0,Z0,Z0,Z0,Z0],[]⟩,
 ⟨none,none,.store 5,[.t 2,.t 10]⟩,
 mt 3 11]
 (.block 0
 (.loop [4,5,6,7,8,9,10,11,12,13,14,15,16,17,18,19,20,21,22,23,24,25,26,27,28,29,30,31,32,33,34,35,36,37] []
 (.seq
 (.sr [mt 12 3]
 (.cond (.t 12)
 .skip
 (.exit 0)))
 (.seq
 (.block 1
 (.seq
 (.regd [mv 21 0,
 ii 22 .nilchk [.t 21],
 fa 23 2 22,
 ii 24 (.at 2 (.load 1 false false)) [.t 23],
 fa 25 1 2,
 ld 26 25,
 ii 27 (.load 5 true false) [.t 2],
 ⟨none,none,.ob (.mupx (some .i64)),[.t 24,.t 26,.t 27]⟩])
 (.regd [mv 28 0,
 ii 29 .nilchk [.t 28],
 fa 30 1 29,
 ii 31 (.at 2 (.load 1 false false)) [.t 30],
 fa 32 1 2,
 ld 33 32,
 fa 34 3 2,
 ld 35 34,
 ii 36 (.ob (.callo 91 true)) [.t 31,.t 33,.t 35]])))
 (.seq
 (.sr [ii 37 (.load 5 true false) [.t 2]]
 (.reg [⟨some 2,none,.alloc 1 5 [Z0,Z0,Z0,Z0,Z0],[]⟩,
 ⟨none,none,.store 5,[.t 2,.t 37]⟩]))
 (.reg [mv 14 0,
 ii 15 .nilchk [.t 14],
 fa 16 0 15,
 ld 17 16,
 ii 18 (.ob (.callo 90 false)) [.t 17],
 mt 13 18,
 ii 19 (.ext 0) [.t 13],
 ii 20 (.ext 1) [.t 13],
 ⟨none,none,.store 5,[.t 2,.t 19]⟩,
 mt 3 20])))))))⟩
theorem k61:aC Tryz.prog 61 F61=true:=by kernel_rfl
def F32:Fn:=⟨6,2,[.tmp 0],
 (.sr [mc 0 (.atom (.pointer none))]
 (.sr [ii 1 (.ob (.callo 59 true)) [cI 12],
 ii 2 (.ob (.callo 60 true)) [cI 12],
 ii 3 (.mkmap 0) [],
 ⟨some 4,none,.ob (.bldo [.atom (.pointer none),.atom (.pointer none),.atom (.map none)] [(0,1),(1,1),(2,1)]),[.t 1,.t 2,.t 3]⟩,
 ii 5 (.box 1 3) [.t 4],
 mt 0 5]
 .ret))⟩
theorem k32:aC Tryz.prog 32 F32=true:=by kernel_rfl
def F65:Fn:=⟨17,2,[.tmp 4],
 (.sr [ii 2 (.box 0 5) [.t 0],
 ii 3 (.box 1 5) [.t 1],
 mc 4 (.int .i64 0)]
 (.seq
 (.regd [fa 5 3 2,
 ii 6 (.at 0 (.load 1 false false)) [.t 5],
 fa 7 3 3,
 ii 8 (.at 1 (.load 1 false false)) [.t 7],
 ii 9 (.pl (.call 67)) [.t 6,.t 8],
 fa 10 1 2,
 ii 11 (.at 0 (.load 1 false false)) [.t 10],
 fa 12 1 3,
 ii 13 (.at 1 (.load 1 false false)) [.t 12],
 ii 14 (.pl (.call 68)) [.t 11,.t 13],
 ii 15 (.bsl 1 2) [.t 9,.t 14],
 ii 16 (.pl (.call 66)) [.t 15],
 mt 4 16])
 .ret))⟩
theorem k65:aC Tryz.prog 65 F65=true:=by kernel_rfl
def Y1:Fn:=⟨26,0,[.tmp 4,.tmp 5],
 (.sr [mc 4 (.int .i64 0),
 mc 5 (.int .i64 0)]
 (.seq
 (.sr [mt 12 0,
 ii 13 (.ob (.callo 165 false)) [.t 12],
 mt 11 13,
 ii 14 (.ext 0) [.t 11],
 ii 15 (.ext 1) [.t 11],
 mt 6 14,
 mt 7 15]
 (.sr [mt 16 7]
 (.cond (.t 16)
 (.sr [mt 17 6,
 mt 4 17,
 mc 5 (.int .i64 1)]
 .ret)
 .skip)))
 (.seq
 (.sr [mt 19 1,
 ii 20 (.ob (.callo 165 false)) [.t 19],
 mt 18 20,
 ii 21 (.ext 0) [.t 18],
 ii 22 (.ext 1) [.t 18],
 mt 8 21,
 mt 9 22]
 (.sr [mt 23 9]
 (.cond (.t 23)
 (.sr [mt 24 8,
 mt 4 24,
 mc 5 (.int .i64 2)]
 .ret)
 .skip)))
 (.sr [mc 10 (.int .i64 0)]
 (.sr [mt 25 10,
 mt 4 25,
 mc 5 (.int .i64 0)]
 .ret)))))⟩
theorem a1E:aC Tryz.prog 120 Y1=true:=by kernel_rfl
open Go.RowKit
def F64:Fn:=⟨9,0,[],
 (.reg [mv 4 0,
 mv 5 0,
 ii 6 .len [.t 5],
 mv 7 1,
 ii 8 (.callm 96 0) [.t 4,.t 6,.t 7]])⟩
theorem k64:aC Tryz.prog 64 F64=true:=by kernel_rfl
def F96:Fn:=⟨63,0,[],
 (.sr [mc 6 (.int .i64 20)]
 (.sr [mv 10 6,
 mc 7 (.int .i64 0),
 mt 8 10]
 (.seq
 (.block 0
 (.loop [9,10,11,12,13,14,15,16,17,18,19,20,21,22,23,24,25,26,27,28,29,30,31,32,33,34,35,36,37,38,39,40,41,42,43,44,45,46,47,48,49,50,51,52,53,54,55,56,57,58,59,60,61,62] []
 (.seq
 (.sr [mv 11 8,
 mv 12 1,
 b2 13 .leq 11 12]
 (.cond (.t 13)
 .skip
 (.exit 0)))
 (.block 1
 (.sr [mv 14 0,
 mv 15 7,
 mv 16 8,
 mv 17 2,
 ii 18 (.callm 142 0) [.t 14,.t 15,.t 16,.t 17]]
 (.sr [mv 19 8,
 mt 7 19]
 (.reg [mv 20 8,
 mv 21 6,
 b2 22 .add 20 21,
 mt 8 22])))))))
 (.sr [mv 23 0,
 mv 24 7,
 mv 25 1,
 mv 26 2,
 ii 27 (.callm 142 0) [.t 23,.t 24,.t 25,.t 26]]
 (.block 2
 (.loop [7,8,9,10,11,12,13,14,15,16,17,18,19,20,21,22,23,24,25,26,27,28,29,30,31,32,33,34,35,36,37,38,39,40,41,42,43,44,45,46,47,48,49,50,51,52,53,54,55,56,57,58,59,60,61,62] []
 (.seq
 (.sr [mv 28 6,
 mv 29 1,
 b2 30 .lss 28 29]
 (.cond (.t 30)
 .skip
 (.exit 2)))
 (.block 3
 (.sr [mv 31 6,
 ii 32 (.bin .mul) [cI 2,.t 31],
 mc 7 (.int .i64 0),
 mt 8 32]
 (.seq
 (.block 4
 (.loop [9,10,11,12,13,14,15,16,17,18,19,20,21,22,23,24,25,26,27,28,29,30,31,32,33,34,35,36,37,38,39,40,41,42,43,44,45,46,47,48,49,50,51,52,53,54,55,56,57,58,59,60,61,62] []
 (.seq
 (.sr [mv 33 8,
 mv 34 1,
 b2 35 .leq 33 34]
 (.cond (.t 35)
 .skip
 (.exit 4)))
 (.block 5
 (.sr [mv 36 0,
 mv 37 7,
 mv 38 7,
 mv 39 6,
 b2 40 .add 38 39,
 mv 41 8,
 mv 42 2,
 ii 43 (.call 143) [.t 36,.t 37,.t 40,.t 41,.t 42]]
 (.sr [mv 44 8,
 mt 7 44]
 (.reg [mv 45 8,
 mv 46 6,
 ii 47 (.bin .mul) [cI 2,.t 46],
 b2 48 .add 45 47,
 mt 8 48])))))))
 (.seq
 (.sr [mv 49 7,
 mv 50 6,
 b2 51 .add 49 50,
 mt 9 51]
 (.sr [mv 52 9,
 mv 53 1,
 b2 54 .lss 52 53]
 (.cond (.t 54)
 (.reg [mv 55 0,
 mv 56 7,
 mv 57 9,
 mv 58 1,
 mv 59 2,
 ii 60 (.call 143) [.t 55,.t 56,.t 57,.t 58,.t 59]])
 .skip)))
 (.reg [mv 61 6,
 b1 62 .mul 61 (.int .i64 2),
 mt 6 62]))))))))))))⟩
theorem k96:aC Tryz.prog 96 F96=true:=by kernel_rfl
def UW:Fn:=⟨53,0,[],
 (.sr [mv 10 1,
 b1 11 .add 10 (.int .i64 1),
 mt 8 11]
 (.block 0
 (.loop [9,10,11,12,13,14,15,16,17,18,19,20,21,22,23,24,25,26,27,28,29,30,31,32,33,34,35,36,37,38,39,40,41,42,43,44,45,46,47,48,49,50,51,52] []
 (.seq
 (.sr [mv 12 8,
 mv 13 2,
 b2 14 .lss 12 13]
 (.cond (.t 14)
 .skip
 (.exit 0)))
 (.seq
 (.block 1
 (.sr [mv 17 8,
 mt 9 17]
 (.block 2
 (.loop [10,11,12,13,14,15,16,17,18,19,20,21,22,23,24,25,26,27,28,29,30,31,32,33,34,35,36,37,38,39,40,41,42,43,44,45,46,47,48,49,50,51,52] []
 (.seq
 (.seq
 (.regd [mv 18 9,
 mv 19 1,
 b2 20 .gtr 18 19,
 mv 21 20,
 gt 22 21 (.mov false) [.t 3],
 gt 23 21 (.mov false) [.t 0],
 gt 24 21 (.mov false) [.t 9],
 gt 25 21 (.iad 5) [.t 23,.t 24],
 gt 26 21 (.at 0 (.load 5 true false)) [.t 25],
 gt 27 21 (.mov false) [.t 0],
 gt 28 21 (.mov false) [.t 9],
 gt 29 21 (.bin .sub) [.t 28,cI 1],
 gt 30 21 (.iad 5) [.t 27,.t 29],
 gt 31 21 (.at 0 (.load 5 true false)) [.t 30],
 gt 32 21 (.pl .callv) [.t 22,.t 26,.t 31],
 gt 33 21 (.bin .lss) [.t 32,cI 0],
 ii 34 .pick [.t 21,.t 33,.c (.p (.bool false))]])
 (.cond (.t 34)
 .skip
 (.exit 2)))
 (.seq
 (.block 3
 (.regd [mv 37 0,
 mv 38 9,
 mv 39 0,
 mv 40 9,
 b1 41 .sub 40 (.int .i64 1),
 mv 42 0,
 mv 43 9,
 b1 44 .sub 43 (.int .i64 1),
 ii 45 (.iad 5) [.t 42,.t 44],
 ii 46 (.at 0 (.load 5 true false)) [.t 45],
 mv 47 0,
 mv 48 9,
 ii 49 (.iad 5) [.t 47,.t 48],
 ii 50 (.at 0 (.load 5 true false)) [.t 49],
 ii 51 (.iad 5) [.t 37,.t 38],
 ⟨none,none,.at 0 (.store 5),[.t 51,.t 46]⟩,
 ii 52 (.iad 5) [.t 39,.t 41],
 ⟨none,none,.at 0 (.store 5),[.t 52,.t 50]⟩]))
 (.reg [mv 35 9,
 b1 36 .sub 35 (.int .i64 1),
 mt 9 36])))))))
 (.reg [mv 15 8,
 b1 16 .add 15 (.int .i64 1),
 mt 8 16]))))))⟩
theorem a0s:aC Tryz.prog 142 UW=true:=by kernel_rfl
def F66:Fn:=⟨18,0,[.tmp 2],
 (.sr [mc 2 (.int .i64 0)]
 (.sr [mc 3 (.int .i64 0)]
 (.seq
 (.sr [mv 6 0,
 ii 7 .len [.t 6],
 ii 8 (.mov false) [cI 0]]
 (.block 0
 (.loop [0,2,5,9,10,11,12,13,14,15,16,17] []
 (.sr [b2 9 .lss 8 7]
 (.seq
 (.cond (.t 9)
 .skip
 (.exit 0))
 (.seq
 (.block 1
 (.sr [ii 10 (.iad 1) [.t 6,.t 8],
 ld 11 10,
 mt 5 11]
 (.sr [mv 12 5,
 mv 13 3,
 b2 14 .neq 12 13]
 (.cond (.t 14)
 (.sr [mv 15 5,
 mt 2 15]
 .ret)
 .skip))))
 (.reg [b1 16 .add 8 (.int .i64 1),
 mv 8 16])))))))
 (.sr [mv 17 3,
 mt 2 17]
 .ret))))⟩
theorem k66:aC Tryz.prog 66 F66=true:=by kernel_rfl
def F43:Fn:=⟨2,0,[.tmp 0],
 (.sr [mc 0 (.bool false)]
 (.sr [ii 1 (.call 75) [],
 mt 0 1]
 .ret))⟩
theorem k43:aC Tryz.prog 43 F43=true:=by kernel_rfl
end Go.Proofs.YtnjphclbpgajpaaGreatDoor.Vc
