/- Part of a proof over a Go program: Beg, Fo, Fp. No condition. -/
import Derived.Test.YtnjphclbpgajpaaGreatDoorX12
import Derived.Test.YtnjphclbpgajpaaGreatDoorX08
import Derived.Test.YtnjphclbpgajpaaGreatDoorProg
set_option linter.unnecessarySimpa false
set_option linter.unusedSectionVars false
set_option linter.unusedSimpArgs false
set_option linter.unusedVariables false
set_option maxRecDepth 1000000
namespace Go.Proofs.YtnjphclbpgajpaaGreatDoor.Vc
open Go.RowKit
def Tbl.del(zs:List Nat):Tbl->Tbl
 |[]=>[]
 |e ::t=>if zs.contains e.1 then Tbl.del zs t else e ::Tbl.del zs t
theorem Tbl.del_get{zs:List Nat}{t:Tbl}{f:Nat}(hf:zs.contains f=false):(Tbl.del zs t).get f=t.get f:=by
 induction t with
 |nil=>rfl
 |cons e t ih=>
  obtain⟨k,F⟩:=e;simp only[Tbl.del]
  split
  ·rename_i h
   simp only[Tbl.get]
   split
   ·rename_i hk
    have:=Nat.eq_of_beq_eq_true hk;subst this;rw[hf] at h;cases h
   ·exact ih
  ·simp only[Tbl.get]
   split
   ·rfl
   ·exact ih
theorem Tbl.del_none{zs:List Nat}{t:Tbl}{f:Nat}(hf:zs.contains f=true):(Tbl.del zs t).get f=none:=by
 induction t with
 |nil=>rfl
 |cons e t ih=>
  obtain⟨k,F⟩:=e;simp only[Tbl.del]
  split
  ·exact ih
  ·rename_i h
   simp only[Tbl.get]
   split
   ·rename_i hk
    have:=Nat.eq_of_beq_eq_true hk;subst this;exact absurd hf h
   ·exact ih
theorem TblOK.del{P:Program}{t:Tbl}(h:TblOK P t)(zs:List Nat):TblOK P (Tbl.del zs t):=by
 refine⟨fun f F hf=>?_⟩
 cases hc:zs.contains f with
 |true=>rw[Tbl.del_none hc] at hf;cases hf
 |false=>rw[Tbl.del_get hc] at hf;exact h.all f F hf
def HR(zs:List Nat)(f:FuncId)(args:List PV):Option DV :=
 match args with
 |[]=>if zs.contains f then some (.p (.bool true)) else JN f args
 |_=>JN f args
theorem zH{zs:List Nat}(h:∀z,z∈zs->aB Tryz.prog z [] (.p (.bool true)))(f:FuncId)(args:List PV)(d:DV)(hd:HR zs f args=some d):aB Tryz.prog f args d:=by
 unfold HR at hd
 split at hd
 ·split at hd
  ·rename_i hc
   injection hd with hd
   subst hd;exact h f (by simpa using hc)
  ·exact z7 _ _ _ hd
 ·exact z7 _ _ _ hd
def a0r(zs:List Nat)(n:Nat):Env:=rM (HR zs) TU (Tbl.del zs MY) n
theorem sE{zs:List Nat}(h:∀z,z∈zs->aB Tryz.prog z [] (.p (.bool true)))(n:Nat):(a0r zs n).OK Tryz.prog:=p9 (zH h) yW (tblP_ok.del zs)
theorem BS:aB Tryz.prog 121 [] (.p (.bool true)):=(NH 60).call 121 [] (.p (.bool true)) (by kernel_rfl)
theorem HA:aB Tryz.prog 250 [] (.p (.bool true)):=(sE (zs:=[121]) (fun z hz=>by simp at hz;subst hz;exact BS) 100).call 250 [] (.p (.bool true)) (by kernel_rfl)
theorem LG:aB Tryz.prog 240 [] (.p (.bool true)):=(sE (zs:=[250]) (fun z hz=>by simp at hz;subst hz;exact HA) 100).call 240 [] (.p (.bool true)) (by kernel_rfl)
theorem NB:aB Tryz.prog 184 [] (.p (.bool true)):=(sE (zs:=[240]) (fun z hz=>by simp at hz;subst hz;exact LG) 100).call 184 [] (.p (.bool true)) (by kernel_rfl)
theorem L8:aB Tryz.prog 155 [] (.p (.bool true)):=(sE (zs:=[184]) (fun z hz=>by simp at hz;subst hz;exact NB) 100).call 155 [] (.p (.bool true)) (by kernel_rfl)
open Go.RowKit
def YB:Fn:=⟨2,0,[.tmp 0],
 (.sr [mc 0 (.bool false)]
 (.sr [ii 1 (.call 155) [],
 mt 0 1]
 .ret))⟩
theorem a0Y:aC Tryz.prog 105 YB=true:=by kernel_rfl
def VD:Fn:=⟨14,2,[.tmp 2],
 (.sr [ii 1 (.box 0 5) [.t 0],
 mc 2 (.atom (.pointer none))]
 (.seq
 (.sr [ii 3 (.load 5 true false) [.t 1],
 ii 4 (.call 80) [.t 3],
 ii 5 (.un .not) [.t 4]]
 (.cond (.t 5)
 (.sr [mc 2 (.atom (.pointer none))]
 .ret)
 .skip))
 (.sr [fa 6 4 1,
 ld 7 6,
 ii 8 (.call 144) [.t 7],
 fa 9 4 1,
 ⟨none,none,.store 1,[.t 9,.t 8]⟩]
 (.seq
 (.regx [(ii 10 (.at 0 (.load 5 true false)) [.t 1],[]),
 (ii 11 (.ob (.callo 145 true)) [cI 12],[]),
 (⟨some 12,none,.ob (.bldo [.int .i64 0,.int .i64 0,.int .i64 0,.int .i64 0,.sl 1 true [],.atom (.pointer none)] [(0,5),(5,1)]),[.t 10,.t 11]⟩,[0,1]),
 (ii 13 (.box 1 6) [.t 12],[2]),
 (mt 2 13,[0,1,2,3])])
 .ret))))⟩
theorem a0x:aC Tryz.prog 101 VD=true:=by kernel_rfl
def WL:Fn:=⟨69,2,[.tmp 4,.tmp 5],
 (.sr [ii 3 (.box 0 4) [.t 1],
 mc 4 (.int .i64 0),
 mc 5 (.int .i64 0)]
 (.seq
 (.block 0
 (.sr [mv 12 0,
 ii 13 (.ob (.eqp false)) [.t 12,.c (.p (.atom (.pointer none)))],
 mt 11 13]
 (.cond (.t 11)
 (.sr [mc 4 (.int .i64 0),
 mc 5 (.int .i64 8)]
 .ret)
 (.seq
 (.regd [mv 15 0,
 ii 16 .nilchk [.t 15],
 fa 17 0 16,
 ii 18 (.at 2 (.load 5 true false)) [.t 17],
 ii 19 (.at 0 (.load 4 true false)) [.t 3],
 ii 20 (.pl (.call 81)) [.t 18,.t 19],
 ii 21 (.un .not) [.t 20],
 mt 14 21])
 (.cond (.t 14)
 (.sr [mc 4 (.int .i64 0),
 mc 5 (.int .i64 1)]
 .ret)
 .skip)))))
 (.sr [mv 23 0,
 ii 24 (.ob (.callo 146 false)) [.t 23],
 mt 22 24,
 ii 25 (.ext 0) [.t 22],
 ii 26 (.ext 1) [.t 22],
 mt 6 25,
 mt 7 26]
 (.seq
 (.sr [mv 27 6,
 ii 28 .len [.t 27],
 b1 29 .geq 28 (.int .i64 12)]
 (.cond (.t 29)
 (.sr [mc 4 (.int .i64 0),
 mc 5 (.int .i64 3)]
 .ret)
 .skip))
 (.sr [mt 30 6,
 ii 31 (.load 4 true false) [.t 3],
 ii 32 (.bsl 4 1) [.t 31],
 ii 33 (.app 4 48) [.t 30,.t 32],
 mt 6 33]
 (.sr [mv 35 0,
 mv 36 6,
 mv 37 7,
 ii 38 (.ob (.callo 147 false)) [.t 35,.t 36,.t 37],
 mt 34 38,
 ii 39 (.ext 0) [.t 34],
 ii 40 (.ext 1) [.t 34],
 mt 8 39,
 mt 9 40]
 (.seq
 (.sr [mt 41 9,
 ii 42 (.un .not) [.t 41]]
 (.cond (.t 42)
 (.sr [mc 4 (.int .i64 0),
 mc 5 (.int .i64 7)]
 .ret)
 .skip))
 (.seq
 (.pre [10] [] [1] (.rega [mv 44 0,
 mt 45 8,
 ii 46 (.at 0 (.load 4 true false)) [.t 3],
 mv 47 0,
 ii 48 .nilchk [.t 47],
 fa 49 0 48,
 ii 50 (.at 2 (.load 5 true false)) [.t 49],
 mt 51 6,
 mt 52 7,
 ii 53 .lenD [.t 52],
 ii 54 (.pl (.call 149)) [.t 50,.t 51,.t 53],
 ii 55 (.ob (.callr 148)) [.t 44,.t 45,.t 46,.t 54],
 mt 43 55,
 ii 56 (.extp 0) [.t 43],
 ii 57 (.extp 1) [.t 43],
 ⟨some 10,none,.alloc 1 2 [Z0,.ow 4 true []],[]⟩,
 ⟨none,none,.at 1 (.store 2),[.t 10,.t 56]⟩,
 mt 9 57]))
 (.seq
 (.sr [mt 58 9,
 ii 59 (.un .not) [.t 58]]
 (.cond (.t 59)
 (.sr [mc 4 (.int .i64 0),
 mc 5 (.int .i64 7)]
 .ret)
 .skip))
 (.seq
 (.regd [mt 60 0,
 ii 61 .nilchk [.t 60],
 fa 62 5 61,
 ii 63 (.at 2 (.load 1 false false)) [.t 62],
 ii 64 (.at 0 (.load 4 true false)) [.t 3],
 ii 65 (.pl (.call 151)) [.t 64],
 ii 66 (.at 1 (.load 2 true false)) [.t 10],
 ⟨some 67,none,.build [.int .i64 0,.int .i64 0,.int .i64 0,.sl 3 true [],.int .i64 0,.sl 4 true []] [(0,4),(4,2)],[.t 65,.t 66]⟩,
 ii 68 (.ob (.callo 150 false)) [.t 63,.t 67],
 mt 4 68,
 mc 5 (.int .i64 0)])
 .ret))))))))))⟩
theorem a1G:aC Tryz.prog 102 WL=true:=by kernel_rfl
def VP:Fn:=⟨29,2,[.cell 4 2,.tmp 5],
 (.sr [⟨some 4,none,.alloc 0 2 [Z0,.ow 4 true []],[]⟩,
 mc 5 (.bool false)]
 (.seq
 (.sr [mv 8 0,
 ii 9 (.ob (.eqp false)) [.t 8,.c (.p (.atom (.pointer none)))]]
 (.cond (.t 9)
 (.sr [⟨some 10,none,.build [.int .i64 0,.sl 4 true []] [],[]⟩,
 ⟨none,none,.store 2,[.t 4,.t 10]⟩,
 mc 5 (.bool false)]
 .ret)
 .skip))
 (.sr [mt 12 0,
 ii 13 .nilchk [.t 12],
 fa 14 5 13,
 ld 15 14,
 mt 16 1,
 ii 17 (.ob (.callo 152 false)) [.t 15,.t 16],
 mt 11 17,
 ii 18 (.ext 0) [.t 11],
 ii 19 (.ext 1) [.t 11],
 ⟨some 6,none,.alloc 1 6 [Z0,Z0,Z0,.ow 3 true [],Z0,.ow 4 true []],[]⟩,
 ⟨none,none,.store 6,[.t 6,.t 18]⟩,
 mt 7 19]
 (.sr [fa 20 4 6,
 fa 21 1 20,
 ld 22 21,
 ii 23 (.call 153) [.t 22],
 fa 24 4 6,
 fa 25 1 24,
 ⟨none,none,.store 1,[.t 25,.t 23]⟩]
 (.sr [fa 26 4 6,
 ii 27 (.load 2 true false) [.t 26],
 mt 28 7,
 ⟨none,none,.store 2,[.t 4,.t 27]⟩,
 mt 5 28]
 .ret)))))⟩
theorem a0U:aC Tryz.prog 103 VP=true:=by kernel_rfl
def UF:Fn:=⟨16,0,[.tmp 4],
 (.sr [mc 4 (.int .i64 0)]
 (.seq
 (.block 0
 (.sr [mv 6 0,
 ii 7 (.ob (.eqp false)) [.t 6,.c (.p (.atom (.pointer none)))],
 mt 5 7]
 (.cond (.t 5)
 (.sr [mc 4 (.int .i64 8)]
 .ret)
 (.sr [mt 9 0,
 ii 10 .nilchk [.t 9],
 fa 11 5 10,
 ld 12 11,
 mt 13 1,
 ii 14 (.ob (.callo 157 false)) [.t 12,.t 13],
 ii 15 (.un .not) [.t 14],
 mt 8 15]
 (.cond (.t 8)
 (.sr [mc 4 (.int .i64 4)]
 .ret)
 .skip)))))
 (.sr [mc 4 (.int .i64 0)]
 .ret)))⟩
theorem Z7:aC Tryz.prog 107 UF=true:=by kernel_rfl
def XK:Fn:=⟨10,0,[.tmp 2],
 (.sr [ii 2 (.mov true) [.c (.ow 1 true [])]]
 (.seq
 (.sr [mv 3 0,
 ii 4 (.ob (.eqp false)) [.t 3,.c (.p (.atom (.pointer none)))]]
 (.cond (.t 4)
 (.sr [ii 2 (.mov true) [.c (.ow 1 true [])]]
 .ret)
 .skip))
 (.sr [mt 5 0,
 ii 6 .nilchk [.t 5],
 fa 7 5 6,
 ld 8 7,
 ii 9 (.ob (.callo 156 false)) [.t 8],
 mt 2 9]
 .ret)))⟩
theorem a1K:aC Tryz.prog 106 XK=true:=by kernel_rfl
def XM:Fn:=⟨37,0,[.tmp 4],
 (.sr [ii 4 (.mov true) [.c (.ow 3 true [])]]
 (.seq
 (.sr [mv 7 0,
 ii 8 (.ob (.eqp false)) [.t 7,.c (.p (.atom (.pointer none)))],
 mt 9 8,
 gf 10 9 (.mov false) [.t 1],
 gf 11 9 (.bin .lss) [.t 10,cI 0],
 ii 12 .pick [.t 9,.c (.p (.bool true)),.t 11],
 mt 13 12,
 gf 14 13 (.mov false) [.t 1],
 gf 15 13 (.mov false) [.t 0],
 gf 16 13 .nilchk [.t 15],
 gf 17 13 (.fad 0) [.t 16],
 gf 18 13 (.fad 0) [.t 17],
 gf 19 13 (.load 1 false false) [.t 18],
 gf 20 13 (.bin .geq) [.t 14,.t 19],
 ii 21 .pick [.t 13,.c (.p (.bool true)),.t 20]]
 (.cond (.t 21)
 (.sr [ii 4 (.mov true) [.c (.ow 3 true [])]]
 .ret)
 .skip))
 (.sr [mv 23 0,
 ii 24 (.ob (.callo 146 false)) [.t 23],
 mt 22 24,
 ii 25 (.ext 0) [.t 22],
 ii 26 (.ext 1) [.t 22],
 mt 5 25,
 mt 6 26]
 (.sr [mt 27 0,
 ii 28 .nilchk [.t 27],
 fa 29 0 28,
 ii 30 (.load 5 true false) [.t 29],
 mt 31 5,
 mt 32 6,
 ii 33 (.call 154) [.t 30,.t 31,.t 32],
 mt 34 1,
 ii 35 (.iad 1) [.t 33,.t 34],
 ld 36 35,
 mt 4 36]
 .ret))))⟩
theorem a0d:aC Tryz.prog 104 XM=true:=by kernel_rfl
def TE:Fn:=⟨30,0,[.tmp 6],
 (.sr [mc 6 (.int .i64 0)]
 (.seq
 (.sr [mv 9 0,
 ii 10 (.ob (.eqp false)) [.t 9,.c (.p (.atom (.pointer none)))]]
 (.cond (.t 10)
 (.sr [mc 6 (.int .i64 0)]
 .ret)
 .skip))
 (.sr [mv 12 0,
 ii 13 (.ob (.callo 146 false)) [.t 12],
 mt 11 13,
 ii 14 (.ext 0) [.t 11],
 ii 15 (.ext 1) [.t 11],
 mt 7 14,
 mt 8 15]
 (.seq
 (.regd [mv 16 0,
 ii 17 .nilchk [.t 16],
 fa 18 0 17,
 ii 19 (.at 0 (.load 5 true false)) [.t 18],
 mt 20 7,
 mv 21 0,
 ii 22 .nilchk [.t 21],
 fa 23 5 22,
 ii 24 (.at 0 (.load 1 false false)) [.t 23],
 ii 25 (.ob (.callr 156)) [.t 24],
 mt 26 1,
 ii 27 (.pl (.call 159)) [.t 25,.t 26],
 mt 28 2,
 ii 29 (.pl (.call 158)) [.t 19,.t 20,.t 27,.t 28],
 mt 6 29])
 .ret))))⟩
theorem a0J:aC Tryz.prog 108 TE=true:=by kernel_rfl
def TR:Fn:=⟨8,0,[.tmp 2],
 (.sr [ii 2 (.mov true) [.c (.ow 1 true [])]]
 (.seq
 (.sr [mv 3 0,
 ii 4 (.eqnil false) [.t 3,.c (.ow 1 true [])]]
 (.cond (.t 4)
 (.sr [ii 2 (.mov true) [.c (.ow 1 true [])]]
 .ret)
 .skip))
 (.sr [ii 5 (.bsl 1 0) [],
 mv 6 0,
 ii 7 (.app 1 8) [.t 5,.t 6],
 mt 2 7]
 .ret)))⟩
theorem a0n:aC Tryz.prog 144 TR=true:=by kernel_rfl
def TX:Fn:=⟨9,2,[.tmp 2],
 (.sr [mc 2 (.atom (.pointer none))]
 (.sr [mt 3 0,
 ii 4 .mx [.t 3,cI 0],
 ii 5 .mn [.t 4,cI 100],
 ⟨some 6,none,.mksl 0 7 88 true [Z0,Z0,Z0,.ow 3 true [],Z0,.ow 4 true [],.p (.bool false)],[.t 5,.t 5]⟩,
 ⟨some 7,none,.ob (.bldo [.sl 7 true []] [(0,1)]),[.t 6]⟩,
 ii 8 (.box 1 1) [.t 7],
 mt 2 8]
 .ret))⟩
theorem a0i:aC Tryz.prog 145 TX=true:=by kernel_rfl
def U4:Fn:=⟨42,1,[.tmp 2,.tmp 3],
 (.sr [ii 2 (.mov true) [.c (.ow 4 true [])],
 ii 3 (.mov true) [.c (.ow 2 true [])]]
 (.sr [ii 4 (.mov true) [.c (.ow 4 true [])]]
 (.sr [ii 5 (.mov true) [.c (.ow 2 true [])]]
 (.seq
 (.sr [mv 10 0,
 ii 11 .nilchk [.t 10],
 fa 12 5 11,
 ld 13 12,
 ii 14 (.ob (.callo 156 false)) [.t 13],
 ii 15 .len [.t 14],
 ii 16 (.mov false) [cI 0]]
 (.block 0
 (.loop [2,3,7,8,9,10,11,12,13,17,18,19,20,21,22,23,24,25,26,27,28,29,30,31,32,33,34,35,36,37,38,39,40,41] [0]
 (.sr [b2 17 .lss 16 15]
 (.seq
 (.cond (.t 17)
 .skip
 (.exit 0))
 (.seq
 (.block 1
 (.sr [ii 18 (.iad 1) [.t 14,.t 16],
 ld 19 18,
 mt 7 19]
 (.sr [mv 21 0,
 ii 22 .nilchk [.t 21],
 fa 23 5 22,
 ld 24 23,
 mt 25 7,
 ii 26 (.ob (.callo 152 false)) [.t 24,.t 25],
 mt 20 26,
 ii 27 (.ext 0) [.t 20],
 ii 28 (.ext 1) [.t 20],
 ⟨some 8,none,.alloc 0 6 [Z0,Z0,Z0,.ow 3 true [],Z0,.ow 4 true []],[]⟩,
 ⟨none,none,.store 6,[.t 8,.t 27]⟩,
 mt 9 28]
 (.regd [mt 29 4,
 fa 30 0 8,
 ii 31 (.at 0 (.load 4 true false)) [.t 30],
 ii 32 (.bsl 4 1) [.t 31],
 ii 33 (.pl (.app 4 48)) [.t 29,.t 32],
 mt 34 5,
 fa 35 4 8,
 ii 36 (.at 0 (.load 2 true false)) [.t 35],
 ii 37 (.bsl 2 1) [.t 36],
 ii 38 (.pl (.app 2 32)) [.t 34,.t 37],
 mt 4 33,
 mt 5 38]))))
 (.reg [b1 39 .add 16 (.int .i64 1),
 mt 16 39])))))))
 (.sr [mt 40 4,
 mt 41 5,
 mt 2 40,
 mt 3 41]
 .ret)))))⟩
theorem a0K:aC Tryz.prog 146 U4=true:=by kernel_rfl
def UY:Fn:=⟨55,2,[.tmp 6,.tmp 7],
 (.sr [ii 6 (.mov true) [.c (.ow 1 true [])],
 mc 7 (.bool false)]
 (.sr [mv 13 0,
 ii 14 .nilchk [.t 13],
 fa 15 0 14,
 fa 16 0 15,
 ld 17 16,
 ⟨some 18,none,.mksl 0 1 24 false [.ow 3 true []],[.t 17,.t 17]⟩,
 mt 8 18]
 (.seq
 (.sr [mt 19 2,
 ii 20 .len [.t 19],
 ii 21 (.mov false) [cI 0]]
 (.block 0
 (.loop [2,6,7,9,10,11,12,13,14,15,16,17,18,22,23,24,25,26,27,28,29,30,31,32,33,34,35,36,37,38,39,40,41,42,43,44,45,46,47,48,49,50,51,52,53,54] [1]
 (.sr [b2 22 .lss 21 20]
 (.seq
 (.cond (.t 22)
 .skip
 (.exit 0))
 (.seq
 (.block 1
 (.sr [mv 23 21,
 ii 24 (.iad 2) [.t 19,.t 21],
 ii 25 (.load 2 true false) [.t 24],
 ⟨some 10,none,.alloc 1 2 [Z0,.ow 4 true []],[]⟩,
 mt 9 23,
 ⟨none,none,.store 2,[.t 10,.t 25]⟩]
 (.seq
 (.regd [mv 26 0,
 ii 27 .nilchk [.t 26],
 fa 28 0 27,
 ii 29 (.at 2 (.load 5 true false)) [.t 28],
 mv 30 1,
 mt 31 9,
 ii 32 (.at 1 (.load 2 true false)) [.t 10],
 ii 33 (.pl (.call 177)) [.t 29,.t 30,.t 31,.t 32],
 ii 34 .lenD [.t 33],
 ii 35 (.mov false) [cI 0]])
 (.block 2
 (.loop [2,6,7,9,10,11,12,13,14,15,16,17,18,22,23,24,25,26,27,28,29,30,31,32,36,37,38,39,40,41,42,43,44,45,46,47,48,49,50,51,52,53,54] []
 (.sr [b2 36 .lss 35 34]
 (.seq
 (.cond (.t 36)
 .skip
 (.exit 2))
 (.seq
 (.block 3
 (.sr [mv 37 35,
 ii 38 (.iad 1) [.t 33,.t 35],
 ld 39 38,
 mt 11 37,
 mt 12 39]
 (.reg [mv 40 8,
 mv 41 11,
 mv 42 8,
 mt 43 11,
 ii 44 (.iad 1) [.t 42,.t 43],
 ii 45 (.load 1 false true) [.t 44],
 mt 46 12,
 ii 47 (.app 3 24) [.t 45,.t 46],
 ii 48 (.iad 1) [.t 40,.t 41],
 ⟨none,none,.store 1,[.t 48,.t 47]⟩])))
 (.reg [b1 49 .add 35 (.int .i64 1),
 mt 35 49])))))))))
 (.reg [b1 50 .add 21 (.int .i64 1),
 mt 21 50])))))))
 (.seq
 (.pre [] [0] [] (.reg [mv 51 8,
 mt 52 8,
 ii 53 (.call 178) [.t 52,.c (.p (.fn 179 []))],
 ii 54 (.un .not) [.t 53],
 mt 6 51,
 mt 7 54]))
 (.pre [] [0] [] .ret)))))⟩
theorem a0b:aC Tryz.prog 147 UY=true:=by kernel_rfl
def WD:Fn:=⟨49,3,[.cell 8 2,.tmp 9],
 (.sr [ii 6 (.box 0 4) [.t 2],
 ⟨some 8,none,.alloc 1 2 [Z0,.ow 4 true []],[]⟩,
 mc 9 (.bool false)]
 (.sr [mv 13 1,
 ii 14 (.load 4 true false) [.t 6],
 mt 15 3,
 ii 16 (.call 52) [.t 13,.t 14,.t 15],
 mt 12 16,
 ii 17 (.ext 0) [.t 12],
 ii 18 (.ext 1) [.t 12],
 ⟨some 10,none,.alloc 2 2 [Z0,.ow 4 true []],[]⟩,
 ⟨none,none,.store 2,[.t 10,.t 17]⟩,
 mt 11 18]
 (.seq
 (.sr [mv 19 11,
 mt 20 19,
 gf 21 20 (.fad 3) [.t 6],
 gf 22 20 (.load 1 false false) [.t 21],
 gf 23 20 .len [.t 22],
 gf 24 20 (.bin .gtr) [.t 23,cI 0],
 ii 25 .pick [.t 20,.c (.p (.bool true)),.t 24]]
 (.cond (.t 25)
 (.sr [ii 26 (.load 2 true false) [.t 10],
 mt 27 11,
 ⟨none,none,.store 2,[.t 8,.t 26]⟩,
 mt 9 27]
 .ret)
 .skip))
 (.seq
 (.seq
 (.regd [mv 29 0,
 ii 30 .nilchk [.t 29],
 fa 31 0 30,
 ii 32 (.at 3 (.load 5 true false)) [.t 31],
 mv 33 1,
 ii 34 (.at 0 (.load 4 true false)) [.t 6],
 ii 35 (.pl (.call 50)) [.t 32,.t 33,.t 34],
 mt 28 35,
 ii 36 (.extp 0) [.t 28],
 ii 37 (.extp 1) [.t 28],
 ⟨none,none,.at 2 (.store 2),[.t 10,.t 36]⟩,
 mt 11 37])
 (.sr [mt 38 11]
 (.cond (.t 38)
 (.sr [ii 39 (.load 2 true false) [.t 10],
 ⟨none,none,.store 2,[.t 8,.t 39]⟩,
 mc 9 (.bool true)]
 .ret)
 .skip)))
 (.seq
 (.regd [mt 40 0,
 ii 41 .nilchk [.t 40],
 fa 42 0 41,
 ii 43 (.at 3 (.load 5 true false)) [.t 42],
 mt 44 1,
 ii 45 (.at 0 (.load 4 true false)) [.t 6],
 ii 46 (.pl (.call 51)) [.t 43,.t 44,.t 45],
 ii 47 (.extp 0) [.t 46],
 ii 48 (.extp 1) [.t 46],
 ⟨none,none,.at 1 (.store 2),[.t 8,.t 47]⟩,
 mt 9 48])
 .ret)))))⟩
theorem ZJ:aC Tryz.prog 148 WD=true:=by kernel_rfl
def X7:Fn:=⟨36,1,[.tmp 4],
 (.sr [ii 3 (.box 0 6) [.t 1],
 mc 4 (.int .i64 0)]
 (.seq
 (.sr [mv 6 0,
 ii 7 (.ob (.eqp false)) [.t 6,.c (.p (.atom (.pointer none)))]]
 (.cond (.t 7)
 (.sr [mc 4 (.int .i64 0)]
 .ret)
 .skip))
 (.seq
 (.sr [mv 8 0,
 ii 9 .nilchk [.t 8],
 fa 10 0 9,
 ld 11 10,
 ii 12 .len [.t 11],
 ii 13 (.mov false) [cI 0]]
 (.block 0
 (.loop [1,4,5,6,7,8,9,10,11,14,15,16,17,18,19,20,21,22,23,24,25,26,27,28,29,30,31,32,33,34,35] []
 (.sr [b2 14 .lss 13 12]
 (.seq
 (.cond (.t 14)
 .skip
 (.exit 0))
 (.seq
 (.block 1
 (.sr [mv 15 13,
 mt 5 15]
 (.sr [mv 16 0,
 ii 17 .nilchk [.t 16],
 fa 18 0 17,
 ld 19 18,
 mv 20 5,
 ii 21 (.iad 7) [.t 19,.t 20],
 fa 22 6 21,
 ld 23 22,
 ii 24 (.un .not) [.t 23]]
 (.cond (.t 24)
 (.seq
 (.regd [mt 25 0,
 ii 26 .nilchk [.t 25],
 fa 27 0 26,
 ii 28 (.at 1 (.load 1 false false)) [.t 27],
 mv 29 5,
 ii 30 (.at 0 (.load 6 true false)) [.t 3],
 ⟨some 31,none,.build [.int .i64 0,.int .i64 0,.int .i64 0,.sl 3 true [],.int .i64 0,.sl 4 true [],.bool false] [(0,6),(6,1)],[.t 30,.c (.p (.bool true))]⟩,
 ii 32 (.iad 7) [.t 28,.t 29],
 ⟨none,none,.store 7,[.t 32,.t 31]⟩])
 (.sr [mt 33 5,
 b1 34 .add 33 (.int .i64 1),
 mt 4 34]
 .ret))
 .skip))))
 (.reg [b1 35 .add 13 (.int .i64 1),
 mt 13 35])))))))
 (.sr [mc 4 (.int .i64 0)]
 .ret))))⟩
theorem a0o:aC Tryz.prog 150 X7=true:=by kernel_rfl
def U0:Fn:=⟨8,2,[.cell 2 4],
 (.sr [ii 1 (.box 0 4) [.t 0],
 ⟨some 2,none,.alloc 1 4 [Z0,Z0,Z0,.ow 3 true []],[]⟩]
 (.seq
 (.gp (.reg [fa 3 3 1,
 ld 4 3,
 ii 5 (.call 181) [.t 4],
 fa 6 3 1,
 ⟨none,none,.store 1,[.t 6,.t 5]⟩]) (.lay 0 4))
 (.seq
 (.gp (.reg [ii 7 (.load 4 true false) [.t 1],
 ⟨none,none,.store 4,[.t 2,.t 7]⟩]) (.lay 1 4))
 .ret)))⟩
theorem a0v:aC Tryz.prog 151 U0=true:=by kernel_rfl
def UO:Fn:=⟨18,2,[.cell 4 6,.tmp 5],
 (.sr [⟨some 4,none,.alloc 0 6 [Z0,Z0,Z0,.ow 3 true [],Z0,.ow 4 true []],[]⟩,
 mc 5 (.bool false)]
 (.seq
 (.sr [mt 8 0,
 mt 9 1,
 ii 10 (.ob (.callo 182 false)) [.t 8,.t 9],
 mt 6 10]
 (.sr [mv 11 6,
 ii 12 (.ob (.eqp true)) [.t 11,.c (.p (.atom (.pointer none)))]]
 (.cond (.t 12)
 (.sr [mt 13 6,
 ii 14 .nilchk [.t 13],
 fa 15 0 14,
 ii 16 (.load 6 true false) [.t 15],
 ⟨none,none,.store 6,[.t 4,.t 16]⟩,
 mc 5 (.bool true)]
 .ret)
 .skip)))
 (.sr [⟨some 7,none,.alloc 1 6 [Z0,Z0,Z0,.ow 3 true [],Z0,.ow 4 true []],[]⟩]
 (.sr [ii 17 (.load 6 true false) [.t 7],
 ⟨none,none,.store 6,[.t 4,.t 17]⟩,
 mc 5 (.bool false)]
 .ret))))⟩
theorem a1J:aC Tryz.prog 152 UO=true:=by kernel_rfl
def WE:Fn:=⟨8,0,[.tmp 2],
 (.sr [ii 2 (.mov true) [.c (.ow 4 true [])]]
 (.seq
 (.sr [mv 3 0,
 ii 4 (.eqnil false) [.t 3,.c (.ow 4 true [])]]
 (.cond (.t 4)
 (.sr [ii 2 (.mov true) [.c (.ow 4 true [])]]
 .ret)
 .skip))
 (.sr [ii 5 (.bsl 4 0) [],
 mv 6 0,
 ii 7 (.app 4 32) [.t 5,.t 6],
 mt 2 7]
 .ret)))⟩
theorem Z8:aC Tryz.prog 153 WE=true:=by kernel_rfl
def V6:Fn:=⟨14,0,[.tmp 4],
 (.sr [mc 4 (.bool false)]
 (.sr [mt 6 0,
 mt 7 1,
 ii 8 (.ob (.callo 182 false)) [.t 6,.t 7],
 mt 5 8]
 (.seq
 (.sr [mv 9 5,
 ii 10 (.ob (.eqp false)) [.t 9,.c (.p (.atom (.pointer none)))]]
 (.cond (.t 10)
 (.sr [mc 4 (.bool false)]
 .ret)
 .skip))
 (.sr [mt 11 5,
 ⟨some 12,none,.build [.int .i64 0,.int .i64 0,.int .i64 0,.sl 3 true [],.int .i64 0,.sl 4 true [],.bool false] [],[]⟩,
 ii 13 .nilchk [.t 11],
 ⟨none,none,.store 7,[.t 13,.t 12]⟩]
 (.sr [mc 4 (.bool true)]
 .ret)))))⟩
theorem a1N:aC Tryz.prog 157 V6=true:=by kernel_rfl
def XU:Fn:=⟨27,1,[.tmp 2],
 (.sr [ii 2 (.mov true) [.c (.ow 1 true [])]]
 (.seq
 (.sr [mv 6 0,
 ii 7 (.ob (.eqp false)) [.t 6,.c (.p (.atom (.pointer none)))]]
 (.cond (.t 7)
 (.sr [ii 2 (.mov true) [.c (.ow 1 true [])]]
 .ret)
 .skip))
 (.sr [ii 3 (.mov true) [.c (.ow 1 true [])]]
 (.seq
 (.sr [mt 8 0,
 ii 9 .nilchk [.t 8],
 fa 10 0 9,
 ld 11 10,
 ii 12 .len [.t 11],
 ii 13 (.mov false) [cI 0]]
 (.block 0
 (.loop [0,2,4,5,6,7,8,9,10,14,15,16,17,18,19,20,21,22,23,24,25,26] [0]
 (.sr [b2 14 .lss 13 12]
 (.seq
 (.cond (.t 14)
 .skip
 (.exit 0))
 (.seq
 (.block 1
 (.sr [mv 15 13,
 ii 16 (.iad 7) [.t 11,.t 13],
 ii 17 (.load 7 true false) [.t 16],
 ⟨some 5,none,.alloc 0 7 [Z0,Z0,Z0,.ow 3 true [],Z0,.ow 4 true [],.p (.bool false)],[]⟩,
 mt 4 15,
 ⟨none,none,.store 7,[.t 5,.t 17]⟩]
 (.sr [fa 18 6 5,
 ld 19 18]
 (.cond (.t 19)
 (.reg [mt 20 3,
 mt 21 4,
 b1 22 .add 21 (.int .i64 1),
 ii 23 (.bsl 1 1) [.t 22],
 ii 24 (.app 1 8) [.t 20,.t 23],
 mt 3 24])
 .skip))))
 (.reg [b1 25 .add 13 (.int .i64 1),
 mt 13 25])))))))
 (.sr [mt 26 3,
 mt 2 26]
 .ret)))))⟩
theorem ZE:aC Tryz.prog 156 XU=true:=by kernel_rfl
def Y4:Fn:=⟨19,0,[.tmp 4],
 (.sr [mc 4 (.int .i64 0)]
 (.seq
 (.sr [mv 6 0,
 ii 7 .len [.t 6],
 ii 8 (.mov false) [cI 0]]
 (.block 0
 (.loop [4,5,6,9,10,11,12,13,14,15,16,17,18] []
 (.sr [b2 9 .lss 8 7]
 (.seq
 (.cond (.t 9)
 .skip
 (.exit 0))
 (.seq
 (.block 1
 (.sr [mv 10 8,
 mt 5 10]
 (.sr [mv 11 1,
 mv 12 0,
 mv 13 5,
 ii 14 (.iad 1) [.t 12,.t 13],
 ld 15 14,
 b2 16 .eql 11 15]
 (.cond (.t 16)
 (.sr [mv 17 5,
 mt 4 17]
 .ret)
 .skip))))
 (.reg [b1 18 .add 8 (.int .i64 1),
 mv 8 18])))))))
 (.sr [mc 4 (.int .i64 (-1))]
 .ret)))⟩
theorem ZO:aC Tryz.prog 159 Y4=true:=by kernel_rfl
def UK:Fn:=⟨9,0,[.tmp 4],
 (.sr [mc 4 (.bool false)]
 (.sr [mv 5 0,
 mv 6 1,
 ii 7 (.call 138) [.t 5,.t 6],
 b1 8 .geq 7 (.int .i64 0),
 mt 4 8]
 .ret))⟩
theorem ZU:aC Tryz.prog 178 UK=true:=by kernel_rfl
def VI:Fn:=⟨6,0,[.tmp 2],
 (.sr [mc 2 (.bool false)]
 (.sr [mv 3 0,
 ii 4 (.call 136) [.t 3],
 ii 5 (.un .not) [.t 4],
 mt 2 5]
 .ret))⟩
theorem a1O:aC Tryz.prog 179 VI=true:=by kernel_rfl
def WQ:Fn:=⟨8,0,[.tmp 2],
 (.sr [ii 2 (.mov true) [.c (.ow 3 true [])]]
 (.seq
 (.sr [mv 3 0,
 ii 4 (.eqnil false) [.t 3,.c (.ow 3 true [])]]
 (.cond (.t 4)
 (.sr [ii 2 (.mov true) [.c (.ow 3 true [])]]
 .ret)
 .skip))
 (.sr [ii 5 (.bsl 3 0) [],
 mv 6 0,
 ii 7 (.app 3 24) [.t 5,.t 6],
 mt 2 7]
 .ret)))⟩
theorem Z4:aC Tryz.prog 181 WQ=true:=by kernel_rfl
def VX:Fn:=⟨39,0,[.tmp 4],
 (.sr [mc 4 (.atom (.pointer none))]
 (.seq
 (.sr [mv 5 0,
 ii 6 (.ob (.eqp false)) [.t 5,.c (.p (.atom (.pointer none)))],
 mt 7 6,
 gf 8 7 (.mov false) [.t 1],
 gf 9 7 (.bin .lss) [.t 8,cI 1],
 ii 10 .pick [.t 7,.c (.p (.bool true)),.t 9],
 mt 11 10,
 gf 12 11 (.mov false) [.t 1],
 gf 13 11 (.mov false) [.t 0],
 gf 14 11 .nilchk [.t 13],
 gf 15 11 (.fad 0) [.t 14],
 gf 16 11 (.load 1 false false) [.t 15],
 gf 17 11 .len [.t 16],
 gf 18 11 (.bin .gtr) [.t 12,.t 17],
 ii 19 .pick [.t 11,.c (.p (.bool true)),.t 18],
 mt 20 19,
 gf 21 20 (.mov false) [.t 0],
 gf 22 20 .nilchk [.t 21],
 gf 23 20 (.fad 0) [.t 22],
 gf 24 20 (.load 1 false false) [.t 23],
 gf 25 20 (.mov false) [.t 1],
 gf 26 20 (.bin .sub) [.t 25,cI 1],
 gf 27 20 (.iad 7) [.t 24,.t 26],
 gf 28 20 (.fad 6) [.t 27],
 gf 29 20 (.load 1 false false) [.t 28],
 gf 30 20 (.un .not) [.t 29],
 ii 31 .pick [.t 20,.c (.p (.bool true)),.t 30]]
 (.cond (.t 31)
 (.sr [mc 4 (.atom (.pointer none))]
 .ret)
 .skip))
 (.sr [mt 32 0,
 ii 33 .nilchk [.t 32],
 fa 34 0 33,
 ld 35 34,
 mt 36 1,
 b1 37 .sub 36 (.int .i64 1),
 ii 38 (.iad 7) [.t 35,.t 37],
 mt 4 38]
 .ret)))⟩
theorem ZW:aC Tryz.prog 182 VX=true:=by kernel_rfl
open Go.RowKit
def F75:Fn:=⟨109,1,[.tmp 0],
 (.sr [mc 0 (.bool false)]
 (.sr [⟨some 11,none,.build [.int .i64 0,.int .i64 0,.int .i64 0,.int .i64 0,.sl 1 true []] [(0,1)],[cI 1]⟩,
 ii 12 (.ob (.callo 101 true)) [.t 11],
 mt 1 12]
 (.seq
 (.sr [mv 13 1,
 ii 14 (.ob (.eqp false)) [.t 13,.c (.p (.atom (.pointer none)))],
 mv 15 14,
 ⟨some 16,(some (15,false)),.build [.int .i64 0,.int .i64 0,.int .i64 0,.int .i64 0,.sl 1 true []] [],[]⟩,
 gf 17 15 (.ob (.callo 101 true)) [.t 16],
 gf 18 15 (.ob (.eqp true)) [.t 17,.c (.p (.atom (.pointer none)))],
 ii 19 .pick [.t 15,.c (.p (.bool true)),.t 18]]
 (.cond (.t 19)
 (.sr [mc 0 (.bool false)]
 .ret)
 .skip))
 (.sr [mv 21 1,
 ⟨some 22,none,.build [.int .i64 0,.int .i64 0,.int .i64 0,.sl 3 true []] [(0,1),(1,1),(2,1)],[cI 3,cI 5,cI 6]⟩,
 ii 23 (.ob (.callo 102 false)) [.t 21,.t 22],
 mv 20 23,
 ii 24 (.ext 0) [.t 20],
 ii 25 (.ext 1) [.t 20],
 mt 2 24,
 mt 3 25]
 (.sr [mv 27 1,
 ⟨some 28,none,.build [.int .i64 0,.int .i64 0,.int .i64 0,.sl 3 true []] [(0,1),(1,1),(2,1)],[cI 4,cI 6,cI 6]⟩,
 ii 29 (.ob (.callo 102 false)) [.t 27,.t 28],
 mv 26 29,
 ii 30 (.ext 0) [.t 26],
 ii 31 (.ext 1) [.t 26],
 mt 4 30,
 mt 5 31]
 (.sr [mv 33 1,
 ⟨some 34,none,.build [.int .i64 0,.int .i64 0,.int .i64 0,.sl 3 true []] [],[]⟩,
 ii 35 (.ob (.callo 102 false)) [.t 33,.t 34],
 mv 32 35,
 ii 36 (.ext 0) [.t 32],
 ii 37 (.ext 1) [.t 32],
 mt 6 36,
 mt 7 37]
 (.seq
 (.gp (.reg [mv 39 1,
 ii 40 (.ob (.callo 103 false)) [.t 39,cI 1],
 mv 38 40,
 ii 41 (.ext 0) [.t 38],
 ii 42 (.ext 1) [.t 38],
 ⟨some 8,none,.alloc 0 2 [Z0,.ow 4 true []],[]⟩,
 ⟨none,none,.store 2,[.t 8,.t 41]⟩,
 mt 9 42]) (.lay 0 2))
 (.sr [mv 43 1,
 ii 44 (.ob (.callo 104 false)) [.t 43,cI 0],
 mt 10 44]
 (.sr [ii 45 (.call 105) [],
 mv 46 45,
 gt 47 46 (.mov false) [.t 2],
 gt 48 46 (.bin .eql) [.t 47,cI 1],
 ii 49 .pick [.t 46,.t 48,.c (.p (.bool false))],
 mv 50 49,
 gt 51 50 (.mov false) [.t 3],
 gt 52 50 (.bin .eql) [.t 51,cI 0],
 ii 53 .pick [.t 50,.t 52,.c (.p (.bool false))],
 mv 54 53,
 gt 55 54 (.mov false) [.t 5],
 gt 56 54 (.bin .eql) [.t 55,cI 7],
 ii 57 .pick [.t 54,.t 56,.c (.p (.bool false))],
 mv 58 57,
 gt 59 58 (.mov false) [.t 7],
 gt 60 58 (.bin .eql) [.t 59,cI 1],
 ii 61 .pick [.t 58,.t 60,.c (.p (.bool false))],
 mv 62 61,
 gt 63 62 (.mov false) [.t 9],
 ii 64 .pick [.t 62,.t 63,.c (.p (.bool false))],
 mv 65 64,
 gt 66 65 (.fad 0) [.t 8],
 gt 67 65 (.load 1 false false) [.t 66],
 gt 68 65 (.bin .eql) [.t 67,cI 1],
 ii 69 .pick [.t 65,.t 68,.c (.p (.bool false))],
 mv 70 69,
 gt 71 70 (.mov false) [.t 10],
 gt 72 70 .len [.t 71],
 gt 73 70 (.bin .eql) [.t 72,cI 1],
 ii 74 .pick [.t 70,.t 73,.c (.p (.bool false))],
 mv 75 74,
 gt 76 75 (.mov false) [.t 10],
 gt 77 75 (.iad 3) [.t 76,cI 0],
 gt 78 75 (.fad 0) [.t 77],
 gt 79 75 (.load 1 false false) [.t 78],
 gt 80 75 (.bin .eql) [.t 79,cI 3],
 ii 81 .pick [.t 75,.t 80,.c (.p (.bool false))],
 mv 82 81,
 gt 83 82 (.mov false) [.t 1],
 gt 84 82 (.ob (.callo 106 false)) [.t 83],
 gt 85 82 .len [.t 84],
 gt 86 82 (.bin .eql) [.t 85,cI 1],
 ii 87 .pick [.t 82,.t 86,.c (.p (.bool false))],
 mv 88 87,
 gt 89 88 (.mov false) [.t 1],
 gt 90 88 (.ob (.callo 107 false)) [.t 89,cI 1],
 gt 91 88 (.bin .eql) [.t 90,cI 0],
 ii 92 .pick [.t 88,.t 91,.c (.p (.bool false))],
 mv 93 92,
 gt 94 93 (.mov false) [.t 1],
 gt 95 93 (.ob (.callo 107 false)) [.t 94,cI 1],
 gt 96 93 (.bin .eql) [.t 95,cI 4],
 ii 97 .pick [.t 93,.t 96,.c (.p (.bool false))],
 mv 98 97,
 gt 99 98 (.mov false) [.t 1],
 gt 100 98 (.ob (.callo 104 false)) [.t 99,cI 0],
 gt 101 98 .len [.t 100],
 gt 102 98 (.bin .eql) [.t 101,cI 0],
 ii 103 .pick [.t 98,.t 102,.c (.p (.bool false))],
 mv 104 103,
 gt 105 104 (.mov false) [.t 1],
 gt 106 104 (.ob (.callo 108 false)) [.t 105,cI 1,cI 0],
 gt 107 104 (.bin .eql) [.t 106,cI 0],
 ii 108 .pick [.t 104,.t 107,.c (.p (.bool false))],
 mt 0 108]
 .ret)))))))))⟩
theorem k75:aC Tryz.prog 75 F75=true:=by kernel_rfl
end Go.Proofs.YtnjphclbpgajpaaGreatDoor.Vc
