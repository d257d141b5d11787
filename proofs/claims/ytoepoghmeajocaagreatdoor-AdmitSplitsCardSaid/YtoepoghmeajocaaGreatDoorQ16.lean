/- Part of a proof over a Go program: Beg2, Fs, Ls8a, Ls8b. No condition. -/
import Derived.Test.YtoepoghmeajocaaGreatDoorQ15
import Derived.Test.YtoepoghmeajocaaGreatDoorQ10
import Derived.Test.YtoepoghmeajocaaGreatDoorProg
set_option linter.unnecessarySimpa false
set_option linter.unusedSectionVars false
set_option linter.unusedSimpArgs false
set_option linter.unusedVariables false
set_option maxRecDepth 1000000
namespace Go.Proofs.YtoepoghmeajocaaGreatDoor.Vc
open Go.RowKit
def tblO : Tbl := (25, F25) :: (14, F14) :: (60, F60) :: (26, F26) :: (27, F27) :: (28, F28) :: (29, F29) :: (31, F31) :: (33, F33) :: (35, F35) :: (39, F39) :: (41, F41) :: (61, F61) :: (62, F62) :: (63, F63) :: (64, F64) :: (65, F65) :: (67, F67) :: (68, F68) :: (69, F69) :: (70, F70) :: (71, F71) :: (72, F72) :: (77, F77) :: (108, F108) :: (109, F109) :: (111, F111) :: (112, F112) :: tblP
theorem tblO_ok : TblOK Tryz.prog tblO := .cons k25 <| .cons k14 <| .cons k60 <| .cons k26 <| .cons k27 <| .cons k28 <| .cons k29 <| .cons k31 <| .cons k33 <| .cons k35 <| .cons k39 <| .cons k41 <| .cons k61 <| .cons k62 <| .cons k63 <| .cons k64 <| .cons k65 <| .cons k67 <| .cons k68 <| .cons k69 <| .cons k70 <| .cons k71 <| .cons k72 <| .cons k77 <| .cons k108 <| .cons k109 <| .cons k111 <| .cons k112 <| tblP_ok
def envR (zs : List Nat) (n : Nat) : Env := runE (extQ zs) noO (Tbl.del zs tblO) n
theorem envR_ok {zs : List Nat} (h : ∀ z, z ∈ zs → PureCall Tryz.prog z [] (.p (.bool true))) (n : Nat) : (envR zs n).OK Tryz.prog := runE_ok (extQ_ok h) noO_ok (tblO_ok.del zs)
theorem begunR : PureCall Tryz.prog 25 [] (.p (.bool true)) := (envR_ok (zs := [15]) (fun z hz => by simp at hz; subst hz; exact begun18) 100).call 25 [] (.p (.bool true)) (by kernel_rfl)
end Go.Proofs.YtoepoghmeajocaaGreatDoor.Vc
namespace Go.Proofs.YtoepoghmeajocaaGreatDoor.Vc
open Go.RowKit
def Q8 : C := (.seq (.reg [mv 28 0,
 mv 29 1,
 mv 30 2,
 ⟨some 31, none, .build [.int .i64 0, .int .i64 0, .int .i64 0, .int .i64 0, .sl 1 true []] [(0, 1), (2, 1), (3, 1)], [.t 28, .t 29, .t 30]⟩,
 ii 32 (.ob (.callo 26 true)) [.t 31],
 mt 8 32]) (.seq (.seq
 (.reg [mc 9 (.int .i64 1)])
 (.block 0
 (.loop [1, 6, 7, 10, 11, 12, 13, 14, 15, 16, 17, 18, 19, 20, 21, 22, 23, 24, 25, 26, 27, 28, 29, 30, 31, 32, 33, 34, 35, 36, 37, 38, 39, 40, 41, 42, 43, 44, 45, 46, 47, 48, 49, 50, 51, 52, 53, 54, 55, 56, 57, 58, 59, 60, 61, 62, 63, 64, 65, 66, 67, 68, 69, 70, 71, 72, 73, 74, 75, 76, 77, 78, 79, 80, 81, 82, 83, 84, 85, 86, 87, 88, 89, 90, 91, 92, 93, 94, 95, 96, 97, 98, 99] []
 (.seq
 (.seq
 (.reg [mv 33 9,
 mv 34 0,
 b2 35 .leq 33 34])
 (.cond (.t 35)
 .skip
 (.exit 0)))
 (.seq
 (.block 1
 (.seq
 (.reg [mv 39 8,
 ⟨some 40, none, .build [.int .i64 0, .int .i64 0, .int .i64 0, .sl 3 true []] [(0, 1), (1, 1), (2, 1)], [.c (.p (.int .i64 60)), .c (.p (.int .i64 100)), .c (.p (.int .i64 100))]⟩,
 ii 41 (.ob (.callo 27 false)) [.t 39, .t 40],
 mv 38 41,
 ii 42 (.ext 0) [.t 38],
 ii 43 (.ext 1) [.t 38],
 mt 10 42,
 mt 11 43])
 (.seq
 (.reg [mv 44 10,
 mv 45 9,
 b2 46 .neq 44 45,
 mv 47 46,
 gf 48 47 (.mov false) [.t 11],
 gf 49 47 (.bin .neq) [.t 48, .c (.p (.int .i64 0))],
 ii 50 .pick [.t 47, .c (.p (.bool true)), .t 49]])
 (.cond (.t 50)
 (.seq
 (.reg [mc 6 (.bool false)])
 .ret)
 .skip))))
 (.reg [mv 36 9,
 b1 37 .add 36 (.int .i64 1),
 mt 9 37])))))) (.seq (.reg [mv 52 8,
 ⟨some 53, none, .build [.int .i64 0, .int .i64 0, .int .i64 0, .sl 3 true []] [(0, 1), (1, 1), (2, 1)], [.c (.p (.int .i64 60)), .c (.p (.int .i64 100)), .c (.p (.int .i64 100))]⟩,
 ii 54 (.ob (.callo 27 false)) [.t 52, .t 53],
 mv 51 54,
 ii 55 (.ext 0) [.t 51],
 ii 56 (.ext 1) [.t 51],
 mt 12 55,
 mt 13 56]) (.seq (.seq
 (.reg [mv 57 13,
 b1 58 .neq 57 (.int .i64 0),
 mv 59 58,
 gf 60 59 (.mov false) [.t 12],
 gf 61 59 (.mov false) [.t 0],
 gf 62 59 (.bin .add) [.t 61, .c (.p (.int .i64 1))],
 gf 63 59 (.bin .neq) [.t 60, .t 62],
 ii 64 .pick [.t 59, .c (.p (.bool true)), .t 63]])
 (.cond (.t 64)
 (.seq
 (.reg [mc 6 (.bool false)])
 .ret)
 .skip)) (.seq (.reg [mv 66 8,
 mv 67 12,
 ii 68 (.ob (.callo 28 false)) [.t 66, .t 67],
 mv 65 68,
 ii 69 (.ext 0) [.t 65],
 ii 70 (.ext 1) [.t 65],
 ⟨some 14, none, .alloc 0 2 [.p (.int .i64 0), .ow 4 true []], []⟩,
 ⟨none, none, .store 2, [.t 14, .t 69]⟩,
 mt 15 70]) (.seq (.regd [mv 71 15,
 mv 72 71,
 gt 73 72 (.fad 0) [.t 14],
 gt 74 72 (.at 0 (.load 1 false false)) [.t 73],
 gt 75 72 (.bin .eql) [.t 74, .c (.p (.int .i64 2))],
 gt 76 72 (.mov false) [.t 75],
 gf 77 76 (.fad 0) [.t 14],
 gf 78 76 (.at 0 (.load 1 false false)) [.t 77],
 gf 79 76 (.bin .eql) [.t 78, .c (.p (.int .i64 3))],
 gt 80 72 .pick [.t 76, .c (.p (.bool true)), .t 79],
 ii 81 .pick [.t 72, .t 80, .c (.p (.bool false))],
 mv 82 81,
 gt 83 82 (.fad 1) [.t 14],
 gt 84 82 (.at 0 (.load 1 false false)) [.t 83],
 gt 85 82 .lenD [.t 84],
 gt 86 82 (.bin .geq) [.t 85, .c (.p (.int .i64 2))],
 ii 87 .pick [.t 82, .t 86, .c (.p (.bool false))],
 mv 88 87,
 gt 89 88 (.at 0 (.load 2 true false)) [.t 14],
 gt 90 88 (.pl (.call 34)) [.t 89],
 gt 91 88 (.fad 1) [.t 14],
 gt 92 88 (.at 0 (.load 1 false false)) [.t 91],
 gt 93 88 .lenD [.t 92],
 gt 94 88 (.bin .sub) [.t 93, .c (.p (.int .i64 1))],
 gt 95 88 (.mov false) [.t 2],
 gt 96 88 (.bin .mul) [.t 94, .t 95],
 gt 97 88 (.bin .add) [.c (.p (.int .i64 60)), .t 96],
 gt 98 88 (.bin .eql) [.t 90, .t 97],
 ii 99 .pick [.t 88, .t 98, .c (.p (.bool false))],
 mt 6 99]) .ret))))))
@[irreducible] def R8 : C := .pre [6, 7, 16, 17, 18, 19, 20, 21, 22, 23, 24, 25, 26, 27] [] [] Q8
def F8 : Fn := ⟨100, 1, [.tmp 6],
 (.seq (.reg [mc 6 (.bool false)]) (.seq (.reg [ii 16 (.call 25) [],
 mt 7 16]) (.seq (.seq
 (.reg [mv 17 7,
 ii 18 (.un .not) [.t 17]])
 (.cond (.t 18)
 (.seq
 (.reg [mc 6 (.bool false)])
 .ret)
 .skip)) (.seq (.reg [mv 19 0,
 b1 20 .rem 19 (.int .i64 5),
 b1 21 .add 20 (.int .i64 5),
 b1 22 .rem 21 (.int .i64 5),
 ii 23 (.bin .add) [.c (.p (.int .i64 2)), .t 22],
 mt 0 23]) (.seq (.reg [mv 24 1,
 b1 25 .and 24 (.int .i64 3),
 mv 26 2,
 b1 27 .and 26 (.int .i64 1),
 mt 1 25,
 mt 2 27]) R8)))))⟩
theorem k8 : chkF Tryz.prog 8 F8 = true := by kernel_rfl
end Go.Proofs.YtoepoghmeajocaaGreatDoor.Vc
namespace Go.Proofs.YtoepoghmeajocaaGreatDoor.Vc
open Go.RowKit
/-- What a run gives. -/
def outR (rv : List RV) (s : St) : Option DV := retsR s rv fun xs => dvF (resOf xs) some
theorem outR_ok {F : Fn} {s : St} {r : DV} (h : outR F.rv s = some r) : F.post r s := by
  unfold outR at h
  exact retsR_ok (d := r) (fun x hx => by rw [dvF_eq] at hx; exact Option.some.inj hx) h
theorem run_post {E : Env} (hE : E.OK Tryz.prog) {n : Nat} {F : Fn} {c : C} {s : St} {r : DV} (h : runC E n c s (outR F.rv) (fun _ _ => none) (outR F.rv) = some r) : vc Tryz.prog c s (F.post r) (fun _ _ => False) (F.post r) :=
  runC_ok hE (fun _ h => outR_ok h) (fun _ _ h => by cases h) (fun _ h => outR_ok h) h
/-- Of the laws' beginning no run asks more. -/
noncomputable def envS : Env := envR [25] 100
theorem envS_ok : envS.OK Tryz.prog := envR_ok (zs := [25]) (fun z hz => by simp at hz; subst hz; exact begunR) 100
def s8 (c a b : Int) : St := ⟨.p (.int .i64 c) :: .p (.int .i64 a) :: .p (.int .i64 b) :: List.replicate 97 .top, [none]⟩
end Go.Proofs.YtoepoghmeajocaaGreatDoor.Vc
namespace Go.Proofs.YtoepoghmeajocaaGreatDoor.Vc
open Go.RowKit
def cfB (c a b : Int) (old : Bool) : Box := ⟨true, 6, [[.p (.int .i64 c), .p (.int .i64 0), .p (.int .i64 a), .p (.int .i64 b), .p (.sl 1 true []), .addr 1 1 0 0]], old⟩
def seB (old : Bool) : Box := ⟨true, 1, [[.bs 2 7 true 0 12]], old⟩
def empS : List DV := [.p (.int .i64 0), .p (.int .i64 0), .p (.int .i64 0), .p (.sl 3 true []), .p (.int .i64 0), .p (.sl 4 true []), .p (.bool false)]
/-- A seat: a task without sections, whole on core k. -/
def wholeS (C D T : Int) (k : Nat) : List DV := [.p (.int .i64 C), .p (.int .i64 D), .p (.int .i64 T), .p (.sl 3 true []), .p (.int .i64 1), .p (.sl 4 false [.agg [.int .i64 k, .int .i64 0, .int .i64 D, .int .i64 C]]), .p (.bool true)]
def rowsS (f : Nat → List DV) (j : Nat) : Nat → List (List DV)
  | 0 => []
  | n + 1 => (bif Nat.blt (12 - (n + 1)) j then f (12 - (n + 1)) else empS) :: rowsS f j n
def boxS (c a b : Int) (f : Nat → List DV) (j : Nat) (old : Bool) : List Box := [cfB c a b old, seB old, ⟨true, 7, rowsS f j 12, old⟩]
def somes : List Box → List (Option Box)
  | [] => []
  | x :: l => some x :: somes l
def tk8 : PV := .agg [.int .i64 60, .int .i64 100, .int .i64 100, .sl 3 true []]
def st8 (c a b : Int) (j : Nat) (old : Bool) : List Box := boxS c a b (wholeS 60 100 100) j old
/-- One more is let in. -/
def Adds8 (c a b : Int) (j : Nat) : Prop := envS.callO 27 [.addr 0 6 0 0, .p tk8] (st8 c a b j true) = some (somes (st8 c a b (j + 1) false), .tup [.p (.int .i64 (j + 1 : Nat)), .p (.int .i64 0)])
end Go.Proofs.YtoepoghmeajocaaGreatDoor.Vc
