/- Part of a proof over a Go program: Beg2. No condition. -/
import Derived.Test.YtoepoghmeajocaaGreatDoorQ14
set_option linter.unnecessarySimpa false
set_option linter.unusedSectionVars false
set_option linter.unusedSimpArgs false
set_option linter.unusedVariables false
set_option maxRecDepth 1000000
namespace Go.Proofs.YtoepoghmeajocaaGreatDoor.Vc
open Go.RowKit
def tblO : Tbl := (25, F25) :: (14, F14) :: (60, F60) :: (26, F26) :: (27, F27) :: (28, F28) :: (29, F29) :: (31, F31) :: (33, F33) :: (35, F35) :: (39, F39) :: (41, F41) :: (61, F61) :: (62, F62) :: (63, F63) :: (64, F64) :: (65, F65) :: (67, F67) :: (68, F68) :: (69, F69) :: (70, F70) :: (71, F71) :: (72, F72) :: (77, F77) :: (108, F108) :: (109, F109) :: (111, F111) :: (112, F112) :: tblP
theorem tblO_ok : TblOK Tryz.prog tblO := .cons k25 <| .cons k14 <| .cons k60 <| .cons k26 <| .cons k27 <| .cons k28 <| .cons k29 <| .cons k31 <| .cons k33 <| .cons k35 <| .cons k39 <| .cons k41 <| .cons k61 <| .cons k62 <| .cons k63 <| .cons k64 <| .cons k65 <| .cons k67 <| .cons k68 <| .cons k69 <| .cons k70 <| .cons k71 <| .cons k72 <| .cons k77 <| .cons k108 <| .cons k109 <| .cons k111 <| .cons k112 <| tblP_ok
def envR (zs : List Nat) (n : Nat) : Env := runE (extQ zs) noO (Tbl.del zs tblO) n
theorem envR_ok {zs : List Nat} (h : ∀ z, z ∈ zs → PureCall Tryz.prog z [] (.p (.bool true))) (n : Nat) : (envR zs n).OK Tryz.prog := runE_ok (extQ_ok h) noO_ok (tblO_ok.del zs)
theorem begunR : PureCall Tryz.prog 25 [] (.p (.bool true)) := (envR_ok (zs := [15]) (fun z hz => by simp at hz; subst hz; exact begun18) 100).call 25 [] (.p (.bool true)) (by kernel_rfl)
theorem noneR : PureCall Tryz.prog 14 [] (.p (.bool true)) := (envR_ok (zs := [25]) (fun z hz => by simp at hz; subst hz; exact begunR) 100).call 14 [] (.p (.bool true)) (by kernel_rfl)
end Go.Proofs.YtoepoghmeajocaaGreatDoor.Vc
