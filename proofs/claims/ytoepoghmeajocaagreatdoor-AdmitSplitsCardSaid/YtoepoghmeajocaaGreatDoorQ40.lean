/- Part of a proof over a Go program: Ls8e4. No condition. -/
import Derived.Test.YtoepoghmeajocaaGreatDoorQ37
set_option linter.unnecessarySimpa false
set_option linter.unusedSectionVars false
set_option linter.unusedSimpArgs false
set_option linter.unusedVariables false
set_option maxRecDepth 1000000
namespace Go.Proofs.YtoepoghmeajocaaGreatDoor.Vc
open Go.RowKit
theorem en8_4_0_0 : runC (envL 4 0 0 4) 100 Q8 (s8 4 0 0) (outR F8.rv) (fun _ _ => none) (outR F8.rv) = some (.p (.bool true)) := by kernel_rfl
theorem en8_4_0_1 : runC (envL 4 0 1 4) 100 Q8 (s8 4 0 1) (outR F8.rv) (fun _ _ => none) (outR F8.rv) = some (.p (.bool true)) := by kernel_rfl
theorem en8_4_1_0 : runC (envL 4 1 0 4) 100 Q8 (s8 4 1 0) (outR F8.rv) (fun _ _ => none) (outR F8.rv) = some (.p (.bool true)) := by kernel_rfl
theorem en8_4_1_1 : runC (envL 4 1 1 4) 100 Q8 (s8 4 1 1) (outR F8.rv) (fun _ _ => none) (outR F8.rv) = some (.p (.bool true)) := by kernel_rfl
theorem en8_4_2_0 : runC (envL 4 2 0 4) 100 Q8 (s8 4 2 0) (outR F8.rv) (fun _ _ => none) (outR F8.rv) = some (.p (.bool true)) := by kernel_rfl
theorem en8_4_2_1 : runC (envL 4 2 1 4) 100 Q8 (s8 4 2 1) (outR F8.rv) (fun _ _ => none) (outR F8.rv) = some (.p (.bool true)) := by kernel_rfl
theorem en8_4_3_0 : runC (envL 4 3 0 4) 100 Q8 (s8 4 3 0) (outR F8.rv) (fun _ _ => none) (outR F8.rv) = some (.p (.bool true)) := by kernel_rfl
theorem en8_4_3_1 : runC (envL 4 3 1 4) 100 Q8 (s8 4 3 1) (outR F8.rv) (fun _ _ => none) (outR F8.rv) = some (.p (.bool true)) := by kernel_rfl
end Go.Proofs.YtoepoghmeajocaaGreatDoor.Vc
