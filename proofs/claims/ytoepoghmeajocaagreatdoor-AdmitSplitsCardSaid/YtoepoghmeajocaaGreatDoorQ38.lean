/- Part of a proof over a Go program: Ls8e2. No condition. -/
import Derived.Test.YtoepoghmeajocaaGreatDoorQ37
set_option linter.unnecessarySimpa false
set_option linter.unusedSectionVars false
set_option linter.unusedSimpArgs false
set_option linter.unusedVariables false
set_option maxRecDepth 1000000
namespace Go.Proofs.YtoepoghmeajocaaGreatDoor.Vc
open Go.RowKit
theorem en8_2_0_0 : runC (envL 2 0 0 2) 100 Q8 (s8 2 0 0) (outR F8.rv) (fun _ _ => none) (outR F8.rv) = some (.p (.bool true)) := by kernel_rfl
theorem en8_2_0_1 : runC (envL 2 0 1 2) 100 Q8 (s8 2 0 1) (outR F8.rv) (fun _ _ => none) (outR F8.rv) = some (.p (.bool true)) := by kernel_rfl
theorem en8_2_1_0 : runC (envL 2 1 0 2) 100 Q8 (s8 2 1 0) (outR F8.rv) (fun _ _ => none) (outR F8.rv) = some (.p (.bool true)) := by kernel_rfl
theorem en8_2_1_1 : runC (envL 2 1 1 2) 100 Q8 (s8 2 1 1) (outR F8.rv) (fun _ _ => none) (outR F8.rv) = some (.p (.bool true)) := by kernel_rfl
theorem en8_2_2_0 : runC (envL 2 2 0 2) 100 Q8 (s8 2 2 0) (outR F8.rv) (fun _ _ => none) (outR F8.rv) = some (.p (.bool true)) := by kernel_rfl
theorem en8_2_2_1 : runC (envL 2 2 1 2) 100 Q8 (s8 2 2 1) (outR F8.rv) (fun _ _ => none) (outR F8.rv) = some (.p (.bool true)) := by kernel_rfl
theorem en8_2_3_0 : runC (envL 2 3 0 2) 100 Q8 (s8 2 3 0) (outR F8.rv) (fun _ _ => none) (outR F8.rv) = some (.p (.bool true)) := by kernel_rfl
theorem en8_2_3_1 : runC (envL 2 3 1 2) 100 Q8 (s8 2 3 1) (outR F8.rv) (fun _ _ => none) (outR F8.rv) = some (.p (.bool true)) := by kernel_rfl
end Go.Proofs.YtoepoghmeajocaaGreatDoor.Vc
