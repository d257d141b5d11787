/- Part of a proof over a Go program: Ls8e3. No condition. -/
import Derived.Test.YtoepoghmeajocaaGreatDoorQ37
set_option linter.unnecessarySimpa false
set_option linter.unusedSectionVars false
set_option linter.unusedSimpArgs false
set_option linter.unusedVariables false
set_option maxRecDepth 1000000
namespace Go.Proofs.YtoepoghmeajocaaGreatDoor.Vc
open Go.RowKit
theorem en8_3_0_0 : runC (envL 3 0 0 3) 100 Q8 (s8 3 0 0) (outR F8.rv) (fun _ _ => none) (outR F8.rv) = some (.p (.bool true)) := by kernel_rfl
theorem en8_3_0_1 : runC (envL 3 0 1 3) 100 Q8 (s8 3 0 1) (outR F8.rv) (fun _ _ => none) (outR F8.rv) = some (.p (.bool true)) := by kernel_rfl
theorem en8_3_1_0 : runC (envL 3 1 0 3) 100 Q8 (s8 3 1 0) (outR F8.rv) (fun _ _ => none) (outR F8.rv) = some (.p (.bool true)) := by kernel_rfl
theorem en8_3_1_1 : runC (envL 3 1 1 3) 100 Q8 (s8 3 1 1) (outR F8.rv) (fun _ _ => none) (outR F8.rv) = some (.p (.bool true)) := by kernel_rfl
theorem en8_3_2_0 : runC (envL 3 2 0 3) 100 Q8 (s8 3 2 0) (outR F8.rv) (fun _ _ => none) (outR F8.rv) = some (.p (.bool true)) := by kernel_rfl
theorem en8_3_2_1 : runC (envL 3 2 1 3) 100 Q8 (s8 3 2 1) (outR F8.rv) (fun _ _ => none) (outR F8.rv) = some (.p (.bool true)) := by kernel_rfl
theorem en8_3_3_0 : runC (envL 3 3 0 3) 100 Q8 (s8 3 3 0) (outR F8.rv) (fun _ _ => none) (outR F8.rv) = some (.p (.bool true)) := by kernel_rfl
theorem en8_3_3_1 : runC (envL 3 3 1 3) 100 Q8 (s8 3 3 1) (outR F8.rv) (fun _ _ => none) (outR F8.rv) = some (.p (.bool true)) := by kernel_rfl
end Go.Proofs.YtoepoghmeajocaaGreatDoor.Vc
