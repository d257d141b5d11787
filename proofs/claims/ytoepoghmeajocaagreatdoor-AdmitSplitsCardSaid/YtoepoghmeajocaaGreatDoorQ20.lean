/- Part of a proof over a Go program: Ls8c31. No condition. -/
import Derived.Test.YtoepoghmeajocaaGreatDoorQ16
set_option linter.unnecessarySimpa false
set_option linter.unusedSectionVars false
set_option linter.unusedSimpArgs false
set_option linter.unusedVariables false
set_option maxRecDepth 1000000
namespace Go.Proofs.YtoepoghmeajocaaGreatDoor.Vc
open Go.RowKit
theorem ad8_3_0_0_1 : Adds8 3 0 0 1 := by unfold Adds8; kernel_rfl
theorem ad8_3_0_1_1 : Adds8 3 0 1 1 := by unfold Adds8; kernel_rfl
theorem ad8_3_1_0_1 : Adds8 3 1 0 1 := by unfold Adds8; kernel_rfl
theorem ad8_3_1_1_1 : Adds8 3 1 1 1 := by unfold Adds8; kernel_rfl
theorem ad8_3_2_0_1 : Adds8 3 2 0 1 := by unfold Adds8; kernel_rfl
theorem ad8_3_2_1_1 : Adds8 3 2 1 1 := by unfold Adds8; kernel_rfl
theorem ad8_3_3_0_1 : Adds8 3 3 0 1 := by unfold Adds8; kernel_rfl
theorem ad8_3_3_1_1 : Adds8 3 3 1 1 := by unfold Adds8; kernel_rfl
end Go.Proofs.YtoepoghmeajocaaGreatDoor.Vc
