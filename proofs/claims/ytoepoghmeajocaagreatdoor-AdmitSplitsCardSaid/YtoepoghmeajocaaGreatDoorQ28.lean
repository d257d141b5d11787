/- Part of a proof over a Go program: Ls8c52. No condition. -/
import Derived.Test.YtoepoghmeajocaaGreatDoorQ16
set_option linter.unnecessarySimpa false
set_option linter.unusedSectionVars false
set_option linter.unusedSimpArgs false
set_option linter.unusedVariables false
set_option maxRecDepth 1000000
namespace Go.Proofs.YtoepoghmeajocaaGreatDoor.Vc
open Go.RowKit
theorem ad8_5_0_0_2 : Adds8 5 0 0 2 := by unfold Adds8; kernel_rfl
theorem ad8_5_0_1_2 : Adds8 5 0 1 2 := by unfold Adds8; kernel_rfl
theorem ad8_5_1_0_2 : Adds8 5 1 0 2 := by unfold Adds8; kernel_rfl
theorem ad8_5_1_1_2 : Adds8 5 1 1 2 := by unfold Adds8; kernel_rfl
theorem ad8_5_2_0_2 : Adds8 5 2 0 2 := by unfold Adds8; kernel_rfl
theorem ad8_5_2_1_2 : Adds8 5 2 1 2 := by unfold Adds8; kernel_rfl
theorem ad8_5_3_0_2 : Adds8 5 3 0 2 := by unfold Adds8; kernel_rfl
theorem ad8_5_3_1_2 : Adds8 5 3 1 2 := by unfold Adds8; kernel_rfl
end Go.Proofs.YtoepoghmeajocaaGreatDoor.Vc
