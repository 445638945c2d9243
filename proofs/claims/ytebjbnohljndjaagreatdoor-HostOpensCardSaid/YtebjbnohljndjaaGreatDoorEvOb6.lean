/-
  Runs: a host begins.
-/
import Derived.Test.YtebjbnohljndjaaGreatDoorEvOa
set_option linter.unusedVariables false
set_option linter.unusedSimpArgs false
namespace Go.Proofs.YtebjbnohljndjaaGreatDoor
open Go Go.RowKit Go.Ev Go.Proofs
set_option maxRecDepth 1000000 in
theorem runR_aLaL_12 : runR aL aL [49, 50, 51, 52] = true := by kernel_rfl
set_option maxRecDepth 1000000 in
theorem runR_aLaL_13 : runR aL aL [53, 54, 55, 56] = true := by kernel_rfl
set_option maxRecDepth 1000000 in
theorem runR_aLaL_14 : runR aL aL [57, 58, 59, 60] = true := by kernel_rfl
set_option maxRecDepth 1000000 in
theorem runR_aLaL_15 : runR aL aL [61, 62, 63, 64] = true := by kernel_rfl
end Go.Proofs.YtebjbnohljndjaaGreatDoor
