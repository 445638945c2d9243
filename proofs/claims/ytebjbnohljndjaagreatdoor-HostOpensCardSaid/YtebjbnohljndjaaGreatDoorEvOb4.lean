/-
  Runs: a host begins.
-/
import Derived.Test.YtebjbnohljndjaaGreatDoorEvOa
set_option linter.unusedVariables false
set_option linter.unusedSimpArgs false
namespace Go.Proofs.YtebjbnohljndjaaGreatDoor
open Go Go.RowKit Go.Ev Go.Proofs
set_option maxRecDepth 1000000 in
theorem runR_aLaL_4 : runR aL aL [17, 18, 19, 20] = true := by kernel_rfl
set_option maxRecDepth 1000000 in
theorem runR_aLaL_5 : runR aL aL [21, 22, 23, 24] = true := by kernel_rfl
set_option maxRecDepth 1000000 in
theorem runR_aLaL_6 : runR aL aL [25, 26, 27, 28] = true := by kernel_rfl
set_option maxRecDepth 1000000 in
theorem runR_aLaL_7 : runR aL aL [29, 30, 31, 32] = true := by kernel_rfl
end Go.Proofs.YtebjbnohljndjaaGreatDoor
