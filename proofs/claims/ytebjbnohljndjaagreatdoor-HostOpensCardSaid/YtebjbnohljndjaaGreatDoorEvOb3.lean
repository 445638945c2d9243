/-
  Runs: a host begins.
-/
import Derived.Test.YtebjbnohljndjaaGreatDoorEvOa
set_option linter.unusedVariables false
set_option linter.unusedSimpArgs false
namespace Go.Proofs.YtebjbnohljndjaaGreatDoor
open Go Go.RowKit Go.Ev Go.Proofs
set_option maxRecDepth 1000000 in
theorem runR_aLaL_0 : runR aL aL [1, 2, 3, 4] = true := by kernel_rfl
set_option maxRecDepth 1000000 in
theorem runR_aLaL_1 : runR aL aL [5, 6, 7, 8] = true := by kernel_rfl
set_option maxRecDepth 1000000 in
theorem runR_aLaL_2 : runR aL aL [9, 10, 11, 12] = true := by kernel_rfl
set_option maxRecDepth 1000000 in
theorem runR_aLaL_3 : runR aL aL [13, 14, 15, 16] = true := by kernel_rfl
end Go.Proofs.YtebjbnohljndjaaGreatDoor
