/-
  Runs: a host begins.
-/
import Derived.Test.YtebjbnohljndjaaGreatDoorEvOa
set_option linter.unusedVariables false
set_option linter.unusedSimpArgs false
namespace Go.Proofs.YtebjbnohljndjaaGreatDoor
open Go Go.RowKit Go.Ev Go.Proofs
set_option maxRecDepth 1000000 in
theorem runR_aLaL_8 : runR aL aL [33, 34, 35, 36] = true := by kernel_rfl
set_option maxRecDepth 1000000 in
theorem runR_aLaL_9 : runR aL aL [37, 38, 39, 40] = true := by kernel_rfl
set_option maxRecDepth 1000000 in
theorem runR_aLaL_10 : runR aL aL [41, 42, 43, 44] = true := by kernel_rfl
set_option maxRecDepth 1000000 in
theorem runR_aLaL_11 : runR aL aL [45, 46, 47, 48] = true := by kernel_rfl
end Go.Proofs.YtebjbnohljndjaaGreatDoor
