/-
  Runs: settings that are refused.
-/
import Derived.Test.YtebjbnohljndjaaGreatDoorEvOa
set_option linter.unusedVariables false
set_option linter.unusedSimpArgs false
namespace Go.Proofs.YtebjbnohljndjaaGreatDoor
open Go Go.RowKit Go.Ev Go.Proofs
set_option maxRecDepth 1000000 in
theorem run_mLsL : runS mL sL [rL, rM, rH] [(true, true), (true, false), (false, true), (false, false)] = true := by kernel_rfl
set_option maxRecDepth 1000000 in
theorem run_mLsM : runS mL sM [rL, rM, rH] [(true, true), (true, false), (false, true), (false, false)] = true := by kernel_rfl
set_option maxRecDepth 1000000 in
theorem run_mLsH : runS mL sH [rL, rM, rH] [(true, true), (true, false), (false, true), (false, false)] = true := by kernel_rfl
set_option maxRecDepth 1000000 in
theorem run_mMsL : runS mM sL [rL, rM, rH] [(true, true), (true, false), (false, true), (false, false)] = true := by kernel_rfl
set_option maxRecDepth 1000000 in
theorem run_mMsM_a : runS mM sM [rL, rH] [(true, true), (true, false), (false, true), (false, false)] = true := by kernel_rfl
end Go.Proofs.YtebjbnohljndjaaGreatDoor
