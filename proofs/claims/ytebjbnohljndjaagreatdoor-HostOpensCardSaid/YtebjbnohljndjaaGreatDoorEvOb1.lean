/-
  Runs: settings that are refused.
-/
import Derived.Test.YtebjbnohljndjaaGreatDoorEvOa
set_option linter.unusedVariables false
set_option linter.unusedSimpArgs false
namespace Go.Proofs.YtebjbnohljndjaaGreatDoor
open Go Go.RowKit Go.Ev Go.Proofs
set_option maxRecDepth 1000000 in
theorem run_mMsM_b : runS mM sM [rM] [(true, true), (true, false), (false, true)] = true := by kernel_rfl
set_option maxRecDepth 1000000 in
theorem run_mMsH : runS mM sH [rL, rM, rH] [(true, true), (true, false), (false, true), (false, false)] = true := by kernel_rfl
set_option maxRecDepth 1000000 in
theorem run_mHsL : runS mH sL [rL, rM, rH] [(true, true), (true, false), (false, true), (false, false)] = true := by kernel_rfl
set_option maxRecDepth 1000000 in
theorem run_mHsM : runS mH sM [rL, rM, rH] [(true, true), (true, false), (false, true), (false, false)] = true := by kernel_rfl
set_option maxRecDepth 1000000 in
theorem run_mHsH : runS mH sH [rL, rM, rH] [(true, true), (true, false), (false, true), (false, false)] = true := by kernel_rfl
end Go.Proofs.YtebjbnohljndjaaGreatDoor
