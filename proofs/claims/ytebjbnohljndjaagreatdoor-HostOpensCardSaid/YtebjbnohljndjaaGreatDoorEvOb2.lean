/-
  Runs: a card's address is none.
-/
import Derived.Test.YtebjbnohljndjaaGreatDoorEvOa
set_option linter.unusedVariables false
set_option linter.unusedSimpArgs false
namespace Go.Proofs.YtebjbnohljndjaaGreatDoor
open Go Go.RowKit Go.Ev Go.Proofs
set_option maxRecDepth 1000000 in
theorem runR_aHaL_0 : runR aH aL [1, 2, 3, 4, 5, 6, 7, 8, 9, 10, 11, 12, 13, 14, 15, 16] = true := by kernel_rfl
set_option maxRecDepth 1000000 in
theorem runR_aHaL_1 : runR aH aL [17, 18, 19, 20, 21, 22, 23, 24, 25, 26, 27, 28, 29, 30, 31, 32] = true := by kernel_rfl
set_option maxRecDepth 1000000 in
theorem runR_aHaL_2 : runR aH aL [33, 34, 35, 36, 37, 38, 39, 40, 41, 42, 43, 44, 45, 46, 47, 48] = true := by kernel_rfl
set_option maxRecDepth 1000000 in
theorem runR_aHaL_3 : runR aH aL [49, 50, 51, 52, 53, 54, 55, 56, 57, 58, 59, 60, 61, 62, 63, 64] = true := by kernel_rfl
set_option maxRecDepth 1000000 in
theorem runR_aLaH_0 : runR aL aH [1, 2, 3, 4, 5, 6, 7, 8, 9, 10, 11, 12, 13, 14, 15, 16] = true := by kernel_rfl
set_option maxRecDepth 1000000 in
theorem runR_aLaH_1 : runR aL aH [17, 18, 19, 20, 21, 22, 23, 24, 25, 26, 27, 28, 29, 30, 31, 32] = true := by kernel_rfl
set_option maxRecDepth 1000000 in
theorem runR_aLaH_2 : runR aL aH [33, 34, 35, 36, 37, 38, 39, 40, 41, 42, 43, 44, 45, 46, 47, 48] = true := by kernel_rfl
set_option maxRecDepth 1000000 in
theorem runR_aLaH_3 : runR aL aH [49, 50, 51, 52, 53, 54, 55, 56, 57, 58, 59, 60, 61, 62, 63, 64] = true := by kernel_rfl
set_option maxRecDepth 1000000 in
theorem runR_aHaH_0 : runR aH aH [1, 2, 3, 4, 5, 6, 7, 8, 9, 10, 11, 12, 13, 14, 15, 16] = true := by kernel_rfl
set_option maxRecDepth 1000000 in
theorem runR_aHaH_1 : runR aH aH [17, 18, 19, 20, 21, 22, 23, 24, 25, 26, 27, 28, 29, 30, 31, 32] = true := by kernel_rfl
set_option maxRecDepth 1000000 in
theorem runR_aHaH_2 : runR aH aH [33, 34, 35, 36, 37, 38, 39, 40, 41, 42, 43, 44, 45, 46, 47, 48] = true := by kernel_rfl
set_option maxRecDepth 1000000 in
theorem runR_aHaH_3 : runR aH aH [49, 50, 51, 52, 53, 54, 55, 56, 57, 58, 59, 60, 61, 62, 63, 64] = true := by kernel_rfl
end Go.Proofs.YtebjbnohljndjaaGreatDoor
