/-
  A run.
-/
import Derived.Test.YtebjbnohljndjaaGreatDoorEvK1
import Derived.KernelRfl
set_option linter.unusedVariables false
set_option linter.unusedSimpArgs false
namespace Go.Proofs.YtebjbnohljndjaaGreatDoor
open Go Go.RowKit Go.Ev Go.Proofs
noncomputable def E17_2 : Env := { fns := fun f => (Tryz.prog.funcs[f]?).bind (cFun Tryz.prog []), hook := hook17, bnds := [] }
set_option maxRecDepth 1000000 in
theorem none_run2 : isTrue (callA E17_2 (exec E17_2 1000) 9 [.int .i64 1, .agg [.opq 0, .opq 1, .opq 2, .opq 3, .opq 4], .opq 5] hp0) = true := by kernel_rfl
end Go.Proofs.YtebjbnohljndjaaGreatDoor
