/-
  LAYER 9: live() by a run of the evaluator.
-/
import Derived.Test.YtebfoigbiekeiaaEvK2
import Derived.KernelRfl
set_option linter.unusedVariables false
set_option linter.unusedSimpArgs false
namespace Go.Proofs.Ytebfoigbiekeiaa
open Go Go.RowKit Go.Ev Go.Proofs Go.Proofs.Ytebfoigbiekeiaa.Kev

noncomputable def ELv : Env := { fns := fun f => (Try.prog.funcs[f]?).bind (cFun Try.prog []), hook := hook17 }
set_option maxRecDepth 1000000 in
theorem live_run : isTrue (callA ELv (exec ELv 1000) 15 [] hp0) = true := by kernel_rfl
theorem mixedLv : Try.prog.follows .mixedOrders = true := by kernel_rfl
theorem hkLv : ELv.hook = hook17 := rfl
theorem fnLv : FnsOk Try.prog [] ELv := by
  intro f af e
  simp only [ELv, Option.bind_eq_some_iff] at e
  obtain ⟨fn, h1, h2⟩ := e
  exact ⟨fn, h1, h2⟩
theorem live_calls (W : World) : Calls Try.prog 15 #[] W fun e w' => e = .returned (.bool true) ∧ Below W.heap.size W w' :=
  law_run (V := { i := fun _ => 0, o := fun _ => undef }) mixedLv (bOk_nil _) (hook17_ok hkLv) fnLv (hook17_ov hkLv) (by simp only [VRs]) live_run
end Go.Proofs.Ytebfoigbiekeiaa
