/-
  live() by a run of the evaluator; a hook for it.
-/
import Derived.Test.YtebjbnohljndjaaGreatDoorEvK1
import Derived.KernelRfl
set_option linter.unusedVariables false
set_option linter.unusedSimpArgs false
namespace Go.Proofs.YtebjbnohljndjaaGreatDoor
open Go Go.RowKit Go.Ev Go.Proofs

noncomputable def ELv : Env := { fns := fun f => (Tryz.prog.funcs[f]?).bind (cFun Tryz.prog []), hook := hook17 }
set_option maxRecDepth 1000000 in
theorem live_run : isTrue (callA ELv (exec ELv 1000) 21 [] hp0) = true := by kernel_rfl
theorem mixedLv : Tryz.prog.follows .mixedOrders = true := by kernel_rfl
theorem hkLv : ELv.hook = hook17 := rfl
theorem fnLv : FnsOk Tryz.prog [] ELv := by
  intro f af e
  simp only [ELv, Option.bind_eq_some_iff] at e
  obtain ⟨fn, h1, h2⟩ := e
  exact ⟨fn, h1, h2⟩
theorem lawlive_calls (W : World) : Calls Tryz.prog 21 #[] W fun e w' => e = .returned (.bool true) ∧ Below W.heap.size W w' :=
  law_run (V := { i := fun _ => 0, o := fun _ => undef }) mixedLv (bOk_nil _) (hook17_ok hkLv) fnLv (hook17_ov hkLv) (by simp only [VRs]) live_run
def hkLive (args : List AVal) (h : Hp) : Option (AVal × Hp) :=
  match args with
  | [] => some (.bool true, h)
  | _ => none
def hookLv : FuncId → Option (List AVal → Hp → Option (AVal × Hp)) := fun f => if f = 21 then some hkLive else hook17 f
theorem hookLv_ov {E : Env} (hE : E.hook = hookLv) : OvHook E := by
  intro X f kk args h H v h' hk ho e
  rw [hE] at hk
  unfold hookLv at hk
  split at hk
  · cases hk
    unfold hkLive at e ⊢
    split at e
    · cases e
      exact ⟨H, rfl, ho⟩
    · simp at e
  · exact hook17_ov (E := { E with hook := hook17 }) rfl X f kk args h H v h' hk ho e
theorem nameLv : Tryz.f21.name ≠ "runtime.NumGoroutine" := by
  have h2 : (Tryz.f21.name == "runtime.NumGoroutine") = false := by kernel_rfl
  intro h
  rw [h] at h2
  simp at h2
theorem hookLv_ok {V : Vn} {E : Env} (hE : E.hook = hookLv) : HookOk V Tryz.prog [] E := by
  have old := hook17_ok (V := V) (E := { E with hook := hook17 }) rfl
  refine ⟨fun f kk hk => ?_, fun f kk args h v h' μ w args' hk e k hg ha => ?_⟩
  · rw [hE] at hk
    unfold hookLv at hk
    split at hk
    · rename_i hf
      subst hf
      exact ⟨Tryz.f21, Tryz.func21, nameLv, by kernel_rfl⟩
    · exact old.fn f kk hk
  · rw [hE] at hk
    unfold hookLv at hk
    split at hk
    · rename_i hf
      subst hf
      cases hk
      unfold hkLive at e
      split at e
      · cases e
        simp only [VRs] at ha
        have ea : args' = #[] := Array.toList_inj.1 ha
        subst ea
        refine (lawlive_calls w).mono ?_
        rintro e w' ⟨rfl, hB⟩
        obtain ⟨k2, x2⟩ := HR.keep k hB
        exact ⟨_, μ, rfl, (by rw [VR]), k2, x2⟩
      · simp at e
    · exact old.calls f kk args h v h' μ w args' hk e k hg ha
end Go.Proofs.YtebjbnohljndjaaGreatDoor
