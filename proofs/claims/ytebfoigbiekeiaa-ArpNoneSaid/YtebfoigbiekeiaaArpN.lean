/-
  A run of ArpNone by the evaluator, and the contract that follows.
-/
import Derived.Test.YtebfoigbiekeiaaEvK1
import Derived.KernelRfl
import Derived.WideShapes
set_option linter.unusedVariables false
set_option linter.unusedSimpArgs false
namespace Go.Proofs.Ytebfoigbiekeiaa
open Go Go.RowKit Go.Ev Go.Proofs
noncomputable def E09 : Env := { fns := fun f => (Try.prog.funcs[f]?).bind (cFun Try.prog []), hook := hook17 }
set_option maxRecDepth 1000000 in
theorem arp_none_run : isTrue (callA E09 (exec E09 1000) 9 [.opq 0, .agg [.opq 1, .opq 2, .opq 3, .opq 4, .opq 5], .opq 6] hp0) = true := by kernel_rfl
theorem cell_one {P : Program} {w : World} {r : Reach} {base : Nat} {t : TypeId} {v : Value} (h : Cell.okWide P w r base t v) : v.oneCell' = true := by
  cases v <;> first
    | rfl
    | (exfalso; simp only [Cell.okWide, Cell.ok] at h; revert h; cases P.underlying t with
       | none => simp
       | some d => cases d <;> simp)
theorem mixed09 : Try.prog.follows .mixedOrders = true := by kernel_rfl
def vn7 (b a0 a1 a2 a3 a4 x : Value) : Vn := { i := fun _ => 0, o := fun i => match i with | 0 => b | 1 => a0 | 2 => a1 | 3 => a2 | 4 => a3 | 5 => a4 | _ => x }
theorem hk09 : E09.hook = hook17 := rfl
theorem fn09 : FnsOk Try.prog [] E09 := by
  intro f af e
  simp only [E09, Option.bind_eq_some_iff] at e
  obtain ⟨fn, h1, h2⟩ := e
  exact ⟨fn, h1, h2⟩
theorem ArpNone_calls (W : World) (b a0 a1 a2 a3 a4 x : Value) (hb : b.oneCell' = true) (h0 : a0.oneCell' = true) (h1 : a1.oneCell' = true) (h2 : a2.oneCell' = true) (h3 : a3.oneCell' = true) (h4 : a4.oneCell' = true) (hx : x.oneCell' = true) :
    Calls Try.prog 9 #[b, .agg #[a0, a1, a2, a3, a4], x] W fun e w' => e = .returned (.bool true) ∧ Below W.heap.size W w' := by
  have hm : VR (vn7 b a0 a1 a2 a3 a4 x) map0 (.agg [.opq 1, .opq 2, .opq 3, .opq 4, .opq 5]) (.agg #[a0, a1, a2, a3, a4]) := by
    rw [VR]
    refine ⟨_, rfl, ?_⟩
    simp only [VRs]
    exact ⟨_, _, rfl, by rw [VR]; exact ⟨rfl, h0⟩, _, _, rfl, by rw [VR]; exact ⟨rfl, h1⟩, _, _, rfl, by rw [VR]; exact ⟨rfl, h2⟩, _, _, rfl, by rw [VR]; exact ⟨rfl, h3⟩, _, _, rfl, by rw [VR]; exact ⟨rfl, h4⟩, rfl⟩
  have hbv : VR (vn7 b a0 a1 a2 a3 a4 x) map0 (.opq 0) b := by rw [VR]; exact ⟨rfl, hb⟩
  have hxv : VR (vn7 b a0 a1 a2 a3 a4 x) map0 (.opq 6) x := by rw [VR]; exact ⟨rfl, hx⟩
  have hargs : VRs (vn7 b a0 a1 a2 a3 a4 x) map0 [.opq 0, .agg [.opq 1, .opq 2, .opq 3, .opq 4, .opq 5], .opq 6] (#[b, .agg #[a0, a1, a2, a3, a4], x] : Array Value).toList := by
    simp only [VRs]
    exact ⟨_, _, rfl, hbv, _, _, rfl, hm, _, _, rfl, hxv, rfl⟩
  exact law_run mixed09 (by intro i lo' hi' e; simp [E09, bndOf] at e) (hook17_ok hk09) fn09 (hook17_ov hk09) hargs arp_none_run
end Go.Proofs.Ytebfoigbiekeiaa
