/-
  The contract of HostNone.
-/
import Derived.Test.YtebjbnohljndjaaGreatDoorEvN0
import Derived.Test.YtebjbnohljndjaaGreatDoorEvN1
import Derived.Test.YtebjbnohljndjaaGreatDoorEvN2
import Derived.Test.YtebjbnohljndjaaGreatDoorEvN3
import Derived.Test.YtebjbnohljndjaaGreatDoorEvN4
import Derived.WideShapes
set_option linter.unusedVariables false
set_option linter.unusedSimpArgs false
namespace Go.Proofs.YtebjbnohljndjaaGreatDoor
open Go Go.RowKit Go.Ev Go.Proofs
theorem cell_one {P : Program} {w : World} {r : Reach} {base : Nat} {t : TypeId} {v : Value} (h : Cell.okWide P w r base t v) : v.oneCell' = true := by
  cases v <;> first
    | rfl
    | (exfalso; simp only [Cell.okWide, Cell.ok] at h; revert h; cases P.underlying t with
       | none => simp
       | some d => cases d <;> simp)
theorem mixed17 : Tryz.prog.follows .mixedOrders = true := by kernel_rfl
def vn (x : Int) (a0 a1 a2 a3 a4 b : Value) : Vn := { i := fun _ => x, o := fun i => match i with | 0 => a0 | 1 => a1 | 2 => a2 | 3 => a3 | 4 => a4 | _ => b }
theorem hke0 : E17_0.hook = hook17 := rfl
theorem fne0 : FnsOk Tryz.prog [] E17_0 := by
  intro f af e
  simp only [E17_0, Option.bind_eq_some_iff] at e
  obtain ⟨fn, h1, h2⟩ := e
  exact ⟨fn, h1, h2⟩
theorem bde0 : E17_0.bnds = [(-9223372036854775808, -1)] := rfl
theorem hke1 : E17_1.hook = hook17 := rfl
theorem fne1 : FnsOk Tryz.prog [] E17_1 := by
  intro f af e
  simp only [E17_1, Option.bind_eq_some_iff] at e
  obtain ⟨fn, h1, h2⟩ := e
  exact ⟨fn, h1, h2⟩
theorem bde1 : E17_1.bnds = [] := rfl
theorem hke2 : E17_2.hook = hook17 := rfl
theorem fne2 : FnsOk Tryz.prog [] E17_2 := by
  intro f af e
  simp only [E17_2, Option.bind_eq_some_iff] at e
  obtain ⟨fn, h1, h2⟩ := e
  exact ⟨fn, h1, h2⟩
theorem bde2 : E17_2.bnds = [] := rfl
theorem hke3 : E17_3.hook = hook17 := rfl
theorem fne3 : FnsOk Tryz.prog [] E17_3 := by
  intro f af e
  simp only [E17_3, Option.bind_eq_some_iff] at e
  obtain ⟨fn, h1, h2⟩ := e
  exact ⟨fn, h1, h2⟩
theorem bde3 : E17_3.bnds = [(2, 1099511627176)] := rfl
theorem hke4 : E17_4.hook = hook17 := rfl
theorem fne4 : FnsOk Tryz.prog [] E17_4 := by
  intro f af e
  simp only [E17_4, Option.bind_eq_some_iff] at e
  obtain ⟨fn, h1, h2⟩ := e
  exact ⟨fn, h1, h2⟩
theorem bde4 : E17_4.bnds = [(1099511627177, 9223372036854775807)] := rfl
theorem HostNone_calls (W : World) (x : Int) (hx0 : -9223372036854775808 ≤ x) (hx1 : x ≤ 9223372036854775807) (a0 a1 a2 a3 a4 b : Value) (h0 : a0.oneCell' = true) (h1 : a1.oneCell' = true) (h2 : a2.oneCell' = true) (h3 : a3.oneCell' = true) (h4 : a4.oneCell' = true) (hb : b.oneCell' = true) :
    Calls Tryz.prog 9 #[.int .i64 x, .agg #[a0, a1, a2, a3, a4], b] W fun e w' => e = .returned (.bool true) ∧ Below W.heap.size W w' := by
  have hm : VR (vn x a0 a1 a2 a3 a4 b) map0 (.agg [.opq 0, .opq 1, .opq 2, .opq 3, .opq 4]) (.agg #[a0, a1, a2, a3, a4]) := by
    rw [VR]
    refine ⟨_, rfl, ?_⟩
    simp only [VRs]
    exact ⟨_, _, rfl, by rw [VR]; exact ⟨rfl, h0⟩, _, _, rfl, by rw [VR]; exact ⟨rfl, h1⟩, _, _, rfl, by rw [VR]; exact ⟨rfl, h2⟩, _, _, rfl, by rw [VR]; exact ⟨rfl, h3⟩, _, _, rfl, by rw [VR]; exact ⟨rfl, h4⟩, rfl⟩
  have hbv : VR (vn x a0 a1 a2 a3 a4 b) map0 (.opq 5) b := by rw [VR]; exact ⟨rfl, hb⟩
  have hlin : VR (vn x a0 a1 a2 a3 a4 b) map0 (.lin .i64 0 0) (.int .i64 x) := by rw [VR]; simp [vn]
  have hargs : ∀ A, VR (vn x a0 a1 a2 a3 a4 b) map0 A (.int .i64 x) → VRs (vn x a0 a1 a2 a3 a4 b) map0 [A, .agg [.opq 0, .opq 1, .opq 2, .opq 3, .opq 4], .opq 5] (#[.int .i64 x, .agg #[a0, a1, a2, a3, a4], b] : Array Value).toList := fun A hA => by
    simp only [VRs]
    exact ⟨_, _, rfl, hA, _, _, rfl, hm, _, _, rfl, hbv, rfl⟩
  have lin : ∀ (E : Env) (lo hi : Int), E.bnds = [(lo, hi)] → lo ≤ x → x ≤ hi → BOk (vn x a0 a1 a2 a3 a4 b) E.bnds := fun E lo hi hE h1 h2 => by
    rw [hE]
    intro i lo' hi' e
    cases i with
    | zero => simp only [bndOf, Option.some.injEq, Prod.mk.injEq] at e; obtain ⟨rfl, rfl⟩ := e; exact ⟨h1, h2⟩
    | succ i => simp [bndOf] at e
  have nob : ∀ (E : Env), E.bnds = [] → BOk (vn x a0 a1 a2 a3 a4 b) E.bnds := fun E hE => by
    rw [hE]; intro i lo' hi' e; simp [bndOf] at e
  by_cases c0 : x < 0
  · exact law_run mixed17 (lin E17_0 _ _ bde0 hx0 (by omega)) (hook17_ok hke0) fne0 (hook17_ov hke0) (hargs _ hlin) none_run0
  by_cases c1 : x = 0
  · exact law_run mixed17 (nob E17_1 bde1) (hook17_ok hke1) fne1 (hook17_ov hke1) (hargs _ (by rw [VR, c1])) none_run1
  by_cases c2 : x = 1
  · exact law_run mixed17 (nob E17_2 bde2) (hook17_ok hke2) fne2 (hook17_ov hke2) (hargs _ (by rw [VR, c2])) none_run2
  by_cases c3 : x ≤ 1099511627176
  · exact law_run mixed17 (lin E17_3 _ _ bde3 (by omega) c3) (hook17_ok hke3) fne3 (hook17_ov hke3) (hargs _ hlin) none_run3
  · exact law_run mixed17 (lin E17_4 _ _ bde4 (by omega) hx1) (hook17_ok hke4) fne4 (hook17_ov hke4) (hargs _ hlin) none_run4
#print axioms HostNone_calls
end Go.Proofs.YtebjbnohljndjaaGreatDoor
