/-
  For every time: measured again and again as the same, the mean is that time and the spread falls to what rounding leaves (PathSteady).
  No condition but those that the row itself bears.
-/
import Derived.Test.YtopcokjfgldblaaRows
import Derived.Test.YtopcokjfgldblaaLaw
import Derived.Test.YtopcokjfgldblaaPathL
set_option linter.unusedVariables false
set_option linter.unusedSimpArgs false
namespace Go.Proofs.Ytopcokjfgldblaa
open Go.ChangeShapes Go.WideShapes Go.ChangeAt Go.RowKit

theorem Try.own : ownKnob Try.prog.godebug = none := by kernel_rfl
theorem Try.laidOut : laidOutB Try.prog = true := by kernel_rfl

set_option maxRecDepth 100000 in
theorem PathSteady_lifted (os : Os) (started : os.Started) (H : Type) (enc : TypeId × Value → H) :
    ReturnsInHanded {} Try.checked os 3 .any (Rows.pathSteadySpec.pre6 enc Try.prog Try.f3 Rows.pathSteadyRow.domain false) (Rows.pathSteadySpec.post enc Try.prog Try.f3 false true false false) := by
  refine law_lift (C := Try.checked) Try.own started (by kernel_rfl) Try.func3
    (ChangeSpec.witness6 (enc := enc) (C := Try.checked) false ⟨#[], #[.int .u16 0], []⟩ 8 (by kernel_rfl) (by kernel_rfl) (by kernel_rfl) (by kernel_rfl)) Try.laidOut rfl rfl Try.underlying4 ?_ ?_ ?_
  · rw [Try.params3]; intro t ht; simp at ht; (first | subst ht | (rcases ht with rfl | rfl) | (rcases ht with rfl | rfl | rfl))
    all_goals exact ⟨by kernel_rfl, of_decide_eq_true (by kernel_rfl)⟩
  · rw [Try.params3]; intro ds hd
    match ds, hd with
    | [d0], _ => rfl
  · rw [Try.params3]
    intro W base args ds p hval hA hlt hsz
    obtain ⟨v0, d0, rfl, rfl, h0⟩ := trodAll_one hA
    obtain ⟨x0, rfl, rfl, rfl, w0⟩ := open_int Try.underlying22 (hval 0 _ v0 rfl rfl) h0
    have r0 := int_wf w0
    simp [IntKind.min, IntKind.max, IntKind.signed, IntKind.bits] at r0
    exact PathSteady_calls x0 r0.1 r0.2 W

theorem PathSteady_holds : Rows.PathSteadySaid :=
  OpenClaim.holds_of_wide 3 Try.f3 rfl rfl rfl rfl rfl rfl rfl ⟨rfl, rfl, rfl, rfl, rfl⟩ rfl rfl rfl rfl rfl (by kernel_rfl) Try.func3 (by kernel_rfl)
    (of_decide_eq_true (by kernel_rfl)) (by unfold Func.isWrapper; first | (rw [if_pos (by decide +kernel)]; kernel_rfl) | (rw [if_neg (by decide +kernel)]; exact ⟨rfl, rfl⟩))
    (fun os started H enc _ => PathSteady_lifted os started H enc)
#print axioms PathSteady_holds
end Go.Proofs.Ytopcokjfgldblaa
