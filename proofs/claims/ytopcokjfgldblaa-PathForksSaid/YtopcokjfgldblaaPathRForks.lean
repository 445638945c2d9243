/-
  For every two scripts: what becomes of a fork changes nothing (PathForks).
  No condition but those that the row itself bears.
-/
import Derived.Test.YtopcokjfgldblaaRows
import Derived.Test.YtopcokjfgldblaaLaw
import Derived.Test.YtopcokjfgldblaaPathS
import Derived.Test.YtopcokjfgldblaaLawD
set_option linter.unusedVariables false
set_option linter.unusedSimpArgs false
namespace Go.Proofs.Ytopcokjfgldblaa
open Go.ChangeShapes Go.WideShapes Go.ChangeAt Go.RowKit

theorem Try.own : ownKnob Try.prog.godebug = none := by kernel_rfl
theorem Try.laidOut : laidOutB Try.prog = true := by kernel_rfl

set_option maxRecDepth 100000 in
theorem PathForks_lifted (os : Os) (started : os.Started) (H : Type) (enc : TypeId × Value → H) :
    ReturnsInHanded {} Try.checked os 9 .any (Rows.pathForksSpec.pre6 enc Try.prog Try.f9 Rows.pathForksRow.domain false) (Rows.pathForksSpec.post enc Try.prog Try.f9 false true false false) := by
  refine law_lift (C := Try.checked) Try.own started (by kernel_rfl) Try.func9
    (ChangeSpec.witness6 (enc := enc) (C := Try.checked) false ⟨#[], #[.slice none 0 0, .slice none 0 0], []⟩ 8 (by kernel_rfl) (by kernel_rfl) (by kernel_rfl) (by kernel_rfl)) Try.laidOut rfl rfl Try.underlying4 ?_ ?_ ?_
  · rw [Try.params9]; intro t ht; simp at ht; (first | subst ht | (rcases ht with rfl | rfl) | (rcases ht with rfl | rfl | rfl))
    all_goals exact ⟨by kernel_rfl, of_decide_eq_true (by kernel_rfl)⟩
  · rw [Try.params9]; intro ds hd
    match ds, hd with
    | [d0, d1], _ => rfl
  · rw [Try.params9]
    intro W base args ds p hval hA hlt hsz
    obtain ⟨v0, v1, d0, d1, p0, p1, rfl, rfl, rfl, h0, h1⟩ := trodAll_two hA
    obtain ⟨A0, L0, c0, rfl, hc0, hm0, hR0, hO0⟩ := open_deeds (hval 0 _ v0 rfl rfl) h0 (fun x hx => hlt x (by simp [hx]))
    obtain ⟨A1, L1, c1, rfl, hc1, hm1, hR1, hO1⟩ := open_deeds (hval 1 _ v1 rfl rfl) h1 (fun x hx => hlt x (by simp [hx]))
    exact PathForks_calls c0 _ c1 _ A0 A1 L0 L1 rfl rfl W hR0 hO0 hR1 hO1 hc0 (by unfold maxLen at *; omega) hc1 (by unfold maxLen at *; omega)

theorem PathForks_holds : Rows.PathForksSaid :=
  OpenClaim.holds_of_wide 9 Try.f9 rfl rfl rfl rfl rfl rfl rfl ⟨rfl, rfl, rfl, rfl, rfl⟩ rfl rfl rfl rfl rfl (by kernel_rfl) Try.func9 (by kernel_rfl)
    (of_decide_eq_true (by kernel_rfl)) (by unfold Func.isWrapper; first | (rw [if_pos (by decide +kernel)]; kernel_rfl) | (rw [if_neg (by decide +kernel)]; exact ⟨rfl, rfl⟩))
    (fun os started H enc _ => PathForks_lifted os started H enc)
#print axioms PathForks_holds
end Go.Proofs.Ytopcokjfgldblaa
