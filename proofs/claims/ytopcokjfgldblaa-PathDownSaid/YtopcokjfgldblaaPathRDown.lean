/-
  For every row of faults and good news: a way is down just if more than three faults came one behind the other, and it is told once (PathDown).
  No condition but those that the row itself bears.
-/
import Derived.Test.YtopcokjfgldblaaRows
import Derived.Test.YtopcokjfgldblaaLaw
import Derived.Test.YtopcokjfgldblaaPathM
set_option linter.unusedVariables false
set_option linter.unusedSimpArgs false
namespace Go.Proofs.Ytopcokjfgldblaa
open Go.ChangeShapes Go.WideShapes Go.ChangeAt Go.RowKit

theorem Try.own : ownKnob Try.prog.godebug = none := by kernel_rfl
theorem Try.laidOut : laidOutB Try.prog = true := by kernel_rfl

set_option maxRecDepth 100000 in
theorem PathDown_lifted (os : Os) (started : os.Started) (H : Type) (enc : TypeId × Value → H) :
    ReturnsInHanded {} Try.checked os 4 .any (Rows.pathDownSpec.pre6 enc Try.prog Try.f4 Rows.pathDownRow.domain false) (Rows.pathDownSpec.post enc Try.prog Try.f4 false true false false) := by
  refine law_lift (C := Try.checked) Try.own started (by kernel_rfl) Try.func4
    (ChangeSpec.witness6 (enc := enc) (C := Try.checked) false ⟨#[], #[.slice none 0 0], []⟩ 8 (by kernel_rfl) (by kernel_rfl) (by kernel_rfl) (by kernel_rfl)) Try.laidOut rfl rfl Try.underlying4 ?_ ?_ ?_
  · rw [Try.params4]; intro t ht; simp at ht; (first | subst ht | (rcases ht with rfl | rfl) | (rcases ht with rfl | rfl | rfl))
    all_goals exact ⟨by kernel_rfl, of_decide_eq_true (by kernel_rfl)⟩
  · rw [Try.params4]; intro ds hd
    match ds, hd with
    | [d0], _ => rfl
  · rw [Try.params4]
    intro W base args ds p hval hA hlt hsz
    obtain ⟨v0, d0, rfl, rfl, h0⟩ := trodAll_one hA
    obtain ⟨A0, xs0, c0, rfl, hA0, hR0, hc0, hb0, hw0⟩ := open_rd (P := Try.prog) (j := 0) Try.underlying33 Try.underlying5 (by kernel_rfl) (of_decide_eq_true (by kernel_rfl)) (hval 0 _ v0 rfl rfl) h0 hlt hsz rfl rfl
    rw [show Try.prog.bytesOf 5 = 1 from by kernel_rfl] at hb0
    exact PathDown_calls c0 _ A0 xs0 rfl W hR0 (bytes_wf hw0) hc0 (by omega)

theorem PathDown_holds : Rows.PathDownSaid :=
  OpenClaim.holds_of_wide 4 Try.f4 rfl rfl rfl rfl rfl rfl rfl ⟨rfl, rfl, rfl, rfl, rfl⟩ rfl rfl rfl rfl rfl (by kernel_rfl) Try.func4 (by kernel_rfl)
    (of_decide_eq_true (by kernel_rfl)) (by unfold Func.isWrapper; first | (rw [if_pos (by decide +kernel)]; kernel_rfl) | (rw [if_neg (by decide +kernel)]; exact ⟨rfl, rfl⟩))
    (fun os started H enc _ => PathDown_lifted os started H enc)
#print axioms PathDown_holds
end Go.Proofs.Ytopcokjfgldblaa
