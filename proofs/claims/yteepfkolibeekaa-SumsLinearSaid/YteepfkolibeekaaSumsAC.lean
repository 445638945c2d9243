/-
  For every two rows of bytes (the longer one cut): their sums, xor, are the sum of the bytes xor, and that of zeros (SumsLinear).
  No condition but those that the row itself bears.
-/
import Derived.Test.YteepfkolibeekaaRows
import Derived.Test.YteepfkolibeekaaLaw
import Derived.Test.YteepfkolibeekaaSumsZ
set_option linter.unusedVariables false
set_option linter.unusedSimpArgs false
namespace Go.Proofs.Yteepfkolibeekaa
open Go.ChangeShapes Go.WideShapes Go.ChangeAt Go.RowKit

theorem Try.own : ownKnob Try.prog.godebug = none := by kernel_rfl
theorem Try.laidOut : laidOutB Try.prog = true := by kernel_rfl

set_option maxRecDepth 100000 in
theorem SumsLinear_lifted (os : Os) (started : os.Started) (H : Type) (enc : TypeId × Value → H) :
    ReturnsInHanded {} Try.checked os 4 .any (Rows.sumsLinearSpec.pre6 enc Try.prog Try.f4 Rows.sumsLinearRow.domain false) (Rows.sumsLinearSpec.post enc Try.prog Try.f4 false true false false) := by
  refine law_lift (C := Try.checked) Try.own started (by kernel_rfl) Try.func4
    (ChangeSpec.witness6 (enc := enc) (C := Try.checked) false ⟨#[], #[.slice none 0 0, .slice none 0 0], []⟩ 8 (by kernel_rfl) (by kernel_rfl) (by kernel_rfl) (by kernel_rfl)) Try.laidOut rfl rfl Try.underlying4 ?_ ?_ ?_
  · rw [Try.params4]; intro t ht; simp at ht; (first | subst ht | (rcases ht with rfl | rfl) | (rcases ht with rfl | rfl | rfl))
    all_goals exact ⟨by kernel_rfl, of_decide_eq_true (by kernel_rfl)⟩
  · rw [Try.params4]; intro ds hd
    match ds, hd with
    | [d0, d1], _ => rfl
  · rw [Try.params4]
    intro W base args ds p hval hA hlt hsz
    obtain ⟨v0, v1, d0, d1, p0, p1, rfl, rfl, rfl, h0, h1⟩ := trodAll_two hA
    obtain ⟨A0, xs0, c0, rfl, hA0, hR0, hc0, hb0, hw0⟩ := open_rd (P := Try.prog) (j := 0) Try.underlying22 Try.underlying5 (by kernel_rfl) (of_decide_eq_true (by kernel_rfl)) (hval 0 _ v0 rfl rfl) h0 (fun x hx => hlt x (by simp [hx])) hsz rfl rfl
    rw [show Try.prog.bytesOf 5 = 1 from by kernel_rfl] at hb0
    obtain ⟨A1, xs1, c1, rfl, hA1, hR1, hc1, hb1, hw1⟩ := open_rd (P := Try.prog) (j := 1) Try.underlying22 Try.underlying5 (by kernel_rfl) (of_decide_eq_true (by kernel_rfl)) (hval 1 _ v1 rfl rfl) h1 (fun x hx => hlt x (by simp [hx])) hsz rfl rfl
    rw [show Try.prog.bytesOf 5 = 1 from by kernel_rfl] at hb1
    exact SumsLinear_calls c0 c1 _ _ A0 A1 xs0 xs1 rfl rfl W hR0 hR1 (bytes_wf hw0) (bytes_wf hw1) hc0 hc1 (by omega) (by omega) (by omega)

theorem SumsLinear_holds : Rows.SumsLinearSaid :=
  OpenClaim.holds_of_wide 4 Try.f4 rfl rfl rfl rfl rfl rfl rfl ⟨rfl, rfl, rfl, rfl, rfl⟩ rfl rfl rfl rfl rfl (by kernel_rfl) Try.func4 (by kernel_rfl)
    (of_decide_eq_true (by kernel_rfl)) (by unfold Func.isWrapper; first | (rw [if_pos (by decide +kernel)]; kernel_rfl) | (rw [if_neg (by decide +kernel)]; exact ⟨rfl, rfl⟩))
    (fun os started H enc _ => SumsLinear_lifted os started H enc)
#print axioms SumsLinear_holds
end Go.Proofs.Yteepfkolibeekaa
