/-
  For every bytes, place and four bytes: a packet turned there is told, and only if a byte was turned (SumsTurned).
  No condition but those that the row itself bears.
-/
import Derived.Test.YteepfkolibeekaaRows
import Derived.Test.YteepfkolibeekaaLaw
import Derived.Test.YteepfkolibeekaaSumsAA
set_option linter.unusedVariables false
set_option linter.unusedSimpArgs false
namespace Go.Proofs.Yteepfkolibeekaa
open Go.ChangeShapes Go.WideShapes Go.ChangeAt Go.RowKit

theorem Try.own : ownKnob Try.prog.godebug = none := by kernel_rfl
theorem Try.laidOut : laidOutB Try.prog = true := by kernel_rfl

set_option maxRecDepth 100000 in
theorem SumsTurned_lifted (os : Os) (started : os.Started) (H : Type) (enc : TypeId × Value → H) :
    ReturnsInHanded {} Try.checked os 11 .any (Rows.sumsTurnedSpec.pre6 enc Try.prog Try.f11 Rows.sumsTurnedRow.domain false) (Rows.sumsTurnedSpec.post enc Try.prog Try.f11 false true false false) := by
  refine law_lift (C := Try.checked) Try.own started (by kernel_rfl) Try.func11
    (ChangeSpec.witness6 (enc := enc) (C := Try.checked) false ⟨#[], #[.slice none 0 0, .int .i64 0, .agg #[.int .u8 0, .int .u8 0, .int .u8 0, .int .u8 0]], []⟩ 8 (by kernel_rfl) (by kernel_rfl) (by kernel_rfl) (by kernel_rfl)) Try.laidOut rfl rfl Try.underlying4 ?_ ?_ ?_
  · rw [Try.params11]; intro t ht; simp at ht; rcases ht with rfl | rfl | rfl
    all_goals exact ⟨by kernel_rfl, of_decide_eq_true (by kernel_rfl)⟩
  · rw [Try.params11]; intro ds hd
    match ds, hd with
    | [d0, d1, d2], _ => rfl
  · rw [Try.params11]
    intro W base args ds p hval hA hlt hsz
    obtain ⟨v0, v1, v2, d0, d1, d2, p0, p1, p2, rfl, rfl, rfl, h0, h1, h2⟩ := trodAll_three hA
    obtain ⟨A0, xs0, c0, rfl, hA0, hR0, hc0, hb0, hw0⟩ := open_rd (P := Try.prog) (j := 0) Try.underlying22 Try.underlying5 (by kernel_rfl) (of_decide_eq_true (by kernel_rfl)) (hval 0 _ v0 rfl rfl) h0 (fun x hx => hlt x (by simp [hx])) hsz rfl rfl
    rw [show Try.prog.bytesOf 5 = 1 from by kernel_rfl] at hb0
    obtain ⟨x1, rfl, rfl, rfl, w1⟩ := open_int Try.underlying3 (hval 1 _ v1 rfl rfl) h1
    have r1 := int_wf w1
    simp [IntKind.min, IntKind.max, IntKind.signed, IntKind.bits] at r1
    obtain ⟨q20, q21, q22, q23, rfl, rfl, rfl, z20, z21, z22, z23⟩ := open_arr4 Try.underlying38 Try.underlying5 (by kernel_rfl) (by kernel_rfl) (hval 2 _ v2 rfl rfl) h2
    exact SumsTurned_calls c0 xs0.length A0 xs0 rfl x1 q20 q21 q22 q23 r1 (bytes_wf (xs := [q20, q21, q22, q23]) (fun x hx => by simp at hx; rcases hx with rfl | rfl | rfl | rfl <;> assumption)) W hR0 (bytes_wf hw0) hA0 (by omega)

theorem SumsTurned_holds : Rows.SumsTurnedSaid :=
  OpenClaim.holds_of_wide 11 Try.f11 rfl rfl rfl rfl rfl rfl rfl ⟨rfl, rfl, rfl, rfl, rfl⟩ rfl rfl rfl rfl rfl (by kernel_rfl) Try.func11 (by kernel_rfl)
    (of_decide_eq_true (by kernel_rfl)) (by unfold Func.isWrapper; first | (rw [if_pos (by decide +kernel)]; kernel_rfl) | (rw [if_neg (by decide +kernel)]; exact ⟨rfl, rfl⟩))
    (fun os started H enc _ => SumsTurned_lifted os started H enc)
#print axioms SumsTurned_holds
end Go.Proofs.Yteepfkolibeekaa
