/-
  For every numbers of 16 bits, place and number: Swap is the sum of what the bytes became, but where they are all 0 (SumsSwaps).
  No condition but those that the row itself bears.
-/
import Derived.Test.YteepfkolibeekaaRows
import Derived.Test.YteepfkolibeekaaLaw
import Derived.Test.YteepfkolibeekaaSumsL
set_option linter.unusedVariables false
set_option linter.unusedSimpArgs false
namespace Go.Proofs.Yteepfkolibeekaa
open Go.ChangeShapes Go.WideShapes Go.ChangeAt Go.RowKit

theorem Try.own : ownKnob Try.prog.godebug = none := by kernel_rfl
theorem Try.laidOut : laidOutB Try.prog = true := by kernel_rfl

set_option maxRecDepth 100000 in
theorem SumsSwaps_lifted (os : Os) (started : os.Started) (H : Type) (enc : TypeId × Value → H) :
    ReturnsInHanded {} Try.checked os 8 .any (Rows.sumsSwapsSpec.pre6 enc Try.prog Try.f8 Rows.sumsSwapsRow.domain false) (Rows.sumsSwapsSpec.post enc Try.prog Try.f8 false true false false) := by
  refine law_lift (C := Try.checked) Try.own started (by kernel_rfl) Try.func8
    (ChangeSpec.witness6 (enc := enc) (C := Try.checked) false ⟨#[], #[.slice none 0 0, .int .u16 0, .int .u16 0], []⟩ 8 (by kernel_rfl) (by kernel_rfl) (by kernel_rfl) (by kernel_rfl)) Try.laidOut rfl rfl Try.underlying4 ?_ ?_ ?_
  · rw [Try.params8]; intro t ht; simp at ht; rcases ht with rfl | rfl | rfl
    all_goals exact ⟨by kernel_rfl, of_decide_eq_true (by kernel_rfl)⟩
  · rw [Try.params8]; intro ds hd
    match ds, hd with
    | [d0, d1, d2], _ => rfl
  · rw [Try.params8]
    intro W base args ds p hval hA hlt hsz
    obtain ⟨v0, v1, v2, d0, d1, d2, p0, p1, p2, rfl, rfl, rfl, h0, h1, h2⟩ := trodAll_three hA
    obtain ⟨A0, xs0, c0, rfl, hA0, hR0, hc0, hb0, hw0⟩ := open_rd (P := Try.prog) (j := 0) Try.underlying31 Try.underlying28 (by kernel_rfl) (of_decide_eq_true (by kernel_rfl)) (hval 0 _ v0 rfl rfl) h0 (fun x hx => hlt x (by simp [hx])) hsz rfl rfl
    rw [show Try.prog.bytesOf 28 = 2 from by kernel_rfl] at hb0
    obtain ⟨x1, rfl, rfl, rfl, w1⟩ := open_int Try.underlying28 (hval 1 _ v1 rfl rfl) h1
    have r1 := int_wf w1
    simp [IntKind.min, IntKind.max, IntKind.signed, IntKind.bits] at r1
    obtain ⟨x2, rfl, rfl, rfl, w2⟩ := open_int Try.underlying28 (hval 2 _ v2 rfl rfl) h2
    have r2 := int_wf w2
    simp [IntKind.min, IntKind.max, IntKind.signed, IntKind.bits] at r2
    exact SumsSwaps_calls c0 A0 xs0 x1 x2 r1.1 r1.2 r2.1 r2.2 W hR0 (words_wf hw0) (by omega)

theorem SumsSwaps_holds : Rows.SumsSwapsSaid :=
  OpenClaim.holds_of_wide 8 Try.f8 rfl rfl rfl rfl rfl rfl rfl ⟨rfl, rfl, rfl, rfl, rfl⟩ rfl rfl rfl rfl rfl (by kernel_rfl) Try.func8 (by kernel_rfl)
    (of_decide_eq_true (by kernel_rfl)) (by unfold Func.isWrapper; first | (rw [if_pos (by decide +kernel)]; kernel_rfl) | (rw [if_neg (by decide +kernel)]; exact ⟨rfl, rfl⟩))
    (fun os started H enc _ => SumsSwaps_lifted os started H enc)
#print axioms SumsSwaps_holds
end Go.Proofs.Yteepfkolibeekaa
