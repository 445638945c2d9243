/-
  For every bytes the program's CRC-32C is the sum by the bits of the register, and the law's fixed examples hold (SumsCrc).
  No condition but those that the row itself bears.
-/
import Derived.Test.YteepfkolibeekaaRows
import Derived.Test.YteepfkolibeekaaSumsE
import Derived.Test.YteepfkolibeekaaLaw
set_option linter.unusedVariables false
set_option linter.unusedSimpArgs false
namespace Go.Proofs.Yteepfkolibeekaa
open Go.ChangeShapes Go.WideShapes Go.ChangeAt Go.RowKit

theorem Try.own : ownKnob Try.prog.godebug = none := by kernel_rfl
theorem Try.laidOut : laidOutB Try.prog = true := by kernel_rfl
theorem Try.cellsU8 : Try.prog.cellsOf 5 = 1 := by kernel_rfl
theorem Try.bytesU8 : Try.prog.bytesOf 5 = 1 := by kernel_rfl
theorem Try.readBytes : Try.prog.readableRec 22 = true ∧ 22 < Try.prog.types.size := ⟨by kernel_rfl, of_decide_eq_true (by kernel_rfl)⟩

set_option maxRecDepth 100000 in
theorem SumsCrc_lifted (os : Os) (started : os.Started) (H : Type) (enc : TypeId × Value → H) :
    ReturnsInHanded {} Try.checked os 3 .any (Rows.sumsCrcSpec.pre6 enc Try.prog Try.f3 Rows.sumsCrcRow.domain false) (Rows.sumsCrcSpec.post enc Try.prog Try.f3 false true false false) := by
  refine law_lift (C := Try.checked) Try.own started (by kernel_rfl) Try.func3
    (ChangeSpec.witness6 (enc := enc) (C := Try.checked) false ⟨#[], #[.slice none 0 0], []⟩ 8 (by kernel_rfl) (by kernel_rfl) (by kernel_rfl) (by kernel_rfl)) Try.laidOut rfl rfl Try.underlying4 ?_ ?_ ?_
  · rw [Try.params3]; intro t ht; simp at ht; subst ht; exact Try.readBytes
  · rw [Try.params3]; intro ds hd
    match ds, hd with
    | [d], _ => rfl
  · rw [Try.params3]
    intro W base args ds p hval hA hlt hsz
    obtain ⟨v0, d0, rfl, rfl, h0⟩ := trodAll_one hA
    obtain ⟨A, xs, c, rfl, hR, _, _, hw⟩ := open_rd (P := Try.prog) (j := 0) Try.underlying22 Try.underlying5 Try.cellsU8 (by rw [Try.bytesU8]; decide) (hval 0 _ v0 rfl rfl) h0 hlt hsz rfl rfl
    exact SumsCrc_calls c A xs W hR (bytes_wf hw)

theorem SumsCrc_holds : Rows.SumsCrcSaid :=
  OpenClaim.holds_of_wide 3 Try.f3 rfl rfl rfl rfl rfl rfl rfl ⟨rfl, rfl, rfl, rfl, rfl⟩ rfl rfl rfl rfl rfl (by kernel_rfl) Try.func3 (by kernel_rfl)
    (of_decide_eq_true (by kernel_rfl)) (by unfold Func.isWrapper; first | (rw [if_pos (by decide +kernel)]; kernel_rfl) | (rw [if_neg (by decide +kernel)]; exact ⟨rfl, rfl⟩))
    (fun os started H enc _ => SumsCrc_lifted os started H enc)
#print axioms SumsCrc_holds
end Go.Proofs.Yteepfkolibeekaa
