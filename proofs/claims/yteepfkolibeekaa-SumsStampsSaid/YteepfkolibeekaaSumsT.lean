/-
  For every bytes: a packet's sum is laid into it as the document says, and told to be there (SumsStamps).
  No condition but those that the row itself bears.
-/
import Derived.Test.YteepfkolibeekaaRows
import Derived.Test.YteepfkolibeekaaLaw
import Derived.Test.YteepfkolibeekaaSumsR
set_option linter.unusedVariables false
set_option linter.unusedSimpArgs false
namespace Go.Proofs.Yteepfkolibeekaa
open Go.ChangeShapes Go.WideShapes Go.ChangeAt Go.RowKit

theorem Try.own : ownKnob Try.prog.godebug = none := by kernel_rfl
theorem Try.laidOut : laidOutB Try.prog = true := by kernel_rfl

set_option maxRecDepth 100000 in
theorem SumsStamps_lifted (os : Os) (started : os.Started) (H : Type) (enc : TypeId × Value → H) :
    ReturnsInHanded {} Try.checked os 10 .any (Rows.sumsStampsSpec.pre6 enc Try.prog Try.f10 Rows.sumsStampsRow.domain false) (Rows.sumsStampsSpec.post enc Try.prog Try.f10 false true false false) := by
  refine law_lift (C := Try.checked) Try.own started (by kernel_rfl) Try.func10
    (ChangeSpec.witness6 (enc := enc) (C := Try.checked) false ⟨#[], #[.slice none 0 0], []⟩ 8 (by kernel_rfl) (by kernel_rfl) (by kernel_rfl) (by kernel_rfl)) Try.laidOut rfl rfl Try.underlying4 ?_ ?_ ?_
  · rw [Try.params10]; intro t ht; simp at ht; subst ht
    all_goals exact ⟨by kernel_rfl, of_decide_eq_true (by kernel_rfl)⟩
  · rw [Try.params10]; intro ds hd
    match ds, hd with
    | [d0], _ => rfl
  · rw [Try.params10]
    intro W base args ds p hval hA hlt hsz
    obtain ⟨v0, d0, rfl, rfl, h0⟩ := trodAll_one hA
    obtain ⟨A0, xs0, c0, rfl, hA0, hR0, hc0, hb0, hw0⟩ := open_rd (P := Try.prog) (j := 0) Try.underlying22 Try.underlying5 (by kernel_rfl) (of_decide_eq_true (by kernel_rfl)) (hval 0 _ v0 rfl rfl) h0 hlt hsz rfl rfl
    rw [show Try.prog.bytesOf 5 = 1 from by kernel_rfl] at hb0
    exact SumsStamps_calls c0 xs0.length A0 xs0 rfl W hR0 (bytes_wf hw0) hA0 (by omega)

theorem SumsStamps_holds : Rows.SumsStampsSaid :=
  OpenClaim.holds_of_wide 10 Try.f10 rfl rfl rfl rfl rfl rfl rfl ⟨rfl, rfl, rfl, rfl, rfl⟩ rfl rfl rfl rfl rfl (by kernel_rfl) Try.func10 (by kernel_rfl)
    (of_decide_eq_true (by kernel_rfl)) (by unfold Func.isWrapper; first | (rw [if_pos (by decide +kernel)]; kernel_rfl) | (rw [if_neg (by decide +kernel)]; exact ⟨rfl, rfl⟩))
    (fun os started H enc _ => SumsStamps_lifted os started H enc)
#print axioms SumsStamps_holds
end Go.Proofs.Yteepfkolibeekaa
