/-
  For every address and script: every body is told in a frame once, or waits, or is lost (ArpCounts).
  No condition but those that the row itself bears.
-/
import Derived.Test.YtebfoigbiekeiaaRows
import Derived.Test.YtebfoigbiekeiaaLaw
import Derived.Test.YtebfoigbiekeiaaArpS
import Derived.Test.YtebfoigbiekeiaaLawF
set_option linter.unusedVariables false
set_option linter.unusedSimpArgs false
namespace Go.Proofs.Ytebfoigbiekeiaa
open Go.ChangeShapes Go.WideShapes Go.ChangeAt Go.RowKit

theorem Try.own : ownKnob Try.prog.godebug = none := by kernel_rfl
theorem Try.laidOut : laidOutB Try.prog = true := by kernel_rfl

set_option maxRecDepth 100000 in
theorem ArpCounts_lifted (os : Os) (started : os.Started) (H : Type) (enc : TypeId × Value → H) :
    ReturnsInHanded {} Try.checked os 6 .any (Rows.arpCountsSpec.pre6 enc Try.prog Try.f6 Rows.arpCountsRow.domain false) (Rows.arpCountsSpec.post enc Try.prog Try.f6 false true false false) := by
  refine law_lift (C := Try.checked) Try.own started (by kernel_rfl) Try.func6
    (ChangeSpec.witness6 (enc := enc) (C := Try.checked) false ⟨#[], #[.int .u32 0, .slice none 0 0], []⟩ 8 (by kernel_rfl) (by kernel_rfl) (by kernel_rfl) (by kernel_rfl)) Try.laidOut rfl rfl Try.underlying4 ?_ ?_ ?_
  · rw [Try.params6]; intro t ht; simp at ht; (first | subst ht | (rcases ht with rfl | rfl) | (rcases ht with rfl | rfl | rfl))
    all_goals exact ⟨by kernel_rfl, of_decide_eq_true (by kernel_rfl)⟩
  · rw [Try.params6]; intro ds hd
    match ds, hd with
    | [d0, d1], _ => rfl
  · rw [Try.params6]
    intro W base args ds p hval hA hlt hsz
    obtain ⟨v0, v1, d0, d1, p0, p1, rfl, rfl, rfl, h0, h1⟩ := trodAll_two hA
    obtain ⟨x0, rfl, rfl, rfl, w0⟩ := open_int Try.underlying28 (hval 0 _ v0 rfl rfl) h0
    have r0 := int_wf w0
    simp [IntKind.min, IntKind.max, IntKind.signed, IntKind.bits] at r0
    obtain ⟨A1, L1, c1, rfl, hc1, hm1, hD1⟩ := open_d9 (hval 1 _ v1 rfl rfl) h1 (fun x hx => hlt x (by simp [hx])) (fun x hx => by have := List.all_eq_true.1 hsz _ (DataW.weights_mem_each (j := 1) rfl rfl x hx); simpa using this)
    exact ArpCounts_calls W x0 (by omega) A1 L1 c1 hD1 hc1 (by unfold maxLen at *; omega)

theorem ArpCounts_holds : Rows.ArpCountsSaid :=
  OpenClaim.holds_of_wide 6 Try.f6 rfl rfl rfl rfl rfl rfl rfl ⟨rfl, rfl, rfl, rfl, rfl⟩ rfl rfl rfl rfl rfl (by kernel_rfl) Try.func6 (by kernel_rfl)
    (of_decide_eq_true (by kernel_rfl)) (by unfold Func.isWrapper; first | (rw [if_pos (by decide +kernel)]; kernel_rfl) | (rw [if_neg (by decide +kernel)]; exact ⟨rfl, rfl⟩))
    (fun os started H enc _ => ArpCounts_lifted os started H enc)
#print axioms ArpCounts_holds
end Go.Proofs.Ytebfoigbiekeiaa
