/-
  For every bodies, and at which of them the answer comes: bodies for one address leave in the order in which they were sent (ArpOrder).
  No condition but those that the row itself bears.
-/
import Derived.Test.YtebfoigbiekeiaaRows
import Derived.Test.YtebfoigbiekeiaaLaw
import Derived.Test.YtebfoigbiekeiaaArpW
import Derived.Test.YtebfoigbiekeiaaLawG
set_option linter.unusedVariables false
set_option linter.unusedSimpArgs false
namespace Go.Proofs.Ytebfoigbiekeiaa
open Go.ChangeShapes Go.WideShapes Go.ChangeAt Go.RowKit

theorem Try.own : ownKnob Try.prog.godebug = none := by kernel_rfl
theorem Try.laidOut : laidOutB Try.prog = true := by kernel_rfl

set_option maxRecDepth 100000 in
theorem ArpOrder_lifted (os : Os) (started : os.Started) (H : Type) (enc : TypeId × Value → H) :
    ReturnsInHanded {} Try.checked os 3 .any (Rows.arpOrderSpec.pre6 enc Try.prog Try.f3 Rows.arpOrderRow.domain false) (Rows.arpOrderSpec.post enc Try.prog Try.f3 false true false false) := by
  refine law_lift (C := Try.checked) Try.own started (by kernel_rfl) Try.func3
    (ChangeSpec.witness6 (enc := enc) (C := Try.checked) false ⟨#[], #[.slice none 0 0, .int .u8 0], []⟩ 8 (by kernel_rfl) (by kernel_rfl) (by kernel_rfl) (by kernel_rfl)) Try.laidOut rfl rfl Try.underlying4 ?_ ?_ ?_
  · rw [Try.params3]; intro t ht; simp at ht; (first | subst ht | (rcases ht with rfl | rfl) | (rcases ht with rfl | rfl | rfl))
    all_goals exact ⟨by kernel_rfl, of_decide_eq_true (by kernel_rfl)⟩
  · rw [Try.params3]; intro ds hd
    match ds, hd with
    | [d0, d1], _ => rfl
  · rw [Try.params3]
    intro W base args ds p hval hA hlt hsz
    obtain ⟨v0, v1, d0, d1, p0, p1, rfl, rfl, rfl, h0, h1⟩ := trodAll_two hA
    obtain ⟨A0, L0, c0, rfl, hc0, hm0, hD0⟩ := open_bb (hval 0 _ v0 rfl rfl) h0 (fun x hx => hlt x (by simp [hx])) (fun x hx => by have := List.all_eq_true.1 hsz _ (DataW.weights_mem_each (j := 0) rfl rfl x hx); simpa using this)
    obtain ⟨x1, rfl, rfl, rfl, w1⟩ := open_int Try.underlying5 (hval 1 _ v1 rfl rfl) h1
    have r1 := int_wf w1
    simp [IntKind.min, IntKind.max, IntKind.signed, IntKind.bits] at r1
    exact ArpOrder_calls W x1 (by omega) A0 L0 c0 hD0

theorem ArpOrder_holds : Rows.ArpOrderSaid :=
  OpenClaim.holds_of_wide 3 Try.f3 rfl rfl rfl rfl rfl rfl rfl ⟨rfl, rfl, rfl, rfl, rfl⟩ rfl rfl rfl rfl rfl (by kernel_rfl) Try.func3 (by kernel_rfl)
    (of_decide_eq_true (by kernel_rfl)) (by unfold Func.isWrapper; first | (rw [if_pos (by decide +kernel)]; kernel_rfl) | (rw [if_neg (by decide +kernel)]; exact ⟨rfl, rfl⟩))
    (fun os started H enc _ => ArpOrder_lifted os started H enc)
#print axioms ArpOrder_holds
end Go.Proofs.Ytebfoigbiekeiaa
