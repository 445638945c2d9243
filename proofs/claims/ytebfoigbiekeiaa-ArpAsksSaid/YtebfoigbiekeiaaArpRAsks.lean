/-
  For every address, number of bodies, and steps of time: a neighbour that never answers is asked three times, and then forgotten, with what waits (ArpAsks).
  No condition but those that the row itself bears.
-/
import Derived.Test.YtebfoigbiekeiaaRows
import Derived.Test.YtebfoigbiekeiaaLaw
import Derived.Test.YtebfoigbiekeiaaArpL
set_option linter.unusedVariables false
set_option linter.unusedSimpArgs false
namespace Go.Proofs.Ytebfoigbiekeiaa
open Go.ChangeShapes Go.WideShapes Go.ChangeAt Go.RowKit

theorem Try.own : ownKnob Try.prog.godebug = none := by kernel_rfl
theorem Try.laidOut : laidOutB Try.prog = true := by kernel_rfl

set_option maxRecDepth 100000 in
theorem ArpAsks_lifted (os : Os) (started : os.Started) (H : Type) (enc : TypeId × Value → H) :
    ReturnsInHanded {} Try.checked os 7 .any (Rows.arpAsksSpec.pre6 enc Try.prog Try.f7 Rows.arpAsksRow.domain false) (Rows.arpAsksSpec.post enc Try.prog Try.f7 false true false false) := by
  refine law_lift (C := Try.checked) Try.own started (by kernel_rfl) Try.func7
    (ChangeSpec.witness6 (enc := enc) (C := Try.checked) false ⟨#[], #[.int .u32 0, .int .u8 0, .slice none 0 0], []⟩ 8 (by kernel_rfl) (by kernel_rfl) (by kernel_rfl) (by kernel_rfl)) Try.laidOut rfl rfl Try.underlying4 ?_ ?_ ?_
  · rw [Try.params7]; intro t ht; simp at ht; (first | subst ht | (rcases ht with rfl | rfl) | (rcases ht with rfl | rfl | rfl))
    all_goals exact ⟨by kernel_rfl, of_decide_eq_true (by kernel_rfl)⟩
  · rw [Try.params7]; intro ds hd
    match ds, hd with
    | [d0, d1, d2], _ => rfl
  · rw [Try.params7]
    intro W base args ds p hval hA hlt hsz
    obtain ⟨v0, v1, v2, d0, d1, d2, p0, p1, p2, rfl, rfl, rfl, h0, h1, h2⟩ := trodAll_three hA
    obtain ⟨x0, rfl, rfl, rfl, w0⟩ := open_int Try.underlying28 (hval 0 _ v0 rfl rfl) h0
    have r0 := int_wf w0
    simp [IntKind.min, IntKind.max, IntKind.signed, IntKind.bits] at r0
    obtain ⟨x1, rfl, rfl, rfl, w1⟩ := open_int Try.underlying5 (hval 1 _ v1 rfl rfl) h1
    have r1 := int_wf w1
    simp [IntKind.min, IntKind.max, IntKind.signed, IntKind.bits] at r1
    obtain ⟨A2, xs2, c2, rfl, hA2, hR2, hc2, hb2, hw2⟩ := open_rd (P := Try.prog) (j := 2) Try.underlying31 Try.underlying5 (by kernel_rfl) (of_decide_eq_true (by kernel_rfl)) (hval 2 _ v2 rfl rfl) h2 (fun x hx => hlt x (by simp [hx])) hsz rfl rfl
    rw [show Try.prog.bytesOf 5 = 1 from by kernel_rfl] at hb2
    exact ArpAsks_calls W x0 x1 (by omega) (by omega) A2 _ c2 xs2 rfl (bytes_wf hw2) hR2

theorem ArpAsks_holds : Rows.ArpAsksSaid :=
  OpenClaim.holds_of_wide 7 Try.f7 rfl rfl rfl rfl rfl rfl rfl ⟨rfl, rfl, rfl, rfl, rfl⟩ rfl rfl rfl rfl rfl (by kernel_rfl) Try.func7 (by kernel_rfl)
    (of_decide_eq_true (by kernel_rfl)) (by unfold Func.isWrapper; first | (rw [if_pos (by decide +kernel)]; kernel_rfl) | (rw [if_neg (by decide +kernel)]; exact ⟨rfl, rfl⟩))
    (fun os started H enc _ => ArpAsks_lifted os started H enc)
#print axioms ArpAsks_holds
end Go.Proofs.Ytebfoigbiekeiaa
