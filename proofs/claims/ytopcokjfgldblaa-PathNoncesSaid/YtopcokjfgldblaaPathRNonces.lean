/-
  For every script, two nonces and ticks: a nonce that was not sent, or was answered, is no answer and changes nothing (PathNonces).
  No condition but those that the row itself bears.
-/
import Derived.Test.YtopcokjfgldblaaRows
import Derived.Test.YtopcokjfgldblaaLaw
import Derived.Test.YtopcokjfgldblaaPathT
import Derived.Test.YtopcokjfgldblaaLawD
set_option linter.unusedVariables false
set_option linter.unusedSimpArgs false
namespace Go.Proofs.Ytopcokjfgldblaa
open Go.ChangeShapes Go.WideShapes Go.ChangeAt Go.RowKit

theorem Try.own : ownKnob Try.prog.godebug = none := by kernel_rfl
theorem Try.laidOut : laidOutB Try.prog = true := by kernel_rfl

set_option maxRecDepth 100000 in
theorem PathNonces_lifted (os : Os) (started : os.Started) (H : Type) (enc : TypeId × Value → H) :
    ReturnsInHanded {} Try.checked os 8 .any (Rows.pathNoncesSpec.pre6 enc Try.prog Try.f8 Rows.pathNoncesRow.domain false) (Rows.pathNoncesSpec.post enc Try.prog Try.f8 false true false false) := by
  refine law_lift (C := Try.checked) Try.own started (by kernel_rfl) Try.func8
    (ChangeSpec.witness6 (enc := enc) (C := Try.checked) false ⟨#[], #[.slice none 0 0, .agg #[.int .u64 0, .int .u64 0], .agg #[.int .u32 0, .int .u32 0]], []⟩ 8 (by kernel_rfl) (by kernel_rfl) (by kernel_rfl) (by kernel_rfl)) Try.laidOut rfl rfl Try.underlying4 ?_ ?_ ?_
  · rw [Try.params8]; intro t ht; simp at ht; (first | subst ht | (rcases ht with rfl | rfl) | (rcases ht with rfl | rfl | rfl))
    all_goals exact ⟨by kernel_rfl, of_decide_eq_true (by kernel_rfl)⟩
  · rw [Try.params8]; intro ds hd
    match ds, hd with
    | [d0, d1, d2], _ => rfl
  · rw [Try.params8]
    intro W base args ds p hval hA hlt hsz
    obtain ⟨v0, v1, v2, d0, d1, d2, p0, p1, p2, rfl, rfl, rfl, h0, h1, h2⟩ := trodAll_three hA
    obtain ⟨A0, L0, c0, rfl, hc0, hm0, hR0, hO0⟩ := open_deeds (hval 0 _ v0 rfl rfl) h0 (fun x hx => hlt x (by simp [hx]))
    obtain ⟨x10, x11, rfl, rfl, z10, z11⟩ := open_arr2 Try.underlying52 Try.underlying48 (by kernel_rfl) (by kernel_rfl) (hval 1 _ v1 rfl rfl) h1
    have r10 := int_wf z10
    have r11 := int_wf z11
    simp [IntKind.min, IntKind.max, IntKind.signed, IntKind.bits] at r10 r11
    obtain ⟨x20, x21, rfl, rfl, z20, z21⟩ := open_arr2 Try.underlying54 Try.underlying53 (by kernel_rfl) (by kernel_rfl) (hval 2 _ v2 rfl rfl) h2
    have r20 := int_wf z20
    have r21 := int_wf z21
    simp [IntKind.min, IntKind.max, IntKind.signed, IntKind.bits] at r20 r21
    exact PathNonces_calls c0 _ A0 L0 rfl W hR0 hO0 hc0 (by unfold maxLen at *; omega) x10 x11 x20 x21 r10.1 r10.2 r11.1 r11.2 r20.1 r20.2 r21.1 r21.2

theorem PathNonces_holds : Rows.PathNoncesSaid :=
  OpenClaim.holds_of_wide 8 Try.f8 rfl rfl rfl rfl rfl rfl rfl ⟨rfl, rfl, rfl, rfl, rfl⟩ rfl rfl rfl rfl rfl (by kernel_rfl) Try.func8 (by kernel_rfl)
    (of_decide_eq_true (by kernel_rfl)) (by unfold Func.isWrapper; first | (rw [if_pos (by decide +kernel)]; kernel_rfl) | (rw [if_neg (by decide +kernel)]; exact ⟨rfl, rfl⟩))
    (fun os started H enc _ => PathNonces_lifted os started H enc)
#print axioms PathNonces_holds
end Go.Proofs.Ytopcokjfgldblaa
