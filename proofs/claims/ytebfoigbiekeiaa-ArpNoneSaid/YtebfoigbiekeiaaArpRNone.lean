/-
  For every bytes, question and tick: a nil cache answers so (ArpNone).
  No condition but those that the row itself bears.
-/
import Derived.Test.YtebfoigbiekeiaaRows
import Derived.Test.YtebfoigbiekeiaaLaw
import Derived.Test.YtebfoigbiekeiaaArpN
set_option linter.unusedVariables false
set_option linter.unusedSimpArgs false
namespace Go.Proofs.Ytebfoigbiekeiaa
open Go.ChangeShapes Go.WideShapes Go.ChangeAt Go.RowKit

theorem Try.own : ownKnob Try.prog.godebug = none := by kernel_rfl
theorem Try.laidOut : laidOutB Try.prog = true := by kernel_rfl

set_option maxRecDepth 100000 in
theorem arp_cells {W : World} {base : Nat} {v : Value} (h : Value.okWide Try.prog W .any base 40 v) : ∃ a0 a1 a2 a3 a4, v = .agg #[a0, a1, a2, a3, a4] ∧ a0.oneCell' = true ∧ a1.oneCell' = true ∧ a2.oneCell' = true ∧ a3.oneCell' = true ∧ a4.oneCell' = true := by
  obtain ⟨cs, rfl, hsz, ts, _, _, hc⟩ : ∃ cs, v = .agg cs ∧ cs.size = Try.prog.cellsOf 40 ∧ Row.okWide Try.prog W .any base 40 cs := by
    simpa [Value.okWide, Try.underlying40] using h
  have hs5 : cs.size = 5 := hsz.trans (by kernel_rfl)
  obtain ⟨c0, c1, c2, c3, c4, rfl⟩ : ∃ c0 c1 c2 c3 c4, cs = #[c0, c1, c2, c3, c4] := by
    obtain ⟨l⟩ := cs
    match l, hs5 with
    | [a, b, c, d, e], _ => exact ⟨a, b, c, d, e, rfl⟩
  refine ⟨c0, c1, c2, c3, c4, rfl, ?_, ?_, ?_, ?_, ?_⟩
  · obtain ⟨u, _, q⟩ := hc 0 c0 rfl; exact cell_one q
  · obtain ⟨u, _, q⟩ := hc 1 c1 rfl; exact cell_one q
  · obtain ⟨u, _, q⟩ := hc 2 c2 rfl; exact cell_one q
  · obtain ⟨u, _, q⟩ := hc 3 c3 rfl; exact cell_one q
  · obtain ⟨u, _, q⟩ := hc 4 c4 rfl; exact cell_one q
set_option maxRecDepth 100000 in
theorem ArpNone_lifted (os : Os) (started : os.Started) (H : Type) (enc : TypeId × Value → H) :
    ReturnsInHanded {} Try.checked os 9 .any (Rows.arpNoneSpec.pre6 enc Try.prog Try.f9 Rows.arpNoneRow.domain false) (Rows.arpNoneSpec.post enc Try.prog Try.f9 false true false false) := by
  refine law_lift (C := Try.checked) Try.own started (by kernel_rfl) Try.func9
    (ChangeSpec.witness6 (enc := enc) (C := Try.checked) false ⟨#[], #[.slice none 0 0, .agg #[.int .i64 0, .int .u64 0, .int .u32 0, .int .u64 0, .int .u32 0], .int .i64 0], []⟩ 8 (by kernel_rfl) (by kernel_rfl) (by kernel_rfl) (by kernel_rfl)) Try.laidOut rfl rfl Try.underlying4 ?_ ?_ ?_
  · rw [Try.params9]; intro t ht; simp at ht; (first | subst ht | (rcases ht with rfl | rfl) | (rcases ht with rfl | rfl | rfl))
    all_goals exact ⟨by kernel_rfl, of_decide_eq_true (by kernel_rfl)⟩
  · rw [Try.params9]; intro ds hd
    match ds, hd with
    | [d0, d1, d2], _ => rfl
  · rw [Try.params9]
    intro W base args ds p hval hA hlt hsz
    obtain ⟨v0, v1, v2, d0, d1, d2, p0, p1, p2, rfl, rfl, rfl, h0, h1, h2⟩ := trodAll_three hA
    obtain ⟨a0, a1, a2, a3, a4, rfl, k0, k1, k2, k3, k4⟩ := arp_cells (hval 1 _ v1 rfl rfl)
    obtain ⟨A0, len0, cap0, rfl⟩ := okWide_slice Try.underlying31 (hval 0 _ v0 rfl rfl)
    obtain ⟨x2, rfl, rfl, rfl, w2⟩ := open_int Try.underlying3 (hval 2 _ v2 rfl rfl) h2
    exact ArpNone_calls W _ a0 a1 a2 a3 a4 _ rfl k0 k1 k2 k3 k4 rfl

theorem ArpNone_holds : Rows.ArpNoneSaid :=
  OpenClaim.holds_of_wide 9 Try.f9 rfl rfl rfl rfl rfl rfl rfl ⟨rfl, rfl, rfl, rfl, rfl⟩ rfl rfl rfl rfl rfl (by kernel_rfl) Try.func9 (by kernel_rfl)
    (of_decide_eq_true (by kernel_rfl)) (by unfold Func.isWrapper; first | (rw [if_pos (by decide +kernel)]; kernel_rfl) | (rw [if_neg (by decide +kernel)]; exact ⟨rfl, rfl⟩))
    (fun os started H enc _ => ArpNone_lifted os started H enc)
#print axioms ArpNone_holds
end Go.Proofs.Ytebfoigbiekeiaa
