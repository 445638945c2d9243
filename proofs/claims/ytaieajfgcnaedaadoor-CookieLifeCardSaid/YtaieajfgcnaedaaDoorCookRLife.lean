/-
  For every secret, cookie and tick: a cookie lives from when it is made for its life, not a tick less or more (CookieLife).
  No condition but those that the row itself bears.
-/
import Derived.Test.YtaieajfgcnaedaaDoorRows
import Derived.Test.YtaieajfgcnaedaaDoorLaw
import Derived.Test.YtaieajfgcnaedaaDoorLawL
import Derived.Test.YtaieajfgcnaedaaDoorHashL
import Derived.Test.YtaieajfgcnaedaaDoorTie
import Derived.Test.YtaieajfgcnaedaaDoorCards
import Derived.SevenTiedAt
import Derived.Test.YtaieajfgcnaedaaDoorCookL
import Derived.Test.YtaieajfgcnaedaaDoorCookH
set_option linter.unusedVariables false
set_option linter.unusedSimpArgs false
namespace Go.Proofs.YtaieajfgcnaedaaDoor
open Go.ChangeShapes Go.WideShapes Go.ChangeAt Go.RowKit

set_option maxRecDepth 100000 in
theorem CookieLife_lifted (os : Os) (started : os.Started) (H : Type) (enc : TypeId × Value → H) :
    ReturnsInHanded {} Tryd.checked os 8 .any (fun w args => (Rows.cookieLifeSpec.pre enc Tryd.prog Tryd.f8 [] false w args ∧ laidMetH Tryd.prog Rows.cookieLifeRow.laid w) ∧ sizedMet enc Tryd.prog Tryd.f8 (OpenSpec.ofChange Rows.cookieLifeSpec) false w args) (Rows.cookieLifeSpec.post enc Tryd.prog Tryd.f8 false true false false) := by
  refine law_liftL (X := fun w => laidMetH Tryd.prog Rows.cookieLifeRow.laid w) (fun _ _ hh h => h.of_heap hh) (C := Tryd.checked) Tryd.own started (by kernel_rfl) Tryd.func8
    (ChangeSpec.witness_at (enc := enc) (C := Tryd.checked) (os := os) (X := fun w _ => laidMetH Tryd.prog Rows.cookieLifeRow.laid w) false (laidWorld os) #[.slice none 0 0, .agg #[.int .i64 0, .int .i64 0, .int .u16 0, .int .u16 0, .int .u32 0, .int .u32 0, .int .u32 0, .int .u32 0, .int .u32 0, .int .u16 0, .int .u16 0, .int .u32 0, .int .u32 0], .int .i64 0] 8 rfl (by kernel_rfl) (by kernel_rfl) (by kernel_rfl) (by kernel_rfl) (by kernel_rfl) (laid_met os _)) Tryd.laidOut rfl rfl Tryd.underlying4 ?_ ?_ ?_
  · rw [Tryd.params8]; intro t ht; simp at ht; (first | subst ht | (rcases ht with rfl | rfl) | (rcases ht with rfl | rfl | rfl))
    all_goals exact ⟨by kernel_rfl, of_decide_eq_true (by kernel_rfl)⟩
  · rw [Tryd.params8]; intro ds hd
    match ds, hd with
    | [d0, d1, d2], _ => rfl
  · rw [Tryd.params8]
    intro W base args ds p hL hval hA hlt hsz
    have hT : Tab W := tab_of_laid hL
    obtain ⟨v0, v1, v2, d0, d1, d2, p0, p1, p2, rfl, rfl, rfl, h0, h1, h2⟩ := trodAll_three hA
    obtain ⟨A0, xs0, c0, rfl, hA0, hR0, hc0, hb0, hw0⟩ := open_rd (P := Tryd.prog) (j := 0) Tryd.underlying22 Tryd.underlying5 (by kernel_rfl) (of_decide_eq_true (by kernel_rfl)) (hval 0 _ v0 rfl rfl) h0 (fun x hx => hlt x (by simp [hx])) hsz rfl rfl
    rw [show Tryd.prog.bytesOf 5 = 1 from by kernel_rfl] at hb0
    obtain ⟨ck1, rfl, ok1, rm1, rl1⟩ := open_ck (hval 1 _ v1 rfl rfl) h1
    obtain ⟨x2, rfl, rfl, rfl, w2⟩ := open_int Tryd.underlying3 (hval 2 _ v2 rfl rfl) h2
    have r2 := int_wf w2
    simp [IntKind.min, IntKind.max, IntKind.signed, IntKind.bits] at r2
    exact CookieLife_calls W hT c0 xs0.length A0 xs0 rfl hR0 (bytes_wf hw0) hA0 (by omega) ck1 ok1 x2 r2

theorem CookieLife_holds : Rows.CookieLifeSaid :=
  OpenClaim.holds_of_wide 8 Tryd.f8 rfl rfl rfl rfl rfl rfl rfl ⟨rfl, rfl, rfl, rfl, rfl⟩ rfl rfl rfl rfl rfl (by kernel_rfl) Tryd.func8 (by kernel_rfl)
    (of_decide_eq_true (by kernel_rfl)) (by unfold Func.isWrapper; first | (rw [if_pos (by decide +kernel)]; kernel_rfl) | (rw [if_neg (by decide +kernel)]; exact ⟨rfl, rfl⟩))
    (fun os started H enc _ => CookieLife_lifted os started H enc)

theorem CookieLife_card : Rows.CookieLifeCardSaid :=
  Claim7.holds_tied_plain_at .later [] [.data] true (true, "9b8077c4320926c6978f174e6083e937be5f79f7cab39be3c87bb1e4dd0455a0") false
    CookieLife_holds (fun _ h => by cases h) (by kernel_rfl) (fun _ h => by cases h) cookieLife_row_tie rfl ⟨rfl, rfl⟩ (by kernel_rfl) rfl
    (fun f fn hf hfn => by
      obtain rfl : f = 8 := Option.some.inj ((show Tryd.prog.funcNamed "trunkline/trunklinelaw06.CookieLife" = some 8 by kernel_rfl).symm.trans hf) |>.symm
      obtain rfl : fn = Tryd.f8 := (Option.some.inj (Tryd.func8.symm.trans hfn)).symm
      exact ⟨by kernel_rfl, fun j t ht => by
        rw [Tryd.params8] at ht
        have h3 : t ∈ Tryd.f8.params.toList := by
          rw [Tryd.params8]
          exact List.mem_of_getElem? (by simpa using ht)
        have h4 : Tryd.f8.params.toList.all (fun t => Tryd.prog.wantsStandIn t == false) = true := by kernel_rfl
        exact eq_of_beq (List.all_eq_true.1 h4 t h3)⟩)
    (by kernel_rfl)
#print axioms CookieLife_card

end Go.Proofs.YtaieajfgcnaedaaDoor
