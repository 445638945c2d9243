/-
  For every secret, script, and another one on the Fork: what becomes of a Fork changes nothing; what is told is new memory (CookieForks).
  No condition but those that the row itself bears.
-/
import Derived.Test.YtaieajfgcnaedaaDoorRows
import Derived.Test.YtaieajfgcnaedaaDoorLaw
import Derived.Test.YtaieajfgcnaedaaDoorLawL
import Derived.Test.YtaieajfgcnaedaaDoorHashL
import Derived.Test.YtaieajfgcnaedaaDoorTie
import Derived.Test.YtaieajfgcnaedaaDoorCards
import Derived.SevenTiedAt
import Derived.Test.YtaieajfgcnaedaaDoorCookL
import Derived.Test.YtaieajfgcnaedaaDoorLawE
import Derived.Test.YtaieajfgcnaedaaDoorRefM
set_option linter.unusedVariables false
set_option linter.unusedSimpArgs false
namespace Go.Proofs.YtaieajfgcnaedaaDoor
open Go.ChangeShapes Go.WideShapes Go.ChangeAt Go.RowKit

set_option maxRecDepth 100000 in
theorem CookieForks_lifted (os : Os) (started : os.Started) (H : Type) (enc : TypeId × Value → H) :
    ReturnsInHanded {} Tryd.checked os 12 .any (fun w args => (Rows.cookieForksSpec.pre enc Tryd.prog Tryd.f12 [] false w args ∧ laidMetH Tryd.prog Rows.cookieForksRow.laid w) ∧ sizedMet enc Tryd.prog Tryd.f12 (OpenSpec.ofChange Rows.cookieForksSpec) false w args) (Rows.cookieForksSpec.post enc Tryd.prog Tryd.f12 false true false false) := by
  refine law_liftL (X := fun w => laidMetH Tryd.prog Rows.cookieForksRow.laid w) (fun _ _ hh h => h.of_heap hh) (C := Tryd.checked) Tryd.own started (by kernel_rfl) Tryd.func12
    (ChangeSpec.witness_at (enc := enc) (C := Tryd.checked) (os := os) (X := fun w _ => laidMetH Tryd.prog Rows.cookieForksRow.laid w) false (laidWorld os) #[.slice none 0 0, .slice none 0 0, .slice none 0 0] 8 rfl (by kernel_rfl) (by kernel_rfl) (by kernel_rfl) (by kernel_rfl) (by kernel_rfl) (laid_met os _)) Tryd.laidOut rfl rfl Tryd.underlying4 ?_ ?_ ?_
  · rw [Tryd.params12]; intro t ht; simp at ht; (first | subst ht | (rcases ht with rfl | rfl) | (rcases ht with rfl | rfl | rfl))
    all_goals exact ⟨by kernel_rfl, of_decide_eq_true (by kernel_rfl)⟩
  · rw [Tryd.params12]; intro ds hd
    match ds, hd with
    | [d0, d1, d2], _ => rfl
  · rw [Tryd.params12]
    intro W base args ds p hL hval hA hlt hsz
    have hT : Tab W := tab_of_laid hL
    obtain ⟨v0, v1, v2, d0, d1, d2, p0, p1, p2, rfl, rfl, rfl, h0, h1, h2⟩ := trodAll_three hA
    obtain ⟨A0, xs0, c0, rfl, hA0, hR0, hc0, hb0, hw0⟩ := open_rd (P := Tryd.prog) (j := 0) Tryd.underlying22 Tryd.underlying5 (by kernel_rfl) (of_decide_eq_true (by kernel_rfl)) (hval 0 _ v0 rfl rfl) h0 (fun x hx => hlt x (by simp [hx])) hsz rfl rfl
    rw [show Tryd.prog.bytesOf 5 = 1 from by kernel_rfl] at hb0
    obtain ⟨A1, L1, c1, rfl, hc1, hm1, hD1⟩ := open_dd (hval 1 _ v1 rfl rfl) h1 (fun x hx => hlt x (by simp [hx])) (fun x hx => by have := List.all_eq_true.1 hsz _ (DataW.weights_mem_each (j := 1) rfl rfl x hx); simpa using this)
    obtain ⟨A2, L2, c2, rfl, hc2, hm2, hD2⟩ := open_dd (hval 2 _ v2 rfl rfl) h2 (fun x hx => hlt x (by simp [hx])) (fun x hx => by have := List.all_eq_true.1 hsz _ (DataW.weights_mem_each (j := 2) rfl rfl x hx); simpa using this)
    exact CookieForks_calls c0 xs0.length c1 L1 c2 L2 A0 A1 A2 xs0 rfl W hT hR0 hA0 (bytes_wf hw0) (by omega) hD1 hc1 (by unfold maxLen at *; omega) hD2 hc2 (by unfold maxLen at *; omega)

theorem CookieForks_holds : Rows.CookieForksSaid :=
  OpenClaim.holds_of_wide 12 Tryd.f12 rfl rfl rfl rfl rfl rfl rfl ⟨rfl, rfl, rfl, rfl, rfl⟩ rfl rfl rfl rfl rfl (by kernel_rfl) Tryd.func12 (by kernel_rfl)
    (of_decide_eq_true (by kernel_rfl)) (by unfold Func.isWrapper; first | (rw [if_pos (by decide +kernel)]; kernel_rfl) | (rw [if_neg (by decide +kernel)]; exact ⟨rfl, rfl⟩))
    (fun os started H enc _ => CookieForks_lifted os started H enc)

theorem CookieForks_card : Rows.CookieForksCardSaid :=
  Claim7.holds_tied_plain_at .later [] [.data] true (true, "9b8077c4320926c6978f174e6083e937be5f79f7cab39be3c87bb1e4dd0455a0") false
    CookieForks_holds (fun _ h => by cases h) (by kernel_rfl) (fun _ h => by cases h) cookieForks_row_tie rfl ⟨rfl, rfl⟩ (by kernel_rfl) rfl
    (fun f fn hf hfn => by
      obtain rfl : f = 12 := Option.some.inj ((show Tryd.prog.funcNamed "trunkline/trunklinelaw06.CookieForks" = some 12 by kernel_rfl).symm.trans hf) |>.symm
      obtain rfl : fn = Tryd.f12 := (Option.some.inj (Tryd.func12.symm.trans hfn)).symm
      exact ⟨by kernel_rfl, fun j t ht => by
        rw [Tryd.params12] at ht
        have h3 : t ∈ Tryd.f12.params.toList := by
          rw [Tryd.params12]
          exact List.mem_of_getElem? (by simpa using ht)
        have h4 : Tryd.f12.params.toList.all (fun t => Tryd.prog.wantsStandIn t == false) = true := by kernel_rfl
        exact eq_of_beq (List.all_eq_true.1 h4 t h3)⟩)
    (by kernel_rfl)
#print axioms CookieForks_card

end Go.Proofs.YtaieajfgcnaedaaDoor
