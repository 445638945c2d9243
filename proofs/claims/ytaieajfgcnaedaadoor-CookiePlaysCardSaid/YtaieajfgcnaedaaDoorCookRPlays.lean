/-
  For every secret and script (of up to 40 deeds): keys turn, seal and open just as the document says, whatever bytes come (CookiePlays).
  No condition but those that the row itself bears.
-/
import Derived.Test.YtaieajfgcnaedaaDoorRows
import Derived.Test.YtaieajfgcnaedaaDoorLaw
import Derived.Test.YtaieajfgcnaedaaDoorLawL
import Derived.Test.YtaieajfgcnaedaaDoorHashL
import Derived.Test.YtaieajfgcnaedaaDoorTie
import Derived.Test.YtaieajfgcnaedaaDoorCards
import Derived.SevenTiedAt
import Derived.Test.YtaieajfgcnaedaaDoorCookL
import Derived.Test.YtaieajfgcnaedaaDoorLawE
set_option linter.unusedVariables false
set_option linter.unusedSimpArgs false
namespace Go.Proofs.YtaieajfgcnaedaaDoor
open Go.ChangeShapes Go.WideShapes Go.ChangeAt Go.RowKit

set_option maxRecDepth 100000 in
theorem CookiePlays_lifted (os : Os) (started : os.Started) (H : Type) (enc : TypeId × Value → H) :
    ReturnsInHanded {} Tryd.checked os 10 .any (fun w args => (Rows.cookiePlaysSpec.pre enc Tryd.prog Tryd.f10 [] false w args ∧ laidMetH Tryd.prog Rows.cookiePlaysRow.laid w) ∧ sizedMet enc Tryd.prog Tryd.f10 (OpenSpec.ofChange Rows.cookiePlaysSpec) false w args) (Rows.cookiePlaysSpec.post enc Tryd.prog Tryd.f10 false true false false) := by
  refine law_liftL (X := fun w => laidMetH Tryd.prog Rows.cookiePlaysRow.laid w) (fun _ _ hh h => h.of_heap hh) (C := Tryd.checked) Tryd.own started (by kernel_rfl) Tryd.func10
    (ChangeSpec.witness_at (enc := enc) (C := Tryd.checked) (os := os) (X := fun w _ => laidMetH Tryd.prog Rows.cookiePlaysRow.laid w) false (laidWorld os) #[.slice none 0 0, .slice none 0 0] 8 rfl (by kernel_rfl) (by kernel_rfl) (by kernel_rfl) (by kernel_rfl) (by kernel_rfl) (laid_met os _)) Tryd.laidOut rfl rfl Tryd.underlying4 ?_ ?_ ?_
  · rw [Tryd.params10]; intro t ht; simp at ht; (first | subst ht | (rcases ht with rfl | rfl) | (rcases ht with rfl | rfl | rfl))
    all_goals exact ⟨by kernel_rfl, of_decide_eq_true (by kernel_rfl)⟩
  · rw [Tryd.params10]; intro ds hd
    match ds, hd with
    | [d0, d1], _ => rfl
  · rw [Tryd.params10]
    intro W base args ds p hL hval hA hlt hsz
    have hT : Tab W := tab_of_laid hL
    obtain ⟨v0, v1, d0, d1, p0, p1, rfl, rfl, rfl, h0, h1⟩ := trodAll_two hA
    obtain ⟨A0, xs0, c0, rfl, hA0, hR0, hc0, hb0, hw0⟩ := open_rd (P := Tryd.prog) (j := 0) Tryd.underlying22 Tryd.underlying5 (by kernel_rfl) (of_decide_eq_true (by kernel_rfl)) (hval 0 _ v0 rfl rfl) h0 (fun x hx => hlt x (by simp [hx])) hsz rfl rfl
    rw [show Tryd.prog.bytesOf 5 = 1 from by kernel_rfl] at hb0
    obtain ⟨A1, L1, c1, rfl, hc1, hm1, hD1⟩ := open_dd (hval 1 _ v1 rfl rfl) h1 (fun x hx => hlt x (by simp [hx])) (fun x hx => by have := List.all_eq_true.1 hsz _ (DataW.weights_mem_each (j := 1) rfl rfl x hx); simpa using this)
    exact CookiePlays_calls c0 xs0.length c1 L1 A0 A1 xs0 rfl W hT hR0 hA0 (bytes_wf hw0) (by omega) hD1 hc1 (by unfold maxLen at *; omega)

theorem CookiePlays_holds : Rows.CookiePlaysSaid :=
  OpenClaim.holds_of_wide 10 Tryd.f10 rfl rfl rfl rfl rfl rfl rfl ⟨rfl, rfl, rfl, rfl, rfl⟩ rfl rfl rfl rfl rfl (by kernel_rfl) Tryd.func10 (by kernel_rfl)
    (of_decide_eq_true (by kernel_rfl)) (by unfold Func.isWrapper; first | (rw [if_pos (by decide +kernel)]; kernel_rfl) | (rw [if_neg (by decide +kernel)]; exact ⟨rfl, rfl⟩))
    (fun os started H enc _ => CookiePlays_lifted os started H enc)

theorem CookiePlays_card : Rows.CookiePlaysCardSaid :=
  Claim7.holds_tied_plain_at .later [] [.data] true (true, "9b8077c4320926c6978f174e6083e937be5f79f7cab39be3c87bb1e4dd0455a0") false
    CookiePlays_holds (fun _ h => by cases h) (by kernel_rfl) (fun _ h => by cases h) cookiePlays_row_tie rfl ⟨rfl, rfl⟩ (by kernel_rfl) rfl
    (fun f fn hf hfn => by
      obtain rfl : f = 10 := Option.some.inj ((show Tryd.prog.funcNamed "trunkline/trunklinelaw06.CookiePlays" = some 10 by kernel_rfl).symm.trans hf) |>.symm
      obtain rfl : fn = Tryd.f10 := (Option.some.inj (Tryd.func10.symm.trans hfn)).symm
      exact ⟨by kernel_rfl, fun j t ht => by
        rw [Tryd.params10] at ht
        have h3 : t ∈ Tryd.f10.params.toList := by
          rw [Tryd.params10]
          exact List.mem_of_getElem? (by simpa using ht)
        have h4 : Tryd.f10.params.toList.all (fun t => Tryd.prog.wantsStandIn t == false) = true := by kernel_rfl
        exact eq_of_beq (List.all_eq_true.1 h4 t h3)⟩)
    (by kernel_rfl)
#print axioms CookiePlays_card

end Go.Proofs.YtaieajfgcnaedaaDoor
