/-
  For every key and every row of bytes: the sum under the key is the reference's (HashMacs).
  No condition but those that the row itself bears.
-/
import Derived.Test.YtaieajfgcnaedaaDoorRows
import Derived.Test.YtaieajfgcnaedaaDoorLaw
import Derived.Test.YtaieajfgcnaedaaDoorLawL
import Derived.Test.YtaieajfgcnaedaaDoorHashL
import Derived.Test.YtaieajfgcnaedaaDoorTie
import Derived.Test.YtaieajfgcnaedaaDoorCards
import Derived.SevenTiedAt
import Derived.Test.YtaieajfgcnaedaaDoorHashN
set_option linter.unusedVariables false
set_option linter.unusedSimpArgs false
namespace Go.Proofs.YtaieajfgcnaedaaDoor
open Go.ChangeShapes Go.WideShapes Go.ChangeAt Go.RowKit

set_option maxRecDepth 100000 in
theorem HashMacs_lifted (os : Os) (started : os.Started) (H : Type) (enc : TypeId × Value → H) :
    ReturnsInHanded {} Tryd.checked os 4 .any (fun w args => (Rows.hashMacsSpec.pre enc Tryd.prog Tryd.f4 [] false w args ∧ laidMetH Tryd.prog Rows.hashMacsRow.laid w) ∧ sizedMet enc Tryd.prog Tryd.f4 (OpenSpec.ofChange Rows.hashMacsSpec) false w args) (Rows.hashMacsSpec.post enc Tryd.prog Tryd.f4 false true false false) := by
  refine law_liftL (X := fun w => laidMetH Tryd.prog Rows.hashMacsRow.laid w) (fun _ _ hh h => h.of_heap hh) (C := Tryd.checked) Tryd.own started (by kernel_rfl) Tryd.func4
    (ChangeSpec.witness_at (enc := enc) (C := Tryd.checked) (os := os) (X := fun w _ => laidMetH Tryd.prog Rows.hashMacsRow.laid w) false (laidWorld os) #[.slice none 0 0, .slice none 0 0] 8 rfl (by kernel_rfl) (by kernel_rfl) (by kernel_rfl) (by kernel_rfl) (by kernel_rfl) (laid_met os _)) Tryd.laidOut rfl rfl Tryd.underlying4 ?_ ?_ ?_
  · rw [Tryd.params4]; intro t ht; simp at ht; (first | subst ht | (rcases ht with rfl | rfl) | (rcases ht with rfl | rfl | rfl))
    all_goals exact ⟨by kernel_rfl, of_decide_eq_true (by kernel_rfl)⟩
  · rw [Tryd.params4]; intro ds hd
    match ds, hd with
    | [d0, d1], _ => rfl
  · rw [Tryd.params4]
    intro W base args ds p hL hval hA hlt hsz
    have hT : Tab W := tab_of_laid hL
    obtain ⟨v0, v1, d0, d1, p0, p1, rfl, rfl, rfl, h0, h1⟩ := trodAll_two hA
    obtain ⟨A0, xs0, c0, rfl, hA0, hR0, hc0, hb0, hw0⟩ := open_rd (P := Tryd.prog) (j := 0) Tryd.underlying22 Tryd.underlying5 (by kernel_rfl) (of_decide_eq_true (by kernel_rfl)) (hval 0 _ v0 rfl rfl) h0 (fun x hx => hlt x (by simp [hx])) hsz rfl rfl
    rw [show Tryd.prog.bytesOf 5 = 1 from by kernel_rfl] at hb0
    obtain ⟨A1, xs1, c1, rfl, hA1, hR1, hc1, hb1, hw1⟩ := open_rd (P := Tryd.prog) (j := 1) Tryd.underlying22 Tryd.underlying5 (by kernel_rfl) (of_decide_eq_true (by kernel_rfl)) (hval 1 _ v1 rfl rfl) h1 (fun x hx => hlt x (by simp [hx])) hsz rfl rfl
    rw [show Tryd.prog.bytesOf 5 = 1 from by kernel_rfl] at hb1
    exact HashMacs_calls W hT c0 xs0.length c1 xs1.length A0 A1 xs0 xs1 rfl rfl hR0 hR1 (bytes_wf hw0) (bytes_wf hw1) hA0 hA1 (by omega) (by omega)

theorem HashMacs_holds : Rows.HashMacsSaid :=
  OpenClaim.holds_of_wide 4 Tryd.f4 rfl rfl rfl rfl rfl rfl rfl ⟨rfl, rfl, rfl, rfl, rfl⟩ rfl rfl rfl rfl rfl (by kernel_rfl) Tryd.func4 (by kernel_rfl)
    (of_decide_eq_true (by kernel_rfl)) (by unfold Func.isWrapper; first | (rw [if_pos (by decide +kernel)]; kernel_rfl) | (rw [if_neg (by decide +kernel)]; exact ⟨rfl, rfl⟩))
    (fun os started H enc _ => HashMacs_lifted os started H enc)

theorem HashMacs_card : Rows.HashMacsCardSaid :=
  Claim7.holds_tied_plain_at .later [] [.data] true (true, "9b8077c4320926c6978f174e6083e937be5f79f7cab39be3c87bb1e4dd0455a0") false
    HashMacs_holds (fun _ h => by cases h) (by kernel_rfl) (fun _ h => by cases h) hashMacs_row_tie rfl ⟨rfl, rfl⟩ (by kernel_rfl) rfl
    (fun f fn hf hfn => by
      obtain rfl : f = 4 := Option.some.inj ((show Tryd.prog.funcNamed "trunkline/trunklinelaw05.HashMacs" = some 4 by kernel_rfl).symm.trans hf) |>.symm
      obtain rfl : fn = Tryd.f4 := (Option.some.inj (Tryd.func4.symm.trans hfn)).symm
      exact ⟨by kernel_rfl, fun j t ht => by
        rw [Tryd.params4] at ht
        have h3 : t ∈ Tryd.f4.params.toList := by
          rw [Tryd.params4]
          exact List.mem_of_getElem? (by simpa using ht)
        have h4 : Tryd.f4.params.toList.all (fun t => Tryd.prog.wantsStandIn t == false) = true := by kernel_rfl
        exact eq_of_beq (List.all_eq_true.1 h4 t h3)⟩)
    (by kernel_rfl)
#print axioms HashMacs_card

end Go.Proofs.YtaieajfgcnaedaaDoor
