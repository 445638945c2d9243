/-
  For every row of bytes: a nil hash answers ErrNil, the sum of zeros and nil (HashNone).
  No condition but those that the row itself bears.
-/
import Derived.Test.YtaieajfgcnaedaaDoorRows
import Derived.Test.YtaieajfgcnaedaaDoorLaw
import Derived.Test.YtaieajfgcnaedaaDoorLawL
import Derived.Test.YtaieajfgcnaedaaDoorHashL
import Derived.Test.YtaieajfgcnaedaaDoorTie
import Derived.Test.YtaieajfgcnaedaaDoorCards
import Derived.SevenTiedAt
import Derived.Test.YtaieajfgcnaedaaDoorHashI
set_option linter.unusedVariables false
set_option linter.unusedSimpArgs false
namespace Go.Proofs.YtaieajfgcnaedaaDoor
open Go.ChangeShapes Go.WideShapes Go.ChangeAt Go.RowKit

set_option maxRecDepth 100000 in
theorem HashNone_lifted (os : Os) (started : os.Started) (H : Type) (enc : TypeId × Value → H) :
    ReturnsInHanded {} Tryd.checked os 7 .any (fun w args => (Rows.hashNoneSpec.pre enc Tryd.prog Tryd.f7 [] false w args ∧ laidMetH Tryd.prog Rows.hashNoneRow.laid w) ∧ sizedMet enc Tryd.prog Tryd.f7 (OpenSpec.ofChange Rows.hashNoneSpec) false w args) (Rows.hashNoneSpec.post enc Tryd.prog Tryd.f7 false true false false) := by
  refine law_liftL (X := fun w => laidMetH Tryd.prog Rows.hashNoneRow.laid w) (fun _ _ hh h => h.of_heap hh) (C := Tryd.checked) Tryd.own started (by kernel_rfl) Tryd.func7
    (ChangeSpec.witness_at (enc := enc) (C := Tryd.checked) (os := os) (X := fun w _ => laidMetH Tryd.prog Rows.hashNoneRow.laid w) false (laidWorld os) #[.slice none 0 0] 8 rfl (by kernel_rfl) (by kernel_rfl) (by kernel_rfl) (by kernel_rfl) (by kernel_rfl) (laid_met os _)) Tryd.laidOut rfl rfl Tryd.underlying4 ?_ ?_ ?_
  · rw [Tryd.params7]; intro t ht; simp at ht; (first | subst ht | (rcases ht with rfl | rfl) | (rcases ht with rfl | rfl | rfl))
    all_goals exact ⟨by kernel_rfl, of_decide_eq_true (by kernel_rfl)⟩
  · rw [Tryd.params7]; intro ds hd
    match ds, hd with
    | [d0], _ => rfl
  · rw [Tryd.params7]
    intro W base args ds p hL hval hA hlt hsz
    have hT : Tab W := tab_of_laid hL
    obtain ⟨v0, d0, rfl, rfl, h0⟩ := trodAll_one hA
    obtain ⟨A0, xs0, c0, rfl, hA0, hR0, hc0, hb0, hw0⟩ := open_rd (P := Tryd.prog) (j := 0) Tryd.underlying22 Tryd.underlying5 (by kernel_rfl) (of_decide_eq_true (by kernel_rfl)) (hval 0 _ v0 rfl rfl) h0 hlt hsz rfl rfl
    rw [show Tryd.prog.bytesOf 5 = 1 from by kernel_rfl] at hb0
    exact HashNone_calls W hT A0 xs0.length c0

theorem HashNone_holds : Rows.HashNoneSaid :=
  OpenClaim.holds_of_wide 7 Tryd.f7 rfl rfl rfl rfl rfl rfl rfl ⟨rfl, rfl, rfl, rfl, rfl⟩ rfl rfl rfl rfl rfl (by kernel_rfl) Tryd.func7 (by kernel_rfl)
    (of_decide_eq_true (by kernel_rfl)) (by unfold Func.isWrapper; first | (rw [if_pos (by decide +kernel)]; kernel_rfl) | (rw [if_neg (by decide +kernel)]; exact ⟨rfl, rfl⟩))
    (fun os started H enc _ => HashNone_lifted os started H enc)

theorem HashNone_card : Rows.HashNoneCardSaid :=
  Claim7.holds_tied_plain_at .later [] [.data] true (true, "9b8077c4320926c6978f174e6083e937be5f79f7cab39be3c87bb1e4dd0455a0") false
    HashNone_holds (fun _ h => by cases h) (by kernel_rfl) (fun _ h => by cases h) hashNone_row_tie rfl ⟨rfl, rfl⟩ (by kernel_rfl) rfl
    (fun f fn hf hfn => by
      obtain rfl : f = 7 := Option.some.inj ((show Tryd.prog.funcNamed "trunkline/trunklinelaw05.HashNone" = some 7 by kernel_rfl).symm.trans hf) |>.symm
      obtain rfl : fn = Tryd.f7 := (Option.some.inj (Tryd.func7.symm.trans hfn)).symm
      exact ⟨by kernel_rfl, fun j t ht => by
        rw [Tryd.params7] at ht
        have h3 : t ∈ Tryd.f7.params.toList := by
          rw [Tryd.params7]
          exact List.mem_of_getElem? (by simpa using ht)
        have h4 : Tryd.f7.params.toList.all (fun t => Tryd.prog.wantsStandIn t == false) = true := by kernel_rfl
        exact eq_of_beq (List.all_eq_true.1 h4 t h3)⟩)
    (by kernel_rfl)
#print axioms HashNone_card

end Go.Proofs.YtaieajfgcnaedaaDoor
