/-
  LAYER 5, WALKS: HashSums.
-/
import Derived.Test.YtaieajfgcnaedaaDoorHashRD
import Derived.Test.YtaieajfgcnaedaaDoorHashI
set_option linter.unusedVariables false
set_option linter.unusedSimpArgs false
namespace Go.Proofs.YtaieajfgcnaedaaDoor
open Go.RowKit

set_option maxHeartbeats 3200000 in
theorem HashSums_calls (w : World) (hT : Tab w) (c n : Nat) (A : Option Addr) (xs : List Int) (hn : xs.length = n) (hR : Rd w .u8 A xs) (hb : Bytes xs) (hA : A = none → c = 0) (hm : n ≤ 140737488351232) :
    Calls Tryd.prog 3 #[.slice A n c] w fun e w' => e = .returned (.bool true) ∧ Below w.heap.size w w' := by
  have HT := hid hT; have HR := hid hR; have HA := hid hA; have HBb := hid hb; have HN := hid hn
  clear hT hR hA hb hn
  have heq := eq32 (sha xs) (sha_len xs)
  obtain ⟨MR, hMR⟩ : ∃ MR, MR = ((sha xs).map (Value.int .u8)).toArray := ⟨_, rfl⟩
  rw [← hMR] at heq
  have HMR : Box (((sha xs).map (Value.int .u8)).toArray = MR) := ⟨hMR.symm⟩
  have HMS : Box (shaV xs = MR) := ⟨hMR.symm⟩
  clear hMR
  go_enter Tryd.func3, Tryd.ntmps3
  go_wp2_with (go_at_call 14; refine hold ?_)
  refine hid ?_
  refine Calls.mono (live_calls w HT.out) ?_
  rintro e w1 ⟨rfl, hB1⟩
  have HB1 := hid hB1
  clear hB1
  go_wp2_with (go_at_call 15; refine hold ?_)
  refine hid ?_
  refine Calls.mono (sum_calls c n A xs HN.out w1 (HT.out.below HB1.out) (HR.out.below HB1.out) HA.out HBb.out (by omega)) ?_
  rintro e w2 ⟨rfl, hB2⟩
  rw [HMS.out]
  have HB2 := hid (below_then HB1.out hB2)
  clear hB2 HB1
  go_wp2_with (go_at_call 16; refine hold ?_)
  refine hid ?_
  refine Calls.mono (rsum_calls c n A xs HN.out w2 (HR.out.below HB2.out) HA.out HBb.out (by omega)) ?_
  rintro e w3 ⟨rfl, hB3⟩
  rw [HMR.out]
  go_wp2
  go_ret
  exact ⟨rfl, below_then HB2.out hB3⟩
end Go.Proofs.YtaieajfgcnaedaaDoor
