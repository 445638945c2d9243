/-
  LAYER 5, WALKS: HashMacs.
-/
import Derived.Test.YtaieajfgcnaedaaDoorHashRE
import Derived.Test.YtaieajfgcnaedaaDoorHashI
set_option linter.unusedVariables false
set_option linter.unusedSimpArgs false
namespace Go.Proofs.YtaieajfgcnaedaaDoor
open Go.RowKit

set_option maxHeartbeats 3200000 in
theorem HashMacs_calls (w : World) (hT : Tab w) (ck nk c n : Nat) (Ak A : Option Addr) (key bs : List Int) (hnk : key.length = nk) (hn : bs.length = n) (hRk : Rd w .u8 Ak key) (hR : Rd w .u8 A bs) (hbk : Bytes key) (hb : Bytes bs) (hAk : Ak = none → ck = 0) (hA : A = none → c = 0) (hmk : nk ≤ 140737488351232) (hm : n ≤ 140737488351232) :
    Calls Tryd.prog 4 #[.slice Ak nk ck, .slice A n c] w fun e w' => e = .returned (.bool true) ∧ Below w.heap.size w w' := by
  have HT := hid hT; have HRk := hid hRk; have HR := hid hR; have HAk := hid hAk; have HA := hid hA; have HBk := hid hbk; have HBb := hid hb; have HNk := hid hnk; have HN := hid hn
  clear hT hRk hR hAk hA hbk hb hnk hn
  have heq := eq32 (mac key bs) (mac_len key bs)
  obtain ⟨MR, hMR⟩ : ∃ MR, MR = ((mac key bs).map (Value.int .u8)).toArray := ⟨_, rfl⟩
  rw [← hMR] at heq
  have HMR : Box (((mac key bs).map (Value.int .u8)).toArray = MR) := ⟨hMR.symm⟩
  clear hMR
  go_enter Tryd.func4, Tryd.ntmps4
  go_wp2_with (go_at_call 14; refine hold ?_)
  refine hid ?_
  refine Calls.mono (live_calls w HT.out) ?_
  rintro e w1 ⟨rfl, hB1⟩
  have HB1 := hid hB1
  clear hB1
  go_wp2_with (go_at_call 17; refine hold ?_)
  refine hid ?_
  refine Calls.mono (mac_calls ck nk c n Ak A key bs HNk.out HN.out w1 (HT.out.below HB1.out) (HRk.out.below HB1.out) (HR.out.below HB1.out) HAk.out HA.out HBk.out HBb.out (by omega) (by omega)) ?_
  rintro e w2 ⟨rfl, hB2⟩
  rw [HMR.out]
  have HB2 := hid (below_then HB1.out hB2)
  clear hB2 HB1
  go_wp2_with (go_at_call 18; refine hold ?_)
  refine hid ?_
  refine Calls.mono (rmac_calls ck nk c n Ak A key bs HNk.out HN.out w2 (HRk.out.below HB2.out) (HR.out.below HB2.out) HAk.out HA.out HBk.out HBb.out (by omega) (by omega)) ?_
  rintro e w3 ⟨rfl, hB3⟩
  rw [HMR.out]
  go_wp2
  go_ret
  exact ⟨rfl, below_then HB2.out hB3⟩
end Go.Proofs.YtaieajfgcnaedaaDoor
