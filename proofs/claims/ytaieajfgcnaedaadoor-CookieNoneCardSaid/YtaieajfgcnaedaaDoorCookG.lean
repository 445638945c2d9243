/-
  LAYER 6, WALKS: nil keys.
-/
import Derived.Test.YtaieajfgcnaedaaDoorCookF
set_option linter.unusedVariables false
set_option linter.unusedSimpArgs false
namespace Go.Proofs.YtaieajfgcnaedaaDoor
open Go.RowKit

set_option maxHeartbeats 3200000 in
set_option maxRecDepth 100000 in
theorem CookieNone_calls (w : World) (hT : Tab w) (A : Option Addr) (n c : Nat) (ck : Ck) (now : Int) :
    Calls Tryd.prog 13 #[.slice A n c, .agg ck.cells, .int .i64 now] w fun e w' => e = .returned (.bool true) ∧ Below w.heap.size w w' := by
  have HT := hid hT; clear hT
  obtain ⟨R, hR⟩ : ∃ R, R = ck.cells := ⟨_, rfl⟩
  rw [← hR]
  have HR := hid hR; clear hR
  have hz : R.size = 13 := by rw [HR.out]; rfl
  go_enter Tryd.func13, Tryd.ntmps13
  go_wp2_with (with_reducible refine hold_op (o := ⟨some 14, _, _, _, _, _⟩) ?_)
  have hO : (w.alloc (.cells R 40)).heap[w.heap.size]? = some (.cells R 40 (0, 0)) := heap_alloc_new _ _
  have hA : Below w.heap.size w (w.alloc (.cells R 40)) := (Below.refl _ _).alloc (Nat.le_refl _) _
  have HO := hid hO; have HA := hid hA
  clear hO hA
  generalize w.alloc (.cells R 40) = w1 at *
  refine hid ?_
  refine wpList_load_row rfl 40 (.tmp 4) rfl w.heap.size rfl 40 R (0, 0) _ HO.out Tryd.underlying40 rfl (by rw [hz]; kernel_rfl) ?_
  dsimp only [Act.put]
  clear hz
  go_wp2_with (go_at_call 24; refine hold ?_)
  refine hid ?_
  rw [HR.out]
  refine Calls.mono (seal_nil ck w1) ?_
  rintro e w2 ⟨rfl, hB2⟩
  have HB2 := hid (below_then HA.out hB2)
  clear hB2 HO HA HR
  go_wp2_with (go_at_call 26; refine hold ?_)
  refine hid ?_
  refine Calls.mono (open_nil A n c now w2) ?_
  rintro e w3 ⟨rfl, hB3⟩
  have HB3 := hid (below_then HB2.out hB3)
  clear hB3 HB2
  obtain ⟨R, hR⟩ : ∃ R, R = Ck.none.cells := ⟨_, rfl⟩
  rw [← hR]
  have HR := hid hR; clear hR
  go_wp2_with (with_reducible refine hold_op (o := ⟨none, _, _, _, _, _⟩) ?_)
  have hO : (w3.alloc (.cells #[Value.int IntKind.i64 0, Value.int IntKind.i64 0, Value.int IntKind.u16 0, Value.int IntKind.u16 0, Value.int IntKind.u32 0, Value.int IntKind.u32 0, Value.int IntKind.u32 0, Value.int IntKind.u32 0, Value.int IntKind.u32 0, Value.int IntKind.u16 0, Value.int IntKind.u16 0, Value.int IntKind.u32 0, Value.int IntKind.u32 0] 40)).heap[w3.heap.size]? = some (.cells #[Value.int IntKind.i64 0, Value.int IntKind.i64 0, Value.int IntKind.u16 0, Value.int IntKind.u16 0, Value.int IntKind.u32 0, Value.int IntKind.u32 0, Value.int IntKind.u32 0, Value.int IntKind.u32 0, Value.int IntKind.u32 0, Value.int IntKind.u16 0, Value.int IntKind.u16 0, Value.int IntKind.u32 0, Value.int IntKind.u32 0] 40 (0, 0)) := heap_alloc_new _ _
  have hA : Below w3.heap.size w3 (w3.alloc (.cells #[Value.int IntKind.i64 0, Value.int IntKind.i64 0, Value.int IntKind.u16 0, Value.int IntKind.u16 0, Value.int IntKind.u32 0, Value.int IntKind.u32 0, Value.int IntKind.u32 0, Value.int IntKind.u32 0, Value.int IntKind.u32 0, Value.int IntKind.u16 0, Value.int IntKind.u16 0, Value.int IntKind.u32 0, Value.int IntKind.u32 0] 40)) := (Below.refl _ _).alloc (Nat.le_refl _) _
  have HO := hid hO; have HA := hid hA
  clear hO hA
  generalize w3.alloc (.cells #[Value.int IntKind.i64 0, Value.int IntKind.i64 0, Value.int IntKind.u16 0, Value.int IntKind.u16 0, Value.int IntKind.u32 0, Value.int IntKind.u32 0, Value.int IntKind.u32 0, Value.int IntKind.u32 0, Value.int IntKind.u32 0, Value.int IntKind.u16 0, Value.int IntKind.u16 0, Value.int IntKind.u32 0, Value.int IntKind.u32 0] 40) = w4 at *
  refine hid ?_
  refine wpList_store_row rfl 40 (.tmp 10) (.tmp 23) rfl w3.heap.size R rfl rfl 40 _ HO.out (by rw [HR.out]; kernel_rfl) (by rw [HR.out]; rfl) (by rw [HR.out]; exact Ck.one _) ?_
  have HW := hid (setRow_heap w4 w3.heap.size _ R 40 _ HO.out)
  have HV := hid (below_then HB3.out (below_setRow HA.out (Nat.le_refl _) R))
  clear HO HA HB3
  generalize w4.setRow w3.heap.size R = w5 at *
  dsimp only [Act.put]
  go_wp2_with (go_at_call 25; refine hold ?_)
  refine hid ?_
  refine Calls.mono (clive_calls w5 (HT.out.below HV.out)) ?_
  rintro e w6 ⟨rfl, hB6⟩
  have HB6 := hid (below_then HV.out hB6)
  have hO6 := (hB6.block _ (lt_of_block HW.out)).trans HW.out
  rw [HR.out] at hO6
  have HO6 := hid hO6
  clear hB6 hO6 HW HV HR HT
  go_wp2_with (with_reducible refine hold_op (o := ⟨some 36, _, _, _, _, _⟩) ?_)
  refine hid ?_
  refine BigFrame.wpList_want rfl fun K hK => wp_load_row 40 (.tmp 10) rfl w3.heap.size rfl 40 Ck.none.cells (0, 0) _ HO6.out Tryd.underlying40 rfl (by kernel_rfl) (hK _ _ ?_)
  have he := eqck w6 Ck.none
  rw [none_cells'] at he ⊢
  dsimp only [Act.put]
  go_wp2_with (first | (go_at_call 29; refine Calls.mono (turn_nil _ _ _ _) ?_; rintro e w' ⟨rfl, rfl⟩) | (go_at_call 30; refine Calls.mono (cfork_nil _) ?_; rintro e w' ⟨rfl, rfl⟩))
  go_ret
  exact ⟨rfl, HB6.out⟩
end Go.Proofs.YtaieajfgcnaedaaDoor
