/-
  LAYER 6, WALKS: Fork of keys, and of the reference's.
-/
import Derived.Test.YtaieajfgcnaedaaDoorRefC
set_option linter.unusedVariables false
set_option linter.unusedSimpArgs false
namespace Go.Proofs.YtaieajfgcnaedaaDoor
open Go.RowKit

set_option maxHeartbeats 1600000 in
theorem rkfork_calls (g : Nat) (L : List (List Int)) (w : World) (hK : RSt w g L) :
    Calls Tryd.prog 31 #[.pointer (some ⟨g, 0, none⟩)] w fun e w' => ∃ g', e = .returned (.pointer (some ⟨g', 0, none⟩)) ∧ w.heap.size ≤ g' ∧ RSt w' g' L ∧ Below w.heap.size w w' := by
  obtain ⟨v, row, base, k1, k2, k3⟩ := hK.ex
  obtain ⟨A1, c1, rfl, _, _, _⟩ := k2.rd
  have x0 : w.cell? ⟨g, 0, none⟩ = some (.slice A1 row.length c1) := cellOf k1 rfl
  have HK2 := hid k2; have HK3 := hid k3
  clear k1 k2 k3 hK
  go_enter Tryd.func31, Tryd.ntmps31
  go_wp2
  go_ret
  have hB : Below w.heap.size w (w.alloc (.cells #[.slice A1 row.length c1] 86)) := (Below.refl _ _).alloc (Nat.le_refl _) _
  exact ⟨w.heap.size, rfl, Nat.le_refl _, ⟨⟨_, row, base, heap_alloc_new w _, HK2.out.below hB, HK3.out.below hB⟩⟩, hB⟩
set_option maxHeartbeats 1600000 in
theorem cfork_calls (g : Nat) (sec frm : List Int) (two : Bool) (w : World) (hK : KSt w g sec frm two) :
    Calls Tryd.prog 30 #[.pointer (some ⟨g, 0, none⟩)] w fun e w' => ∃ g', e = .returned (.pointer (some ⟨g', 0, none⟩)) ∧ w.heap.size ≤ g' ∧ KSt w' g' sec frm two ∧ Below w.heap.size w w' := by
  obtain ⟨A1, n1, c1, A2, n2, c2, k1, k2, k3, k4, k5, k6, k7⟩ := hK.ex
  have HK1 := hid k1; have HX := hid (show sec.length = n1 ∧ frm.length = n2 ∧ Rd w .u8 A1 sec ∧ Rd w .u8 A2 frm ∧ (A1 = none → c1 = 0) ∧ (A2 = none → c2 = 0) ∧ Bytes sec ∧ Bytes frm ∧ sec.length ≤ 140737488351232 ∧ frm.length ≤ 140737488351232 from ⟨k2, k3, k4, k5, k6, k7, hK.bs, hK.bf, hK.ls, hK.lf⟩)
  clear hK k1 k2 k3 k4 k5 k6 k7
  go_enter Tryd.func30, Tryd.ntmps30
  go_wp2_with (with_reducible refine hold_op (o := ⟨some 8, _, _, _, _, _⟩) ?_)
  refine hid ?_
  refine wpList_load_row rfl 78 (.tmp 7) rfl g rfl 78 #[.slice A1 n1 c1, .slice A2 n2 c2, .bool two] (0, 0) _ HK1.out Tryd.underlying78 rfl (by kernel_rfl) ?_
  simp only [Act.put, List.setIfInBounds_toArray, List.set_cons_succ, List.set_cons_zero]
  go_wp2_with (with_reducible refine hold_op (o := ⟨none, _, _, _, _, _⟩) ?_)
  refine hid ?_
  have hO : (w.alloc (.cells #[.slice none 0 0, .slice none 0 0, .bool false] 78)).heap[w.heap.size]? = some (.cells #[.slice none 0 0, .slice none 0 0, .bool false] 78 (0, 0)) := heap_alloc_new w _
  have hB : Below w.heap.size w (w.alloc (.cells #[.slice none 0 0, .slice none 0 0, .bool false] 78)) := (Below.refl _ _).alloc (Nat.le_refl _) _
  generalize w.alloc (.cells #[.slice none 0 0, .slice none 0 0, .bool false] 78) = w1 at *
  refine wpList_store_row rfl 78 (.tmp 3) (.tmp 8) rfl w.heap.size #[.slice A1 n1 c1, .slice A2 n2 c2, .bool two] rfl rfl 78 _ hO (by kernel_rfl) rfl (by simp [Value.oneCell']) ?_
  have hW := setRow_heap w1 w.heap.size _ #[.slice A1 n1 c1, .slice A2 n2 c2, .bool two] 78 _ hO
  have hV := below_setRow hB (Nat.le_refl _) #[.slice A1 n1 c1, .slice A2 n2 c2, .bool two]
  generalize w1.setRow w.heap.size #[.slice A1 n1 c1, .slice A2 n2 c2, .bool two] = w2 at *
  have HW := hid hW; have HV := hid hV
  clear hW hV hO hB
  simp only [Act.put, List.setIfInBounds_toArray, List.set_cons_succ, List.set_cons_zero]
  go_wp2
  go_ret
  obtain ⟨q1, q2, q3, q4, q5, q6, q7, q8, q9, q10⟩ := HX.out
  exact ⟨w.heap.size, rfl, Nat.le_refl _, ⟨⟨A1, n1, c1, A2, n2, c2, HW.out, q1, q2, q3.below HV.out, q4.below HV.out, q5, q6⟩, q7, q8, q9, q10⟩, HV.out⟩
end Go.Proofs.YtaieajfgcnaedaaDoor
