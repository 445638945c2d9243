/-
  WALKS of layer 2: live; the first laws.
-/
import Derived.Test.YteepfkolibeekaaSumsC
import Derived.Test.YteepfkolibeekaaSumsD
import Derived.Lib.SlBytesConst
set_option linter.unusedVariables false
set_option linter.unusedSimpArgs false
namespace Go.Proofs.Yteepfkolibeekaa
open Go.RowKit

theorem crc_live : crc [49, 50, 51, 52, 53, 54, 55, 56, 57] = 3808858755 := by decide +kernel
theorem net_live : net [0, 1, 242, 3] = 3579 := by decide +kernel

theorem Rd_new (w : World) (k : IntKind) (t : TypeId) (fr : Nat × Nat) (xs : List Int) (cs : Array Value) (hc : cs.toList = xs.map (Value.int k)) (hl : xs.length ≤ 140737488355328) (w' : World) (g : Nat) (hg : w'.heap[g]? = some (.cells cs t fr)) : Rd w' k (some ⟨g, 0, none⟩) xs :=
  ⟨hl, fun j hj => ⟨g, 0, rfl, lt_of_block hg, by
    have h1 : cs[j]? = some (.int k (xs.getD j 0)) := by
      have : cs.toList[j]? = some (.int k (xs.getD j 0)) := by rw [hc]; simp [List.getD_eq_getElem?_getD, List.getElem?_eq_getElem hj]
      simpa using this
    simp [World.cell?, hg, h1]⟩⟩

set_option maxHeartbeats 400000 in
theorem live_calls (w : World) : Calls Try.prog 12 #[] w fun e w' => e = .returned (.bool true) ∧ Below w.heap.size w w' := by
  have hc := hid crc_live
  have hn := hid net_live
  have kc := fun (w : World) (C : Array Value) (n c : Nat) => Lib.run_convert_bytes_const (P := Try.prog) w 22 5 C n c Try.underlying22 Try.underlying5
  go_enter Try.func12, Try.ntmps12
  go_wp2_with fail
  have hb0 : Below w.heap.size w (w.alloc (Obj.cells #[Value.int IntKind.u8 49, Value.int IntKind.u8 50, Value.int IntKind.u8 51, Value.int IntKind.u8 52, Value.int IntKind.u8 53, Value.int IntKind.u8 54, Value.int IntKind.u8 55, Value.int IntKind.u8 56, Value.int IntKind.u8 57] 5 (9, 10))) := (Below.refl _ _).alloc (Nat.le_refl _) _
  refine (crc_calls 9 (some ⟨w.heap.size, 0, none⟩) [49, 50, 51, 52, 53, 54, 55, 56, 57] _ (Rd_new w .u8 5 (9, 10) _ _ rfl (by decide) _ _ (heap_alloc_new w _)) (by unfold Bytes; decide)).mono ?_
  rintro e w1 ⟨rfl, hb1⟩
  rw [hc.out]
  clear kc
  have hb2 := below_then hb0 hb1
  clear hb0 hb1
  go_wp2_with fail
  have hb3 : Below w1.heap.size w1 (w1.alloc (Obj.cells #[Value.int IntKind.u8 0, Value.int IntKind.u8 1, Value.int IntKind.u8 242, Value.int IntKind.u8 3] 5)) := (Below.refl _ _).alloc (Nat.le_refl _) _
  refine (net_calls 4 (some ⟨w1.heap.size, 0, none⟩) [0, 1, 242, 3] _ (Rd_new w1 .u8 5 (0, 0) _ _ rfl (by decide) _ _ (heap_alloc_new w1 _)) (by unfold Bytes; decide)).mono ?_
  rintro e w2 ⟨rfl, rfl⟩
  rw [hn.out]
  go_wp2
  go_ret
  exact ⟨rfl, below_then hb2 hb3⟩

set_option maxHeartbeats 400000 in
theorem SumsCrc_calls (c : Nat) (A : Option Addr) (xs : List Int) (w : World) (hR : Rd w .u8 A xs) (hx : Bytes xs) :
    Calls Try.prog 3 #[.slice A xs.length c] w fun e w' => e = .returned (.bool true) ∧ Below w.heap.size w w' := by
  have HR := hid hR; clear hR
  have HX := hid hx; clear hx
  go_enter Try.func3, Try.ntmps3
  go_wp2_with fail
  refine (live_calls _).mono ?_
  rintro e w1 ⟨rfl, hb1⟩
  go_wp2_with fail
  refine (crc_calls c A xs _ (HR.out.below hb1) HX.out).mono ?_
  rintro e w2 ⟨rfl, hb2⟩
  have hb3 := below_then hb1 hb2
  go_wp2_with fail
  refine (refcrc_calls c A xs _ (HR.out.below hb3) HX.out).mono ?_
  rintro e w3 ⟨rfl, hb4⟩
  go_wp2
  go_ret
  exact ⟨ret_bool (by simp), below_then hb3 hb4⟩
end Go.Proofs.Yteepfkolibeekaa
