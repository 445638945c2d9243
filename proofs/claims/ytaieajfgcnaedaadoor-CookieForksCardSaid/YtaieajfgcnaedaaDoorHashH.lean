/-
  LAYER 5, WALKS: live; a nil hash.
-/
import Derived.Test.YtaieajfgcnaedaaDoorHashG
import Derived.Test.YtaieajfgcnaedaaDoorStr
import Derived.Lib.SmallJoins
import Derived.BigQuiet
import Derived.Deep.QuietTactic
set_option linter.unusedVariables false
set_option linter.unusedSimpArgs false
namespace Go.Proofs.YtaieajfgcnaedaaDoor
open Go.RowKit

def jefeB : List Int := [119, 104, 97, 116, 32, 100, 111, 32, 121, 97, 32, 119, 97, 110, 116, 32, 102, 111, 114, 32, 110, 111, 116, 104, 105, 110, 103, 63]
set_option maxRecDepth 100000 in
theorem mac_jefe : (mac [74, 101, 102, 101] jefeB).take 4 = [0x5b, 0xdc, 0xc1, 0x46] := by decide +kernel
def macV (key bs : List Int) : Array Value := ((mac key bs).map (Value.int .u8)).toArray
theorem mac_len (key bs : List Int) : (mac key bs).length = 32 := rfl
theorem mac_bytes (key bs : List Int) : Bytes (mac key bs) := sha_bytes _
theorem Rd.lit {w : World} {k : IntKind} {t : TypeId} {fr : Nat × Nat} {xs : List Int} {cs : Array Value} (hc : cs.toList = xs.map (Value.int k)) (hl : xs.length ≤ 140737488355328) : Rd (w.alloc (.cells cs t fr)) k (some ⟨w.heap.size, 0, none⟩) xs :=
  ⟨hl, fun j hj => ⟨w.heap.size, 0, rfl, by simp, by
    rw [Nat.zero_add, World.cell?_alloc_mark, ← Array.getElem?_toList, hc]
    simp [List.getElem?_map, List.getElem?_eq_getElem hj, List.getD_eq_getElem?_getD]⟩⟩
set_option maxHeartbeats 6400000 in
set_option maxRecDepth 100000 in
theorem live_calls (w : World) (hT : Tab w) :
    Calls Tryd.prog 14 #[] w fun e w' => e = .returned (.bool true) ∧ Below w.heap.size w w' := by
  have HT := hid hT
  clear hT
  have c0 := Lib.run_convert_bytes_const (P := Tryd.prog) w 22 5 #[.int .u8 97, .int .u8 98, .int .u8 99] 3 3 Tryd.underlying22 Tryd.underlying5
  simp only [List.size_toArray, List.length_cons, List.length_nil, Nat.zero_add, Nat.reduceAdd] at c0
  go_enter Tryd.func14, Tryd.ntmps14
  go_wp2_with (go_at_call 15; refine hold ?_)
  have hR0 : Rd (w.alloc (.cells #[.int .u8 97, .int .u8 98, .int .u8 99] 5 (3, 4))) .u8 (some ⟨w.heap.size, 0, none⟩) [97, 98, 99] := Rd.lit rfl (by simp)
  have hB0 : Below w.heap.size w (w.alloc (.cells #[.int .u8 97, .int .u8 98, .int .u8 99] 5 (3, 4))) := (Below.refl _ _).alloc (Nat.le_refl _) _
  have HR0 := hid hR0; have HB0 := hid hB0
  clear hR0 hB0 c0
  generalize w.alloc (.cells #[.int .u8 97, .int .u8 98, .int .u8 99] 5 (3, 4)) = w1 at *
  refine hid ?_
  refine Calls.mono (sum_calls 3 3 _ [97, 98, 99] rfl w1 (HT.out.below HB0.out) HR0.out (fun h => by simp at h) (by intro x hx; simp at hx; omega) (by omega)) ?_
  rintro e w2 ⟨rfl, hB2⟩
  have HB2 := hid (below_then HB0.out hB2)
  clear hB2 HR0 HB0
  have HS1 : Hid ((shaV [97, 98, 99]).size = 32) := hid (sha_size _)
  have HO1 : Hid ((shaV [97, 98, 99]).all (·.oneCell') = true) := hid (sha_one _)
  have HX1 : Box (shaV [97, 98, 99] = ((sha [97, 98, 99]).map (Value.int .u8)).toArray) := ⟨rfl⟩
  generalize shaV [97, 98, 99] = R1 at *
  have c1 := Lib.run_convert_bytes_const (P := Tryd.prog) w2 22 5 #[.int .u8 74, .int .u8 101, .int .u8 102, .int .u8 101] 4 4 Tryd.underlying22 Tryd.underlying5
  simp only [List.size_toArray, List.length_cons, List.length_nil, Nat.zero_add, Nat.reduceAdd] at c1
  have c2 := Joins.run_convert_bytes_const_at (P := Tryd.prog) (w2.alloc (.cells #[.int .u8 74, .int .u8 101, .int .u8 102, .int .u8 101] 5 (4, 5))) 22 5 #[.int .u8 119, .int .u8 104, .int .u8 97, .int .u8 116, .int .u8 32, .int .u8 100, .int .u8 111, .int .u8 32, .int .u8 121, .int .u8 97, .int .u8 32, .int .u8 119, .int .u8 97, .int .u8 110, .int .u8 116, .int .u8 32, .int .u8 102, .int .u8 111, .int .u8 114, .int .u8 32, .int .u8 110, .int .u8 111, .int .u8 116, .int .u8 104, .int .u8 105, .int .u8 110, .int .u8 103, .int .u8 63] 28 28 (w2.heap.size + 1) (by simp) Tryd.underlying22 Tryd.underlying5
  simp only [List.size_toArray, List.length_cons, List.length_nil, Nat.zero_add, Nat.reduceAdd] at c2
  go_wp2_with (go_at_call 17; refine hold ?_)
  have hK0 : Rd (w2.alloc (.cells #[.int .u8 74, .int .u8 101, .int .u8 102, .int .u8 101] 5 (4, 5))) .u8 (some ⟨w2.heap.size, 0, none⟩) [74, 101, 102, 101] := Rd.lit rfl (by simp)
  have hB3 : Below w2.heap.size w2 (w2.alloc (.cells #[.int .u8 74, .int .u8 101, .int .u8 102, .int .u8 101] 5 (4, 5))) := (Below.refl _ _).alloc (Nat.le_refl _) _
  have hs3 : (w2.alloc (.cells #[.int .u8 74, .int .u8 101, .int .u8 102, .int .u8 101] 5 (4, 5))).heap.size = w2.heap.size + 1 := by simp
  have HK0 := hid hK0; have HB3 := hid hB3; have HS3 := hid hs3
  clear hK0 hB3 hs3 c1 c2
  generalize w2.alloc (.cells #[.int .u8 74, .int .u8 101, .int .u8 102, .int .u8 101] 5 (4, 5)) = w3 at *
  have hJ0 : Rd (w3.alloc (.cells #[.int .u8 119, .int .u8 104, .int .u8 97, .int .u8 116, .int .u8 32, .int .u8 100, .int .u8 111, .int .u8 32, .int .u8 121, .int .u8 97, .int .u8 32, .int .u8 119, .int .u8 97, .int .u8 110, .int .u8 116, .int .u8 32, .int .u8 102, .int .u8 111, .int .u8 114, .int .u8 32, .int .u8 110, .int .u8 111, .int .u8 116, .int .u8 104, .int .u8 105, .int .u8 110, .int .u8 103, .int .u8 63] 5 (28, 29))) .u8 (some ⟨w2.heap.size + 1, 0, none⟩) jefeB := by rw [← HS3.out]; exact Rd.lit rfl (by simp [jefeB])
  have hB4 : Below w3.heap.size w3 (w3.alloc (.cells #[.int .u8 119, .int .u8 104, .int .u8 97, .int .u8 116, .int .u8 32, .int .u8 100, .int .u8 111, .int .u8 32, .int .u8 121, .int .u8 97, .int .u8 32, .int .u8 119, .int .u8 97, .int .u8 110, .int .u8 116, .int .u8 32, .int .u8 102, .int .u8 111, .int .u8 114, .int .u8 32, .int .u8 110, .int .u8 111, .int .u8 116, .int .u8 104, .int .u8 105, .int .u8 110, .int .u8 103, .int .u8 63] 5 (28, 29))) := (Below.refl _ _).alloc (Nat.le_refl _) _
  have HK4 := hid (HK0.out.below hB4)
  have HJ0 := hid hJ0; have HB4 := hid (below_then HB2.out (below_then HB3.out hB4))
  clear hJ0 hB4 HK0 HB3 HB2
  generalize w3.alloc (.cells #[.int .u8 119, .int .u8 104, .int .u8 97, .int .u8 116, .int .u8 32, .int .u8 100, .int .u8 111, .int .u8 32, .int .u8 121, .int .u8 97, .int .u8 32, .int .u8 119, .int .u8 97, .int .u8 110, .int .u8 116, .int .u8 32, .int .u8 102, .int .u8 111, .int .u8 114, .int .u8 32, .int .u8 110, .int .u8 111, .int .u8 116, .int .u8 104, .int .u8 105, .int .u8 110, .int .u8 103, .int .u8 63] 5 (28, 29)) = w4 at *
  refine hid ?_
  refine Calls.mono (mac_calls 4 4 28 28 _ _ [74, 101, 102, 101] jefeB rfl rfl w4 (HT.out.below HB4.out) HK4.out HJ0.out (fun h => by simp at h) (fun h => by simp at h) (by intro x hx; simp at hx; omega) (by intro x hx; simp [jefeB] at hx; omega) (by omega) (by omega)) ?_
  rintro e w5 ⟨rfl, hB5⟩
  have HB5 := hid (below_then HB4.out hB5)
  have hle : w.heap.size ≤ w5.heap.size := HB5.out.size
  clear hB5 HB4 HK4 HJ0
  have HS2 : Hid ((((mac [74, 101, 102, 101] jefeB).map (Value.int .u8)).toArray).size = 32) := hid (by simp [mac_len])
  have HO2 : Hid ((((mac [74, 101, 102, 101] jefeB).map (Value.int .u8)).toArray).all (·.oneCell') = true) := hid (map_one _)
  obtain ⟨R2, hR2⟩ : ∃ R2, R2 = ((mac [74, 101, 102, 101] jefeB).map (Value.int .u8)).toArray := ⟨_, rfl⟩
  rw [← hR2] at HS2 HO2 ⊢
  have HX2 : Box (R2 = ((mac [74, 101, 102, 101] jefeB).map (Value.int .u8)).toArray) := ⟨hR2⟩
  clear hR2
  go_wp2_with (with_reducible refine hold_op (o := ⟨none, _, _, _, _, _⟩) ?_)
  have hA0 : (w5.alloc (.cells #[Value.int IntKind.u8 0, Value.int IntKind.u8 0, Value.int IntKind.u8 0, Value.int IntKind.u8 0, Value.int IntKind.u8 0, Value.int IntKind.u8 0, Value.int IntKind.u8 0, Value.int IntKind.u8 0, Value.int IntKind.u8 0, Value.int IntKind.u8 0, Value.int IntKind.u8 0, Value.int IntKind.u8 0, Value.int IntKind.u8 0, Value.int IntKind.u8 0, Value.int IntKind.u8 0, Value.int IntKind.u8 0, Value.int IntKind.u8 0, Value.int IntKind.u8 0, Value.int IntKind.u8 0, Value.int IntKind.u8 0, Value.int IntKind.u8 0, Value.int IntKind.u8 0, Value.int IntKind.u8 0, Value.int IntKind.u8 0, Value.int IntKind.u8 0, Value.int IntKind.u8 0, Value.int IntKind.u8 0, Value.int IntKind.u8 0, Value.int IntKind.u8 0, Value.int IntKind.u8 0, Value.int IntKind.u8 0, Value.int IntKind.u8 0] 24)).heap[w5.heap.size]? = some (.cells #[Value.int IntKind.u8 0, Value.int IntKind.u8 0, Value.int IntKind.u8 0, Value.int IntKind.u8 0, Value.int IntKind.u8 0, Value.int IntKind.u8 0, Value.int IntKind.u8 0, Value.int IntKind.u8 0, Value.int IntKind.u8 0, Value.int IntKind.u8 0, Value.int IntKind.u8 0, Value.int IntKind.u8 0, Value.int IntKind.u8 0, Value.int IntKind.u8 0, Value.int IntKind.u8 0, Value.int IntKind.u8 0, Value.int IntKind.u8 0, Value.int IntKind.u8 0, Value.int IntKind.u8 0, Value.int IntKind.u8 0, Value.int IntKind.u8 0, Value.int IntKind.u8 0, Value.int IntKind.u8 0, Value.int IntKind.u8 0, Value.int IntKind.u8 0, Value.int IntKind.u8 0, Value.int IntKind.u8 0, Value.int IntKind.u8 0, Value.int IntKind.u8 0, Value.int IntKind.u8 0, Value.int IntKind.u8 0, Value.int IntKind.u8 0] 24 (0, 0)) := heap_alloc_new _ _
  have hB6 : Below w5.heap.size w5 (w5.alloc (.cells #[Value.int IntKind.u8 0, Value.int IntKind.u8 0, Value.int IntKind.u8 0, Value.int IntKind.u8 0, Value.int IntKind.u8 0, Value.int IntKind.u8 0, Value.int IntKind.u8 0, Value.int IntKind.u8 0, Value.int IntKind.u8 0, Value.int IntKind.u8 0, Value.int IntKind.u8 0, Value.int IntKind.u8 0, Value.int IntKind.u8 0, Value.int IntKind.u8 0, Value.int IntKind.u8 0, Value.int IntKind.u8 0, Value.int IntKind.u8 0, Value.int IntKind.u8 0, Value.int IntKind.u8 0, Value.int IntKind.u8 0, Value.int IntKind.u8 0, Value.int IntKind.u8 0, Value.int IntKind.u8 0, Value.int IntKind.u8 0, Value.int IntKind.u8 0, Value.int IntKind.u8 0, Value.int IntKind.u8 0, Value.int IntKind.u8 0, Value.int IntKind.u8 0, Value.int IntKind.u8 0, Value.int IntKind.u8 0, Value.int IntKind.u8 0] 24)) := (Below.refl _ _).alloc (Nat.le_refl _) _
  have hs6 : (w5.alloc (.cells #[Value.int IntKind.u8 0, Value.int IntKind.u8 0, Value.int IntKind.u8 0, Value.int IntKind.u8 0, Value.int IntKind.u8 0, Value.int IntKind.u8 0, Value.int IntKind.u8 0, Value.int IntKind.u8 0, Value.int IntKind.u8 0, Value.int IntKind.u8 0, Value.int IntKind.u8 0, Value.int IntKind.u8 0, Value.int IntKind.u8 0, Value.int IntKind.u8 0, Value.int IntKind.u8 0, Value.int IntKind.u8 0, Value.int IntKind.u8 0, Value.int IntKind.u8 0, Value.int IntKind.u8 0, Value.int IntKind.u8 0, Value.int IntKind.u8 0, Value.int IntKind.u8 0, Value.int IntKind.u8 0, Value.int IntKind.u8 0, Value.int IntKind.u8 0, Value.int IntKind.u8 0, Value.int IntKind.u8 0, Value.int IntKind.u8 0, Value.int IntKind.u8 0, Value.int IntKind.u8 0, Value.int IntKind.u8 0, Value.int IntKind.u8 0] 24)).heap.size = w5.heap.size + 1 := by simp
  have HA0 := hid hA0; have HB6 := hid hB6; have HS6 := hid hs6
  clear hA0 hB6 hs6
  generalize w5.alloc (.cells #[Value.int IntKind.u8 0, Value.int IntKind.u8 0, Value.int IntKind.u8 0, Value.int IntKind.u8 0, Value.int IntKind.u8 0, Value.int IntKind.u8 0, Value.int IntKind.u8 0, Value.int IntKind.u8 0, Value.int IntKind.u8 0, Value.int IntKind.u8 0, Value.int IntKind.u8 0, Value.int IntKind.u8 0, Value.int IntKind.u8 0, Value.int IntKind.u8 0, Value.int IntKind.u8 0, Value.int IntKind.u8 0, Value.int IntKind.u8 0, Value.int IntKind.u8 0, Value.int IntKind.u8 0, Value.int IntKind.u8 0, Value.int IntKind.u8 0, Value.int IntKind.u8 0, Value.int IntKind.u8 0, Value.int IntKind.u8 0, Value.int IntKind.u8 0, Value.int IntKind.u8 0, Value.int IntKind.u8 0, Value.int IntKind.u8 0, Value.int IntKind.u8 0, Value.int IntKind.u8 0, Value.int IntKind.u8 0, Value.int IntKind.u8 0] 24) = w6 at *
  have hA1 : (w6.alloc (.cells #[Value.int IntKind.u8 0, Value.int IntKind.u8 0, Value.int IntKind.u8 0, Value.int IntKind.u8 0, Value.int IntKind.u8 0, Value.int IntKind.u8 0, Value.int IntKind.u8 0, Value.int IntKind.u8 0, Value.int IntKind.u8 0, Value.int IntKind.u8 0, Value.int IntKind.u8 0, Value.int IntKind.u8 0, Value.int IntKind.u8 0, Value.int IntKind.u8 0, Value.int IntKind.u8 0, Value.int IntKind.u8 0, Value.int IntKind.u8 0, Value.int IntKind.u8 0, Value.int IntKind.u8 0, Value.int IntKind.u8 0, Value.int IntKind.u8 0, Value.int IntKind.u8 0, Value.int IntKind.u8 0, Value.int IntKind.u8 0, Value.int IntKind.u8 0, Value.int IntKind.u8 0, Value.int IntKind.u8 0, Value.int IntKind.u8 0, Value.int IntKind.u8 0, Value.int IntKind.u8 0, Value.int IntKind.u8 0, Value.int IntKind.u8 0] 24)).heap[w5.heap.size + 1]? = some (.cells #[Value.int IntKind.u8 0, Value.int IntKind.u8 0, Value.int IntKind.u8 0, Value.int IntKind.u8 0, Value.int IntKind.u8 0, Value.int IntKind.u8 0, Value.int IntKind.u8 0, Value.int IntKind.u8 0, Value.int IntKind.u8 0, Value.int IntKind.u8 0, Value.int IntKind.u8 0, Value.int IntKind.u8 0, Value.int IntKind.u8 0, Value.int IntKind.u8 0, Value.int IntKind.u8 0, Value.int IntKind.u8 0, Value.int IntKind.u8 0, Value.int IntKind.u8 0, Value.int IntKind.u8 0, Value.int IntKind.u8 0, Value.int IntKind.u8 0, Value.int IntKind.u8 0, Value.int IntKind.u8 0, Value.int IntKind.u8 0, Value.int IntKind.u8 0, Value.int IntKind.u8 0, Value.int IntKind.u8 0, Value.int IntKind.u8 0, Value.int IntKind.u8 0, Value.int IntKind.u8 0, Value.int IntKind.u8 0, Value.int IntKind.u8 0] 24 (0, 0)) := by rw [← HS6.out]; exact heap_alloc_new _ _
  have hB7 : Below w6.heap.size w6 (w6.alloc (.cells #[Value.int IntKind.u8 0, Value.int IntKind.u8 0, Value.int IntKind.u8 0, Value.int IntKind.u8 0, Value.int IntKind.u8 0, Value.int IntKind.u8 0, Value.int IntKind.u8 0, Value.int IntKind.u8 0, Value.int IntKind.u8 0, Value.int IntKind.u8 0, Value.int IntKind.u8 0, Value.int IntKind.u8 0, Value.int IntKind.u8 0, Value.int IntKind.u8 0, Value.int IntKind.u8 0, Value.int IntKind.u8 0, Value.int IntKind.u8 0, Value.int IntKind.u8 0, Value.int IntKind.u8 0, Value.int IntKind.u8 0, Value.int IntKind.u8 0, Value.int IntKind.u8 0, Value.int IntKind.u8 0, Value.int IntKind.u8 0, Value.int IntKind.u8 0, Value.int IntKind.u8 0, Value.int IntKind.u8 0, Value.int IntKind.u8 0, Value.int IntKind.u8 0, Value.int IntKind.u8 0, Value.int IntKind.u8 0, Value.int IntKind.u8 0] 24)) := (Below.refl _ _).alloc (Nat.le_refl _) _
  have HA7 := hid ((hB7.block _ (lt_of_block HA0.out)).trans HA0.out)
  have HA1 := hid hA1; have HB7 := hid (below_then HB5.out (below_then HB6.out hB7))
  clear hA1 hB7 HA0 HB6 HB5
  generalize w6.alloc (.cells #[Value.int IntKind.u8 0, Value.int IntKind.u8 0, Value.int IntKind.u8 0, Value.int IntKind.u8 0, Value.int IntKind.u8 0, Value.int IntKind.u8 0, Value.int IntKind.u8 0, Value.int IntKind.u8 0, Value.int IntKind.u8 0, Value.int IntKind.u8 0, Value.int IntKind.u8 0, Value.int IntKind.u8 0, Value.int IntKind.u8 0, Value.int IntKind.u8 0, Value.int IntKind.u8 0, Value.int IntKind.u8 0, Value.int IntKind.u8 0, Value.int IntKind.u8 0, Value.int IntKind.u8 0, Value.int IntKind.u8 0, Value.int IntKind.u8 0, Value.int IntKind.u8 0, Value.int IntKind.u8 0, Value.int IntKind.u8 0, Value.int IntKind.u8 0, Value.int IntKind.u8 0, Value.int IntKind.u8 0, Value.int IntKind.u8 0, Value.int IntKind.u8 0, Value.int IntKind.u8 0, Value.int IntKind.u8 0, Value.int IntKind.u8 0] 24) = w7 at *
  refine hid ?_
  refine wpList_store_row rfl 24 (.tmp 1) (.tmp 5) rfl w5.heap.size R1 rfl rfl 24 _ HA7.out (by rw [HS1.out]; kernel_rfl) HS1.out.symm HO1.out ?_
  have HR8 := hid (setRow_heap w7 w5.heap.size _ R1 24 _ HA7.out)
  have HA8 := hid ((setRow_other w7 w5.heap.size (w5.heap.size + 1) R1 (by omega)).trans HA1.out)
  have HB8 := hid (below_setRow HB7.out hle R1)
  clear HA7 HA1 HB7
  generalize w7.setRow w5.heap.size R1 = w8 at *
  refine wpList_store_row rfl 24 (.tmp 2) (.tmp 10) rfl (w5.heap.size + 1) R2 rfl rfl 24 _ HA8.out (by rw [HS2.out]; kernel_rfl) HS2.out.symm HO2.out ?_
  have HQ8 := hid (setRow_heap w8 (w5.heap.size + 1) _ R2 24 _ HA8.out)
  have HR9 := hid ((setRow_other w8 (w5.heap.size + 1) w5.heap.size R2 (by omega)).trans HR8.out)
  have HB9 := hid (below_setRow HB8.out (Nat.le_succ_of_le hle) R2)
  clear HA8 HR8 HB8
  generalize w8.setRow (w5.heap.size + 1) R2 = w9 at *
  have hr1 : Rd w9 .u8 (some ⟨w5.heap.size, 0, none⟩) (sha [97, 98, 99]) := Rd.row (t := 24) (by rw [HR9.out, HX1.out]) (by rw [sha_len]; omega)
  have hr2 : Rd w9 .u8 (some ⟨w5.heap.size + 1, 0, none⟩) (mac [74, 101, 102, 101] jefeB) := Rd.row (t := 24) (by rw [HQ8.out, HX2.out]) (by rw [mac_len]; omega)
  have ht1 := hr1.take 4
  have ht2 := hr2.take 4
  rw [sha_abc] at ht1
  rw [mac_jefe] at ht2
  have hcv1 : ∀ n, Sem.run Tryd.prog (convert 22 9 (.slice (some ⟨w5.heap.size, 0, none⟩) 4 32)) (w9.drewN n) = .ok (.string ⟨#[186, 120, 22, 191]⟩) (w9.drewN n) := fun n =>
    conv_str (P := Tryd.prog) (w := w9.drewN n) (dst := 9) Tryd.underlying22 Tryd.underlying5 Tryd.underlying9 4 32 rfl (ht1.below (below_drewN (Below.refl _ _) n))
  have hcv2 : ∀ n, Sem.run Tryd.prog (convert 22 9 (.slice (some ⟨w5.heap.size + 1, 0, none⟩) 4 32)) (w9.drewN n) = .ok (.string ⟨#[91, 220, 193, 70]⟩) (w9.drewN n) := fun n =>
    conv_str (P := Tryd.prog) (w := w9.drewN n) (dst := 9) Tryd.underlying22 Tryd.underlying5 Tryd.underlying9 4 32 rfl (ht2.below (below_drewN (Below.refl _ _) n))
  obtain ⟨S, hS⟩ : ∃ S, S = sha [97, 98, 99] := ⟨_, rfl⟩
  rw [← hS] at hr1
  have HSL : Hid (S.length = 32) := hid (by rw [hS]; exact sha_len _)
  have HSB : Hid (Bytes S) := hid (by rw [hS]; exact sha_bytes _)
  have HR1 := hid hr1
  clear hr1 hr2 ht1 ht2 hS HX1 HX2 HQ8 HR9 HS1 HS2 HO1 HO2
  go_wp2_with fail
  go_quiet (first | (go_at_call 19; refine Calls.quiet_of ((same_calls 32 32 32 32 _ _ S S HSL.out HSL.out _ (HR1.out.below (below_drewN (Below.refl _ _) _)) (HR1.out.below (below_drewN (Below.refl _ _) _)) HSB.out HSB.out).mono fun e w' h => ⟨h.1, h.2⟩)))
  go_wp2
  go_ret
  exact ⟨rfl, below_drewN HB9.out nq⟩
end Go.Proofs.YtaieajfgcnaedaaDoor
