/-
  LAYERS 8 AND 9, WALKS: ether.PutArp; a cache's frames.
-/
import Derived.Test.YtebfoigbiekeiaaEthB
set_option linter.unusedVariables false
set_option linter.unusedSimpArgs false
namespace Go.Proofs.Ytebfoigbiekeiaa
open Go Go.RowKit

set_option maxHeartbeats 12800000 in
set_option maxRecDepth 100000 in
theorem puta_calls (op fm fi tm ti : Int) (hop : op = 1 ∨ op = 2) (hfm : 0 ≤ fm ∧ fm < 281474976710656) (htm : 0 ≤ tm ∧ tm < 281474976710656) (hfi : 0 ≤ fi ∧ fi < 4294967296) (hti : 0 ≤ ti ∧ ti < 4294967296) (w : World) :
    Calls Try.prog 44 #[.agg #[.int .i64 op, .int .u64 fm, .int .u32 fi, .int .u64 tm, .int .u32 ti]] w fun e w' => ∃ v, e = .returned (.tuple #[v, .int .i64 0]) ∧ Own w' w.heap.size 5 .u8 v (arpB op fm fi tm ti) ∧ Below w.heap.size w w' := by
  have hg : (w.alloc (.cells #[.int .i64 op, .int .u64 fm, .int .u32 fi, .int .u64 tm, .int .u32 ti] 40)).heap[w.heap.size]? = some (.cells #[.int .i64 op, .int .u64 fm, .int .u32 fi, .int .u64 tm, .int .u32 ti] 40 (0, 0)) := heap_alloc_new _ _
  have hB1 : Below w.heap.size w (w.alloc (.cells #[.int .i64 op, .int .u64 fm, .int .u32 fi, .int .u64 tm, .int .u32 ti] 40)) := (Below.refl _ _).alloc (Nat.le_refl _) _
  have hs1 : (w.alloc (.cells #[.int .i64 op, .int .u64 fm, .int .u32 fi, .int .u64 tm, .int .u32 ti] 40)).heap.size = w.heap.size + 1 := by simp
  have y0 : (w.alloc (.cells #[.int .i64 op, .int .u64 fm, .int .u32 fi, .int .u64 tm, .int .u32 ti] 40)).cell? ⟨w.heap.size, 0, none⟩ = some (.int .i64 op) := cellOf hg rfl
  have y1 : (w.alloc (.cells #[.int .i64 op, .int .u64 fm, .int .u32 fi, .int .u64 tm, .int .u32 ti] 40)).cell? ⟨w.heap.size, 1, none⟩ = some (.int .u64 fm) := cellOf hg rfl
  have y3 : (w.alloc (.cells #[.int .i64 op, .int .u64 fm, .int .u32 fi, .int .u64 tm, .int .u32 ti] 40)).cell? ⟨w.heap.size, 3, none⟩ = some (.int .u64 tm) := cellOf hg rfl
  have HG := hid hg; have HB1 := hid hB1; have HS1 := hid hs1
  have HFM := hid hfm; have HTM := hid htm; have HFI := hid hfi; have HTI := hid hti
  have o0 : ¬ op < 1 := by omega
  have o1 : ¬ 2 < op := by omega
  have o2 : 1 ≤ op := by omega
  have o3 : op ≤ 2 := by omega
  clear hg hB1 hs1 hfm htm hfi hti hop
  go_enter Try.func44, Try.ntmps44
  go_wp2_with (go_at_call 56; refine hold ?_)
  refine hid ?_
  generalize w.alloc (.cells #[.int .i64 op, .int .u64 fm, .int .u32 fi, .int .u64 tm, .int .u32 ti] 40) = w1 at *
  have hR2 : Rd (w1.alloc (.cells #[.int .u64 fm, .int .u64 tm] 27)) .u64 (some ⟨w1.heap.size, 0, none⟩) [fm, tm] := Rd.lit rfl (by simp)
  have hB2 : Below w1.heap.size w1 (w1.alloc (.cells #[.int .u64 fm, .int .u64 tm] 27)) := (Below.refl _ _).alloc (Nat.le_refl _) _
  rw [← HS1.out]
  have HR2 := hid hR2; have HB2 := hid hB2
  clear hR2 hB2 y0 y1 y3
  generalize w1.alloc (.cells #[.int .u64 fm, .int .u64 tm] 27) = w2 at *
  refine Calls.mono (card_calls w1.heap.size 2 2 [fm, tm] rfl w2 HR2.out (fun m hm => by
    have h1 := HFM.out; have h2 := HTM.out
    simp at hm
    rcases hm with rfl | rfl
    · exact h1
    · exact h2) (by omega)) ?_
  rintro e w3 ⟨rfl, rfl⟩
  have hg2 := (HB2.out.block _ (lt_of_block HG.out)).trans HG.out
  have y0 : w2.cell? ⟨w.heap.size, 0, none⟩ = some (.int .i64 op) := cellOf hg2 rfl
  have y1 : w2.cell? ⟨w.heap.size, 1, none⟩ = some (.int .u64 fm) := cellOf hg2 rfl
  have y2 : w2.cell? ⟨w.heap.size, 2, none⟩ = some (.int .u32 fi) := cellOf hg2 rfl
  have y3 : w2.cell? ⟨w.heap.size, 3, none⟩ = some (.int .u64 tm) := cellOf hg2 rfl
  have y4 : w2.cell? ⟨w.heap.size, 4, none⟩ = some (.int .u32 ti) := cellOf hg2 rfl
  have u0 : IntKind.u64.wrap op = op := by rw [IntKind.wrap_u64]; omega
  have u1 : IntKind.u64.wrap fi = fi := by rw [IntKind.wrap_u64]; have := HFI.out; omega
  have u2 : IntKind.u64.wrap ti = ti := by rw [IntKind.wrap_u64]; have := HTI.out; omega
  have f0 : 0 ≤ fi := HFI.out.1
  have f1 : fi < 4294967296 := HFI.out.2
  have t0 : 0 ≤ ti := HTI.out.1
  have t1 : ti < 4294967296 := HTI.out.2
  clear HR2 hg2
  go_wp2_with (go_at_call 57; refine hold ?_)
  refine hid ?_
  have hO1 : (w2.alloc (.cells #[.int .u64 6, .int .u64 4429186564, .int .u64 2, .int .u64 op, .int .u64 6, .int .u64 fm, .int .u64 4, .int .u64 fi, .int .u64 6, .int .u64 tm, .int .u64 4, .int .u64 ti] 109)).heap[w2.heap.size]? = some (.cells #[.int .u64 6, .int .u64 4429186564, .int .u64 2, .int .u64 op, .int .u64 6, .int .u64 fm, .int .u64 4, .int .u64 fi, .int .u64 6, .int .u64 tm, .int .u64 4, .int .u64 ti] 109 (0, 0)) := heap_alloc_new _ _
  have hP1 : Below w2.heap.size w2 (w2.alloc (.cells #[.int .u64 6, .int .u64 4429186564, .int .u64 2, .int .u64 op, .int .u64 6, .int .u64 fm, .int .u64 4, .int .u64 fi, .int .u64 6, .int .u64 tm, .int .u64 4, .int .u64 ti] 109)) := (Below.refl _ _).alloc (Nat.le_refl _) _
  clear y0 y1 y2 y3 y4
  generalize w2.alloc (.cells #[.int .u64 6, .int .u64 4429186564, .int .u64 2, .int .u64 op, .int .u64 6, .int .u64 fm, .int .u64 4, .int .u64 fi, .int .u64 6, .int .u64 tm, .int .u64 4, .int .u64 ti] 109) = w4 at *
  have hrp : RdP w4 w2.heap.size [(6, 4429186564), (2, op), (6, fm), (4, fi), (6, tm), (4, ti)] := ⟨lt_of_block hO1, fun j hj => by
    match j, hj with
    | 0, _ | 1, _ | 2, _ | 3, _ | 4, _ | 5, _ => exact ⟨cellOf hO1 rfl, cellOf hO1 rfl⟩⟩
  refine Calls.mono (elay_calls w4.heap.size 6 w2.heap.size (.slice none 0 0) [] [(6, 4429186564), (2, op), (6, fm), (4, fi), (6, tm), (4, ti)] rfl w4 (Own.nil _ _ _ _) (Nat.le_refl _) hrp (fun p hp => by
    have h1 := HFM.out; have h2 := HTM.out
    simp at hp
    rcases hp with rfl | rfl | rfl | rfl | rfl | rfl
    · exact ⟨by omega, by omega, by omega, by omega, fun _ => by rw [pow6]; omega⟩
    · exact ⟨by omega, by omega, by omega, by omega, fun _ => by rw [pow2]; omega⟩
    · exact ⟨by omega, by omega, by omega, by omega, fun _ => by rw [pow6]; omega⟩
    · exact ⟨by omega, by omega, by omega, by omega, fun _ => by rw [pow4]; omega⟩
    · exact ⟨by omega, by omega, by omega, by omega, fun _ => by rw [pow6]; omega⟩
    · exact ⟨by omega, by omega, by omega, by omega, fun _ => by rw [pow4]; omega⟩) (by simp) (by omega) (by simp [Value.ownBlock])) ?_
  rintro e w5 ⟨v5, rfl, ho5, hb5⟩
  rw [List.nil_append] at ho5
  have h1 : layB [(6, 4429186564), (2, op), (6, fm), (4, fi), (6, tm), (4, ti)] = arpB op fm fi tm ti := by simp [layB, arpB]
  rw [h1] at ho5
  have HF := hid (own_low (B' := w.heap.size) ho5 (by have := hP1.size; have := HB2.out.size; have := HB1.out.size; omega))
  have HBF := hid (below_then HB1.out (below_then HB2.out (below_then hP1 hb5)))
  clear ho5 hb5 hP1 hO1 hrp h1
  go_wp2
  go_ret2
  exact ⟨_, rfl, HF.out, HBF.out⟩
set_option maxHeartbeats 6400000 in
set_option maxRecDepth 100000 in
theorem carp_calls (g : Nat) (mac ip op to m2 ip2 : Int) (w : World) (hgl : g < w.heap.size) (c0 : w.cell? ⟨g, 0, none⟩ = some (.int .u64 mac)) (c1 : w.cell? ⟨g, 1, none⟩ = some (.int .u32 ip)) (hmac : 0 ≤ mac ∧ mac < 281474976710656) (hip : 0 ≤ ip ∧ ip < 4294967296) (hop : op = 1 ∨ op = 2) (hto : 0 ≤ to ∧ to < 281474976710656) (hm2 : 0 ≤ m2 ∧ m2 < 281474976710656) (hip2 : 0 ≤ ip2 ∧ ip2 < 4294967296) :
    Calls Try.prog 31 #[.pointer (some ⟨g, 0, none⟩), .int .i64 op, .int .u64 to, .int .u64 m2, .int .u32 ip2] w fun e w' => ∃ v, e = .returned v ∧ Own w' w.heap.size 5 .u8 v (etherB to mac 2054 (arpB op mac ip m2 ip2)) ∧ Below w.heap.size w w' := by
  have HP := hid (puta_calls op mac ip m2 ip2 hop hmac hm2 hip hip2)
  have HMAC := hid hmac; have HTO := hid hto; have HGL := hid hgl
  have hS : ∀ W, Below w.heap.size w W → W.cell? ⟨g, 0, none⟩ = some (.int .u64 mac) ∧ W.cell? ⟨g, 1, none⟩ = some (.int .u32 ip) := fun W h => ⟨(h.cell (p := ⟨g, 0, none⟩) hgl).trans c0, (h.cell (p := ⟨g, 1, none⟩) hgl).trans c1⟩
  have HSS := hid hS
  clear hmac hip hop hto hm2 hip2 hS hgl
  go_enter Try.func31, Try.ntmps31
  go_wp2_with fail
  refine wp_region_held_drew (S := fun W => W.cell? ⟨g, 0, none⟩ = some (.int .u64 mac) ∧ W.cell? ⟨g, 1, none⟩ = some (.int .u32 ip)) (by kernel_rfl) (HSS.out _ (Below.refl _ _).drew) (fun hHeld => ?_)
  clear c0 c1
  refine wpAnyH_take (i := 0) (oi := { dst := some 16, op := Op.move (Operand.tmp 1), type := 3, pos := "arp.go:54", after := #[], guard := none }) (v := ?_) rfl (by kernel_rfl) (by kernel_rfl) (by kernel_rfl) (fun _ _ _ h => h) (Or.inl ⟨by rfl, ?_⟩) hHeld ?_
  rotate_left
  · (intro w hSw; (try dsimp only at hSw); go_simp; try with_reducible rfl)
  try simp only [Act.put, List.setIfInBounds_toArray, List.set_cons_succ, List.set_cons_zero]
  refine wpAnyH_take (i := 1) (oi := { dst := some 17, op := Op.move (Operand.tmp 0), type := 23, pos := "arp.go:54", after := #[], guard := none }) (v := ?_) rfl (by kernel_rfl) (by kernel_rfl) (by kernel_rfl) (fun _ _ _ h => h) (Or.inl ⟨by rfl, ?_⟩) hHeld ?_
  rotate_left
  · (intro w hSw; (try dsimp only at hSw); go_simp; try with_reducible rfl)
  try simp only [Act.put, List.setIfInBounds_toArray, List.set_cons_succ, List.set_cons_zero]
  refine wpAnyH_take (i := 2) (oi := { dst := some 18, op := Op.nilCheck (Operand.tmp 17), type := 0, pos := "arp.go:54", after := #[{ on := 1, ground := Ground.data }], guard := none }) (v := ?_) rfl (by kernel_rfl) (by kernel_rfl) (by kernel_rfl) (fun _ _ _ h => h) (Or.inl ⟨by rfl, ?_⟩) hHeld ?_
  rotate_left
  · (intro w hSw; (try dsimp only at hSw); go_simp; try with_reducible rfl)
  try simp only [Act.put, List.setIfInBounds_toArray, List.set_cons_succ, List.set_cons_zero]
  refine wpAnyH_take (i := 3) (oi := { dst := some 19, op := Op.fieldAddr 72 (Operand.tmp 18) 0, type := 0, pos := "arp.go:54", after := #[{ on := 2, ground := Ground.data }], guard := none }) (v := ?_) rfl (by kernel_rfl) (by kernel_rfl) (by kernel_rfl) (fun _ _ _ h => h) (Or.inl ⟨by rfl, ?_⟩) hHeld ?_
  rotate_left
  · (intro w hSw; (try dsimp only at hSw); go_simp; try with_reducible rfl)
  try simp only [Act.put, List.setIfInBounds_toArray, List.set_cons_succ, List.set_cons_zero]
  refine wpAnyH_take (i := 4) (oi := { dst := some 20, op := Op.load 27 (Operand.tmp 19), type := 27, pos := "arp.go:54", after := #[{ on := 3, ground := Ground.data }], guard := none }) (v := ?_) rfl (by kernel_rfl) (by kernel_rfl) (by kernel_rfl) (fun _ _ _ h => h) (Or.inl ⟨by rfl, ?_⟩) hHeld ?_
  rotate_left
  · (intro w hSw; (try dsimp only at hSw); go_simp; try with_reducible rfl)
  try simp only [Act.put, List.setIfInBounds_toArray, List.set_cons_succ, List.set_cons_zero]
  refine wpAnyH_take (i := 5) (oi := { dst := some 21, op := Op.move (Operand.tmp 0), type := 23, pos := "arp.go:54", after := #[], guard := none }) (v := ?_) rfl (by kernel_rfl) (by kernel_rfl) (by kernel_rfl) (fun _ _ _ h => h) (Or.inl ⟨by rfl, ?_⟩) hHeld ?_
  rotate_left
  · (intro w hSw; (try dsimp only at hSw); go_simp; try with_reducible rfl)
  try simp only [Act.put, List.setIfInBounds_toArray, List.set_cons_succ, List.set_cons_zero]
  refine wpAnyH_take (i := 6) (oi := { dst := some 22, op := Op.nilCheck (Operand.tmp 21), type := 0, pos := "arp.go:54", after := #[{ on := 5, ground := Ground.data }], guard := none }) (v := ?_) rfl (by kernel_rfl) (by kernel_rfl) (by kernel_rfl) (fun _ _ _ h => h) (Or.inl ⟨by rfl, ?_⟩) hHeld ?_
  rotate_left
  · (intro w hSw; (try dsimp only at hSw); go_simp; try with_reducible rfl)
  try simp only [Act.put, List.setIfInBounds_toArray, List.set_cons_succ, List.set_cons_zero]
  refine wpAnyH_take (i := 7) (oi := { dst := some 23, op := Op.fieldAddr 72 (Operand.tmp 22) 1, type := 0, pos := "arp.go:54", after := #[{ on := 6, ground := Ground.data }], guard := none }) (v := ?_) rfl (by kernel_rfl) (by kernel_rfl) (by kernel_rfl) (fun _ _ _ h => h) (Or.inl ⟨by rfl, ?_⟩) hHeld ?_
  rotate_left
  · (intro w hSw; (try dsimp only at hSw); go_simp; try with_reducible rfl)
  try simp only [Act.put, List.setIfInBounds_toArray, List.set_cons_succ, List.set_cons_zero]
  refine wpAnyH_take (i := 8) (oi := { dst := some 24, op := Op.load 28 (Operand.tmp 23), type := 28, pos := "arp.go:54", after := #[{ on := 7, ground := Ground.data }], guard := none }) (v := ?_) rfl (by kernel_rfl) (by kernel_rfl) (by kernel_rfl) (fun _ _ _ h => h) (Or.inl ⟨by rfl, ?_⟩) hHeld ?_
  rotate_left
  · (intro w hSw; (try dsimp only at hSw); go_simp; try with_reducible rfl)
  try simp only [Act.put, List.setIfInBounds_toArray, List.set_cons_succ, List.set_cons_zero]
  refine wpAnyH_take (i := 9) (oi := { dst := some 25, op := Op.move (Operand.tmp 3), type := 27, pos := "arp.go:54", after := #[], guard := none }) (v := ?_) rfl (by kernel_rfl) (by kernel_rfl) (by kernel_rfl) (fun _ _ _ h => h) (Or.inl ⟨by rfl, ?_⟩) hHeld ?_
  rotate_left
  · (intro w hSw; (try dsimp only at hSw); go_simp; try with_reducible rfl)
  try simp only [Act.put, List.setIfInBounds_toArray, List.set_cons_succ, List.set_cons_zero]
  refine wpAnyH_take (i := 10) (oi := { dst := some 26, op := Op.move (Operand.tmp 4), type := 28, pos := "arp.go:54", after := #[], guard := none }) (v := ?_) rfl (by kernel_rfl) (by kernel_rfl) (by kernel_rfl) (fun _ _ _ h => h) (Or.inl ⟨by rfl, ?_⟩) hHeld ?_
  rotate_left
  · (intro w hSw; (try dsimp only at hSw); go_simp; try with_reducible rfl)
  try simp only [Act.put, List.setIfInBounds_toArray, List.set_cons_succ, List.set_cons_zero]
  refine wpAnyH_take (i := 11) (oi := { dst := some 27, op := Op.build 40 #[(0, Operand.tmp 16), (1, Operand.tmp 20), (2, Operand.tmp 24), (3, Operand.tmp 25), (4, Operand.tmp 26)], type := 40, pos := "arp.go:54", after := #[{ on := 0, ground := Ground.data }, { on := 4, ground := Ground.data }, { on := 8, ground := Ground.data }, { on := 9, ground := Ground.data }, { on := 10, ground := Ground.data }], guard := none }) (v := ?_) rfl (by kernel_rfl) (by kernel_rfl) (by kernel_rfl) (fun _ _ _ h => h) (Or.inl ⟨by rfl, ?_⟩) hHeld ?_
  rotate_left
  · (intro w hSw; (try dsimp only at hSw); go_simp; try with_reducible rfl)
  try simp only [Act.put, List.setIfInBounds_toArray, List.set_cons_succ, List.set_cons_zero]
  refine wpAnyH_ready (rs := [12]) (by kernel_rfl) (by simp) ?_
  refine AllReadyH.cons (o := _) rfl (fun K hK => ?_) AllReadyH.nil
  go_simp
  go_at_call 44
  refine Calls.mono (HP.out w.drew) ?_
  rintro e w1 ⟨v1, rfl, ho1, hb1⟩
  have hb1' : Below w.heap.size w w1 := below_then (Below.refl _ _).drew hb1
  have hal : (arpB op mac ip m2 ip2).length = 28 := by simp [arpB, be_length]
  obtain ⟨A1, c1, rfl, hA1, hR1, _⟩ := ho1.rd (by omega)
  have HR1 := hid hR1; have HA1 := hid hA1; have HB1 := hid hb1'; have HAL := hid hal
  refine hK.out _ _ (HSS.out _ hb1') (fun hHeld => ?_)
  clear hK K ho1 hb1 hA1 hR1 hal
  try simp only [Act.put, List.setIfInBounds_toArray, List.set_cons_succ, List.set_cons_zero]
  refine wpAnyH_take (i := 13) (oi := { dst := some 15, op := Op.move (Operand.tmp 28), type := 94, pos := "arp.go:54", after := #[{ on := 12, ground := Ground.data }], guard := none }) (v := ?_) rfl (by kernel_rfl) (by kernel_rfl) (by kernel_rfl) (fun _ _ _ h => h) (Or.inl ⟨by rfl, ?_⟩) hHeld ?_
  rotate_left
  · (intro w hSw; (try dsimp only at hSw); go_simp; try with_reducible rfl)
  try simp only [Act.put, List.setIfInBounds_toArray, List.set_cons_succ, List.set_cons_zero]
  refine wpAnyH_take (i := 14) (oi := { dst := some 29, op := Op.extract (Operand.tmp 15) 0, type := 31, pos := "arp.go:54", after := #[{ on := 13, ground := Ground.data }], guard := none }) (v := ?_) rfl (by kernel_rfl) (by kernel_rfl) (by kernel_rfl) (fun _ _ _ h => h) (Or.inl ⟨by rfl, ?_⟩) hHeld ?_
  rotate_left
  · (intro w hSw; (try dsimp only at hSw); go_simp; try with_reducible rfl)
  try simp only [Act.put, List.setIfInBounds_toArray, List.set_cons_succ, List.set_cons_zero]
  refine wpAnyH_take (i := 15) (oi := { dst := some 30, op := Op.extract (Operand.tmp 15) 1, type := 24, pos := "arp.go:54", after := #[{ on := 13, ground := Ground.data }, { on := 16, ground := Ground.gcOnly Departure.lateStores }], guard := none }) (v := ?_) rfl (by kernel_rfl) (by kernel_rfl) (by kernel_rfl) (fun _ _ _ h => h) (Or.inl ⟨by rfl, ?_⟩) hHeld ?_
  rotate_left
  · (intro w hSw; (try dsimp only at hSw); go_simp; try with_reducible rfl)
  try simp only [Act.put, List.setIfInBounds_toArray, List.set_cons_succ, List.set_cons_zero]
  refine wpAnyH_ready (rs := [16]) (by kernel_rfl) (by simp) ?_
  refine AllReadyH.cons (o := _) rfl (fun K hK => ?_) AllReadyH.nil
  go_simp
  refine hK.out _ _ (HSS.out _ hb1') (fun hHeld => ?_)
  clear hK K
  try simp only [Act.put, List.setIfInBounds_toArray, List.set_cons_succ, List.set_cons_zero]
  refine wpAnyH_ready (rs := [17]) (by kernel_rfl) (by simp) ?_
  refine AllReadyH.cons (o := _) rfl (fun K hK => ?_) AllReadyH.nil
  go_simp
  refine hK.out _ _ (HSS.out _ hb1') (fun hHeld => ?_)
  clear hK K
  try simp only [Act.put, List.setIfInBounds_toArray, List.set_cons_succ, List.set_cons_zero]
  refine wpAnyH_done (by kernel_rfl) ?_ _
  have y0 := (HSS.out _ hb1').1
  clear hHeld HSS hb1'
  rw [HAL.out]
  go_wp2_with (go_at_call 43; refine hold ?_)
  refine hid ?_
  refine Calls.mono (put_calls to mac 2054 c1 28 A1 (arpB op mac ip m2 ip2) HAL.out HTO.out HMAC.out (by omega) (by omega) w1 HR1.out HA1.out) ?_
  rintro e w2 ⟨v2, rfl, ho2, hb2⟩
  have HO2 := hid (own_low ho2 HB1.out.size); have HB2 := hid (below_then HB1.out hb2)
  clear ho2 hb2 y0
  go_wp2
  go_ret
  exact ⟨_, rfl, HO2.out, HB2.out⟩
theorem question_calls (g : Nat) (mac ip to : Int) (w : World) (hgl : g < w.heap.size) (c0 : w.cell? ⟨g, 0, none⟩ = some (.int .u64 mac)) (c1 : w.cell? ⟨g, 1, none⟩ = some (.int .u32 ip)) (hmac : 0 ≤ mac ∧ mac < 281474976710656) (hip : 0 ≤ ip ∧ ip < 4294967296) (hto : 0 ≤ to ∧ to < 4294967296) :
    Calls Try.prog 32 #[.pointer (some ⟨g, 0, none⟩), .int .u32 to] w fun e w' => ∃ v, e = .returned v ∧ Own w' w.heap.size 5 .u8 v (etherB 281474976710655 mac 2054 (arpB 1 mac ip 0 to)) ∧ Below w.heap.size w w' := by
  have HC := hid (carp_calls g mac ip 1 281474976710655 0 to w hgl c0 c1 hmac hip (.inl rfl) (by omega) (by omega) hto)
  clear hgl c0 c1 hmac hip hto
  go_enter Try.func32, Try.ntmps32
  go_wp2_with (go_at_call 31; refine hold ?_)
  refine hid ?_
  refine Calls.mono HC.out ?_
  rintro e w2 ⟨v2, rfl, ho2, hb2⟩
  have HO2 := hid ho2; have HB2 := hid hb2
  clear ho2 hb2
  go_wp2
  go_ret
  exact ⟨_, rfl, HO2.out, HB2.out⟩
theorem cframe_calls (g c n : Nat) (A : Option Addr) (mac m2 : Int) (xs : List Int) (hn : xs.length = n) (w : World) (c0 : w.cell? ⟨g, 0, none⟩ = some (.int .u64 mac)) (hmac : 0 ≤ mac ∧ mac < 281474976710656) (hm2 : 0 ≤ m2 ∧ m2 < 281474976710656) (hl : n ≤ 1500) (hR : Rd w .u8 A xs) (hA : A = none → c = 0) :
    Calls Try.prog 30 #[.pointer (some ⟨g, 0, none⟩), .int .u64 m2, .slice A n c] w fun e w' => ∃ v, e = .returned v ∧ Own w' w.heap.size 5 .u8 v (etherB m2 mac 2048 xs) ∧ Below w.heap.size w w' := by
  have HC := hid (put_calls m2 mac 2048 c n A xs hn hm2 hmac (by omega) hl w hR hA)
  clear hmac hm2 hR hA hn
  go_enter Try.func30, Try.ntmps30
  go_wp2_with (go_at_call 43; refine hold ?_)
  refine hid ?_
  refine Calls.mono HC.out ?_
  rintro e w2 ⟨v2, rfl, ho2, hb2⟩
  have HO2 := hid ho2; have HB2 := hid hb2
  clear ho2 hb2 c0
  go_wp2
  go_ret
  exact ⟨_, rfl, HO2.out, HB2.out⟩
end Go.Proofs.Ytebfoigbiekeiaa
