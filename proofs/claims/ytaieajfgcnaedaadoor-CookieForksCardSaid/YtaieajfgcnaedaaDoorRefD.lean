/-
  THE REFERENCE OF LAYER 6, WALKS: Seal.
-/
import Derived.Test.YtaieajfgcnaedaaDoorRefC
import Derived.Test.YtaieajfgcnaedaaDoorHashRE
import Derived.Deep.RegionHeld3
set_option linter.unusedVariables false
set_option linter.unusedSimpArgs false
namespace Go.Proofs.YtaieajfgcnaedaaDoor
open Go.RowKit

set_option maxHeartbeats 3200000 in
set_option maxRecDepth 100000 in
theorem rkseal_may (g : Nat) (ck : Ck) (hm : ¬ ck.may) (w : World) : Calls Tryd.prog 48 #[.pointer (some ⟨g, 0, none⟩), .agg ck.cells] w fun e w' => e = .returned (.tuple #[.slice none 0 0, .int .i64 6]) ∧ Below w.heap.size w w' := by
  have HD := hid (show decide ck.may = false from decide_eq_false hm)
  clear hm
  obtain ⟨R, hR⟩ : ∃ R, R = ck.cells := ⟨_, rfl⟩
  rw [← hR]
  have HR := hid hR; clear hR
  go_enter Tryd.func48, Tryd.ntmps48
  go_wp2_with (with_reducible refine hold_op (o := ⟨some 10, _, _, _, _, _⟩) ?_)
  refine hid ?_
  have hE : (w.alloc (.cells R 40)).heap[w.heap.size]? = some (.cells R 40 (0, 0)) := heap_alloc_new _ _
  have hB : Below w.heap.size w (w.alloc (.cells R 40)) := (Below.refl _ _).alloc (Nat.le_refl _) _
  have HE := hid hE; have HA := hid hB
  clear hE hB
  generalize w.alloc (.cells R 40) = w0 at *
  refine wpList_load_row rfl 40 (.tmp 3) rfl (w.heap.size) rfl 40 R (0, 0) _ HE.out Tryd.underlying40 rfl (by rw [HR.out]; kernel_rfl) ?_
  simp only [Act.put, List.setIfInBounds_toArray, List.set_cons_succ, List.set_cons_zero]
  go_wp2_with (go_at_call 27; refine hold ?_)
  refine hid ?_
  rw [HR.out]
  refine Calls.mono (rmay_calls ck w0) ?_
  rw [HD.out]
  rintro e w1 ⟨rfl, hb⟩
  have HB := hid (below_then HA.out hb)
  clear hb
  go_wp2
  go_ret2
  exact ⟨rfl, HB.out⟩
set_option maxHeartbeats 6400000 in
set_option maxRecDepth 100000 in
theorem rkseal_calls (g : Nat) (ck : Ck) (hm : ck.may) (hok : ck.Ok) (L : List (List Int)) (x : List Int) (hL : L.length ≤ 1000) (w : World) (hK : RSt w g (L ++ [x])) :
    Calls Tryd.prog 48 #[.pointer (some ⟨g, 0, none⟩), .agg ck.cells] w fun e w' => ∃ v, e = .returned (.tuple #[v, .int .i64 0]) ∧ Own w' w.heap.size 5 .u8 v (ck.seal x) ∧ Below w.heap.size w w' := by
  have HD := hid (show decide ck.may = true from decide_eq_true hm)
  have HM := hid hm; have HOK := hid hok; have HK := hid hK; have HL := hid hL
  clear hm hok hK hL
  obtain ⟨R, hR⟩ : ∃ R, R = ck.cells := ⟨_, rfl⟩
  rw [← hR]
  have HR := hid hR; clear hR
  go_enter Tryd.func48, Tryd.ntmps48
  go_wp2_with (with_reducible refine hold_op (o := ⟨some 10, _, _, _, _, _⟩) ?_)
  refine hid ?_
  have hE : (w.alloc (.cells R 40)).heap[w.heap.size]? = some (.cells R 40 (0, 0)) := heap_alloc_new _ _
  have hB : Below w.heap.size w (w.alloc (.cells R 40)) := (Below.refl _ _).alloc (Nat.le_refl _) _
  have HE := hid hE; have HA := hid hB
  clear hE hB
  generalize w.alloc (.cells R 40) = w0 at *
  refine wpList_load_row rfl 40 (.tmp 3) rfl (w.heap.size) rfl 40 R (0, 0) _ HE.out Tryd.underlying40 rfl (by rw [HR.out]; kernel_rfl) ?_
  simp only [Act.put, List.setIfInBounds_toArray, List.set_cons_succ, List.set_cons_zero]
  go_wp2_with (go_at_call 27; refine hold ?_)
  refine hid ?_
  rw [HR.out]
  refine Calls.mono (rmay_calls ck w0) ?_
  rw [HD.out, ← HR.out]
  rintro e w1 ⟨rfl, hb⟩
  have HB := hid (below_then HA.out hb)
  have HE1 := hid ((hb.block _ (lt_of_block HE.out)).trans HE.out)
  clear hb HA HE
  go_wp2_with (with_reducible refine hold_op (o := ⟨some 13, _, _, _, _, _⟩) ?_)
  refine hid ?_
  refine wpList_load_row rfl 40 (.tmp 3) rfl (w.heap.size) rfl 40 R (0, 0) _ HE1.out Tryd.underlying40 rfl (by rw [HR.out]; kernel_rfl) ?_
  simp only [Act.put, List.setIfInBounds_toArray, List.set_cons_succ, List.set_cons_zero]
  go_wp2_with (go_at_call 53; refine hold ?_)
  refine hid ?_
  rw [HR.out]
  refine Calls.mono (rplain_calls ck HM.out HOK.out w1) ?_
  rw [← HR.out]
  rintro e w2 ⟨b, rfl, ho, hb⟩
  have HB2 := hid (below_then HB.out hb)
  have HO2 := hid ho
  have HK2 := hid (HK.out.below HB2.out)
  have HS1 := hid hb.size; have HSB := hid HB.out.size
  clear hb HB HE1 ho HK
  obtain ⟨v, row, base, k1, k2, k3⟩ := HK2.out.ex
  obtain ⟨A1, c1, rfl, hA1, hV1, hz1⟩ := k2.rd
  have hrl := Sls.len k3
  rw [List.length_append] at hrl
  simp only [List.length_cons, List.length_nil, Nat.zero_add] at hrl
  obtain ⟨m, hm⟩ : ∃ m, m = L.length := ⟨_, rfl⟩
  rw [← hm] at hrl
  obtain ⟨u, hu, hsl⟩ := Sls.at_ k3 m (by simp [hm])
  have hxm : (L ++ [x])[m]'(by simp [hm]) = x := by simp [hm]
  rw [hxm] at hsl
  obtain ⟨b1, o1, rfl, hb1, hcell⟩ := hV1.at_ m (by omega)
  obtain rfl : o1 = 0 := (hz1 b1 o1 rfl).2
  rw [Nat.zero_add] at hcell
  have hcu : w2.cell? ⟨b1, m, none⟩ = some u := by
    rw [hcell]
    rw [List.getElem?_eq_getElem (by omega)] at hu
    exact hu
  obtain ⟨Ax, cx, rfl, hRx, hAx, hBx, hlx⟩ := hsl
  have x0 : w2.cell? ⟨g, 0, none⟩ = some (.slice (some ⟨b1, 0, none⟩) row.length c1) := cellOf k1 rfl
  rw [hrl] at x0
  obtain ⟨A2, c2, rfl, hA2, hR2, _⟩ := HO2.out.rd (by rw [Ck.plain_len]; omega)
  rw [Ck.plain_len] at HO2 ⊢
  have HRX := hid hRx; have HAX := hid hAx; have HBX := hid hBx; have HLX := hid hlx; have HA2 := hid hA2; have HR2 := hid hR2
  have hix : ((m + 1 : Nat) : Int) - 1 = (m : Int) := by omega
  have hmb0 : m ≤ 1000 := by rw [hm]; exact HL.out
  have hw0 : IntKind.i64.wrap (m : Int) = (m : Int) := IntWalk.i64_in _ (by omega)
  have hw1 : (0 : Int) ≤ (m : Int) := by omega
  have hw2 : (m : Int) < (m : Int) + 1 := by omega
  have hglt : g < w2.heap.size := lt_of_block k1
  have kS : ∀ W, Below w2.heap.size w2 W → W.cell? ⟨g, 0, none⟩ = some (.slice (some ⟨b1, 0, none⟩) (m + 1) c1) ∧ W.cell? ⟨b1, m, none⟩ = some (.slice Ax x.length cx) := fun W hW =>
    ⟨(hW.cell (p := ⟨g, 0, none⟩) hglt).trans x0, (hW.cell (p := ⟨b1, m, none⟩) hb1).trans hcu⟩
  have KS := hid kS
  clear kS hglt
  clear hz1 hA1 hV1 k1 k2 k3 hcell hb1 hu hrl hm hxm hRx hAx hBx hlx hA2 hR2 HK2
  go_wp2_with fail
  have hml := mac_len x ck.plain
  have hmb := mac_bytes x ck.plain
  have HSEAL : Box (ck.seal x = ck.plain ++ mac x ck.plain) := ⟨rfl⟩
  have HMAC : Box (∀ w, Rd w .u8 Ax x → Rd w .u8 A2 ck.plain → Calls Tryd.prog 18 #[.slice Ax x.length cx, .slice A2 52 c2] w fun e w' => e = .returned (.agg (((mac x ck.plain).map (Value.int .u8)).toArray)) ∧ Below w.heap.size w w') := ⟨fun w h1 h2 =>
    rmac_calls cx x.length c2 52 Ax A2 x ck.plain rfl (Ck.plain_len ck) w h1 h2 HAX.out HA2.out HBX.out (Ck.plain_bytes ck) (by have := HLX.out; omega) (by omega)⟩
  generalize mac x ck.plain = MS at *
  have HML := hid hml; have HMB := hid hmb
  clear hml hmb
  refine wp_region_held_drew (S := fun W => W.cell? ⟨g, 0, none⟩ = some (.slice (some ⟨b1, 0, none⟩) (m + 1) c1) ∧ W.cell? ⟨b1, m, none⟩ = some (.slice Ax x.length cx)) (by kernel_rfl) ⟨x0, hcu⟩ (fun hHeld => ?_)
  clear x0 hcu
  refine wpAnyH_take (i := 0) (oi := { dst := some 15, op := Op.move (Operand.tmp 0), type := 57, pos := "ref.go:57", after := #[], guard := none }) (v := ?_) rfl (by kernel_rfl) (by kernel_rfl) (by kernel_rfl) (fun _ _ _ h => h) (Or.inl ⟨by rfl, ?_⟩) hHeld ?_
  rotate_left
  · (intro w hSw; (try dsimp only at hSw); go_simp; try with_reducible rfl)
  try simp only [Act.put, List.setIfInBounds_toArray, List.set_cons_succ, List.set_cons_zero]
  refine wpAnyH_take (i := 1) (oi := { dst := some 16, op := Op.nilCheck (Operand.tmp 15), type := 0, pos := "ref.go:57", after := #[{ on := 0, ground := Ground.data }], guard := none }) (v := ?_) rfl (by kernel_rfl) (by kernel_rfl) (by kernel_rfl) (fun _ _ _ h => h) (Or.inl ⟨by rfl, ?_⟩) hHeld ?_
  rotate_left
  · (intro w hSw; (try dsimp only at hSw); go_simp; try with_reducible rfl)
  try simp only [Act.put, List.setIfInBounds_toArray, List.set_cons_succ, List.set_cons_zero]
  refine wpAnyH_take (i := 2) (oi := { dst := some 17, op := Op.fieldAddr 86 (Operand.tmp 16) 0, type := 0, pos := "ref.go:57", after := #[{ on := 1, ground := Ground.data }], guard := none }) (v := ?_) rfl (by kernel_rfl) (by kernel_rfl) (by kernel_rfl) (fun _ _ _ h => h) (Or.inl ⟨by rfl, ?_⟩) hHeld ?_
  rotate_left
  · (intro w hSw; (try dsimp only at hSw); go_simp; try with_reducible rfl)
  try simp only [Act.put, List.setIfInBounds_toArray, List.set_cons_succ, List.set_cons_zero]
  refine wpAnyH_take (i := 3) (oi := { dst := some 18, op := Op.load 84 (Operand.tmp 17), type := 84, pos := "ref.go:57", after := #[{ on := 2, ground := Ground.data }], guard := none }) (v := ?_) rfl (by kernel_rfl) (by kernel_rfl) (by kernel_rfl) (fun _ _ _ h => h) (Or.inl ⟨by rfl, ?_⟩) hHeld ?_
  rotate_left
  · (intro w hSw; (try dsimp only at hSw); go_simp; try with_reducible rfl)
  try simp only [Act.put, List.setIfInBounds_toArray, List.set_cons_succ, List.set_cons_zero]
  refine wpAnyH_take (i := 4) (oi := { dst := some 19, op := Op.move (Operand.tmp 0), type := 57, pos := "ref.go:57", after := #[], guard := none }) (v := ?_) rfl (by kernel_rfl) (by kernel_rfl) (by kernel_rfl) (fun _ _ _ h => h) (Or.inl ⟨by rfl, ?_⟩) hHeld ?_
  rotate_left
  · (intro w hSw; (try dsimp only at hSw); go_simp; try with_reducible rfl)
  try simp only [Act.put, List.setIfInBounds_toArray, List.set_cons_succ, List.set_cons_zero]
  refine wpAnyH_take (i := 5) (oi := { dst := some 20, op := Op.nilCheck (Operand.tmp 19), type := 0, pos := "ref.go:57", after := #[{ on := 4, ground := Ground.data }], guard := none }) (v := ?_) rfl (by kernel_rfl) (by kernel_rfl) (by kernel_rfl) (fun _ _ _ h => h) (Or.inl ⟨by rfl, ?_⟩) hHeld ?_
  rotate_left
  · (intro w hSw; (try dsimp only at hSw); go_simp; try with_reducible rfl)
  try simp only [Act.put, List.setIfInBounds_toArray, List.set_cons_succ, List.set_cons_zero]
  refine wpAnyH_take (i := 6) (oi := { dst := some 21, op := Op.fieldAddr 86 (Operand.tmp 20) 0, type := 0, pos := "ref.go:57", after := #[{ on := 5, ground := Ground.data }], guard := none }) (v := ?_) rfl (by kernel_rfl) (by kernel_rfl) (by kernel_rfl) (fun _ _ _ h => h) (Or.inl ⟨by rfl, ?_⟩) hHeld ?_
  rotate_left
  · (intro w hSw; (try dsimp only at hSw); go_simp; try with_reducible rfl)
  try simp only [Act.put, List.setIfInBounds_toArray, List.set_cons_succ, List.set_cons_zero]
  refine wpAnyH_take (i := 7) (oi := { dst := some 22, op := Op.load 84 (Operand.tmp 21), type := 84, pos := "ref.go:57", after := #[{ on := 6, ground := Ground.data }], guard := none }) (v := ?_) rfl (by kernel_rfl) (by kernel_rfl) (by kernel_rfl) (fun _ _ _ h => h) (Or.inl ⟨by rfl, ?_⟩) hHeld ?_
  rotate_left
  · (intro w hSw; (try dsimp only at hSw); go_simp; try with_reducible rfl)
  try simp only [Act.put, List.setIfInBounds_toArray, List.set_cons_succ, List.set_cons_zero]
  refine wpAnyH_take (i := 8) (oi := { dst := some 23, op := Op.call { callee := Callee.builtin Builtin.len, args := #[Operand.tmp 22], argTypes := #[84] }, type := 3, pos := "ref.go:57", after := #[{ on := 7, ground := Ground.data }], guard := none }) (v := ?_) rfl (by kernel_rfl) (by kernel_rfl) (by kernel_rfl) (fun _ _ _ h => h) (Or.inl ⟨by rfl, ?_⟩) hHeld ?_
  rotate_left
  · (intro w hSw; (try dsimp only at hSw); go_simp; try with_reducible rfl)
  try simp only [Act.put, List.setIfInBounds_toArray, List.set_cons_succ, List.set_cons_zero]
  refine wpAnyH_take (i := 9) (oi := { dst := some 24, op := Op.binOp BinOp.sub 3 (Operand.tmp 23) (Operand.const (Value.int IntKind.i64 1)) 3, type := 3, pos := "ref.go:57", after := #[{ on := 8, ground := Ground.data }], guard := none }) (v := ?_) rfl (by kernel_rfl) (by kernel_rfl) (by kernel_rfl) (fun _ _ _ h => h) (Or.inl ⟨by rfl, ?_⟩) hHeld ?_
  rotate_left
  · (intro w hSw; (try dsimp only at hSw); go_simp; try with_reducible rfl)
  try simp only [Act.put, List.setIfInBounds_toArray, List.set_cons_succ, List.set_cons_zero]
  refine wpAnyH_take (i := 10) (oi := { dst := some 25, op := Op.indexAddr 84 (Operand.tmp 18) (Operand.tmp 24), type := 0, pos := "ref.go:57", after := #[{ on := 3, ground := Ground.data }, { on := 9, ground := Ground.data }], guard := none }) (v := ?_) rfl (by kernel_rfl) (by kernel_rfl) (by kernel_rfl) (fun _ _ _ h => h) (Or.inl ⟨by rfl, ?_⟩) hHeld ?_
  rotate_left
  · (intro w hSw; (try dsimp only at hSw); go_simp; try with_reducible rfl)
  try simp only [Act.put, List.setIfInBounds_toArray, List.set_cons_succ, List.set_cons_zero]
  refine wpAnyH_take (i := 11) (oi := { dst := some 26, op := Op.load 22 (Operand.tmp 25), type := 22, pos := "ref.go:57", after := #[{ on := 10, ground := Ground.data }], guard := none }) (v := ?_) rfl (by kernel_rfl) (by kernel_rfl) (by kernel_rfl) (fun _ _ _ h => h) (Or.inl ⟨by rfl, ?_⟩) hHeld ?_
  rotate_left
  · (intro w hSw; (try dsimp only at hSw); go_simp; try with_reducible rfl)
  try simp only [Act.put, List.setIfInBounds_toArray, List.set_cons_succ, List.set_cons_zero]
  refine wpAnyH_take (i := 12) (oi := { dst := some 27, op := Op.move (Operand.tmp 6), type := 22, pos := "ref.go:57", after := #[], guard := none }) (v := ?_) rfl (by kernel_rfl) (by kernel_rfl) (by kernel_rfl) (fun _ _ _ h => h) (Or.inl ⟨by rfl, ?_⟩) hHeld ?_
  rotate_left
  · (intro w hSw; (try dsimp only at hSw); go_simp; try with_reducible rfl)
  try simp only [Act.put, List.setIfInBounds_toArray, List.set_cons_succ, List.set_cons_zero]
  refine wpAnyH_ready (rs := [13, 14]) (by kernel_rfl) (by simp) ?_
  refine AllReadyH.cons (o := { dst := some 28, op := Op.call { callee := Callee.value (Operand.func 18), args := #[Operand.tmp 26, Operand.tmp 27], argTypes := #[22, 22] }, type := 24, pos := "ref.go:57", after := #[{ on := 11, ground := Ground.data }, { on := 12, ground := Ground.data }], guard := none }) rfl (fun K hK => ?_) (AllReadyH.cons (o := { dst := some 7, op := Op.alloc 24, type := 0, pos := "ref.go:57", after := #[], guard := none }) rfl (fun K hK => ?_) AllReadyH.nil)
  · go_simp
    go_at_call 18
    refine Calls.mono (HMAC.out w2.drew (HRX.out.below (below_drewN (Below.refl _ _) 1)) (HR2.out.below (below_drewN (Below.refl _ _) 1))) ?_
    rintro e w3 ⟨rfl, hb⟩
    have hb3 : Below w2.heap.size w2 w3 := ⟨hb.os, hb.tape, hb.output, hb.size, hb.block⟩
    refine hK.out _ _ (KS.out _ hb3) (fun hHeld => ?_)
    try simp only [Act.put, List.setIfInBounds_toArray, List.set_cons_succ, List.set_cons_zero]
    refine wpAnyH_ready (rs := [14]) (by kernel_rfl) (by simp) ?_
    refine AllReadyH.cons (o := { dst := some 7, op := Op.alloc 24, type := 0, pos := "ref.go:57", after := #[], guard := none }) rfl (fun K hK => ?_) AllReadyH.nil
    go_simp
    have hO1 : (w3.alloc (.cells #[Value.int IntKind.u8 0, Value.int IntKind.u8 0, Value.int IntKind.u8 0, Value.int IntKind.u8 0, Value.int IntKind.u8 0, Value.int IntKind.u8 0, Value.int IntKind.u8 0, Value.int IntKind.u8 0, Value.int IntKind.u8 0, Value.int IntKind.u8 0, Value.int IntKind.u8 0, Value.int IntKind.u8 0, Value.int IntKind.u8 0, Value.int IntKind.u8 0, Value.int IntKind.u8 0, Value.int IntKind.u8 0, Value.int IntKind.u8 0, Value.int IntKind.u8 0, Value.int IntKind.u8 0, Value.int IntKind.u8 0, Value.int IntKind.u8 0, Value.int IntKind.u8 0, Value.int IntKind.u8 0, Value.int IntKind.u8 0, Value.int IntKind.u8 0, Value.int IntKind.u8 0, Value.int IntKind.u8 0, Value.int IntKind.u8 0, Value.int IntKind.u8 0, Value.int IntKind.u8 0, Value.int IntKind.u8 0, Value.int IntKind.u8 0] 24)).heap[w3.heap.size]? = some (.cells #[Value.int IntKind.u8 0, Value.int IntKind.u8 0, Value.int IntKind.u8 0, Value.int IntKind.u8 0, Value.int IntKind.u8 0, Value.int IntKind.u8 0, Value.int IntKind.u8 0, Value.int IntKind.u8 0, Value.int IntKind.u8 0, Value.int IntKind.u8 0, Value.int IntKind.u8 0, Value.int IntKind.u8 0, Value.int IntKind.u8 0, Value.int IntKind.u8 0, Value.int IntKind.u8 0, Value.int IntKind.u8 0, Value.int IntKind.u8 0, Value.int IntKind.u8 0, Value.int IntKind.u8 0, Value.int IntKind.u8 0, Value.int IntKind.u8 0, Value.int IntKind.u8 0, Value.int IntKind.u8 0, Value.int IntKind.u8 0, Value.int IntKind.u8 0, Value.int IntKind.u8 0, Value.int IntKind.u8 0, Value.int IntKind.u8 0, Value.int IntKind.u8 0, Value.int IntKind.u8 0, Value.int IntKind.u8 0, Value.int IntKind.u8 0] 24 (0, 0)) := heap_alloc_new _ _
    have hP1 : Below w3.heap.size w3 (w3.alloc (.cells #[Value.int IntKind.u8 0, Value.int IntKind.u8 0, Value.int IntKind.u8 0, Value.int IntKind.u8 0, Value.int IntKind.u8 0, Value.int IntKind.u8 0, Value.int IntKind.u8 0, Value.int IntKind.u8 0, Value.int IntKind.u8 0, Value.int IntKind.u8 0, Value.int IntKind.u8 0, Value.int IntKind.u8 0, Value.int IntKind.u8 0, Value.int IntKind.u8 0, Value.int IntKind.u8 0, Value.int IntKind.u8 0, Value.int IntKind.u8 0, Value.int IntKind.u8 0, Value.int IntKind.u8 0, Value.int IntKind.u8 0, Value.int IntKind.u8 0, Value.int IntKind.u8 0, Value.int IntKind.u8 0, Value.int IntKind.u8 0, Value.int IntKind.u8 0, Value.int IntKind.u8 0, Value.int IntKind.u8 0, Value.int IntKind.u8 0, Value.int IntKind.u8 0, Value.int IntKind.u8 0, Value.int IntKind.u8 0, Value.int IntKind.u8 0] 24)) := (Below.refl _ _).alloc (Nat.le_refl _) _
    have hbz : w2.heap.size ≤ w3.heap.size := hb3.size
    generalize w3.alloc (.cells #[Value.int IntKind.u8 0, Value.int IntKind.u8 0, Value.int IntKind.u8 0, Value.int IntKind.u8 0, Value.int IntKind.u8 0, Value.int IntKind.u8 0, Value.int IntKind.u8 0, Value.int IntKind.u8 0, Value.int IntKind.u8 0, Value.int IntKind.u8 0, Value.int IntKind.u8 0, Value.int IntKind.u8 0, Value.int IntKind.u8 0, Value.int IntKind.u8 0, Value.int IntKind.u8 0, Value.int IntKind.u8 0, Value.int IntKind.u8 0, Value.int IntKind.u8 0, Value.int IntKind.u8 0, Value.int IntKind.u8 0, Value.int IntKind.u8 0, Value.int IntKind.u8 0, Value.int IntKind.u8 0, Value.int IntKind.u8 0, Value.int IntKind.u8 0, Value.int IntKind.u8 0, Value.int IntKind.u8 0, Value.int IntKind.u8 0, Value.int IntKind.u8 0, Value.int IntKind.u8 0, Value.int IntKind.u8 0, Value.int IntKind.u8 0] 24) = w4 at *
    refine hK.out _ _ (KS.out _ (below_then hb3 hP1)) (fun hHeld => ?_)
    try simp only [Act.put, List.setIfInBounds_toArray, List.set_cons_succ, List.set_cons_zero]
    refine wpAnyH_ready (rs := [15]) (by kernel_rfl) (by simp) ?_
    refine AllReadyH.cons (o := { dst := none, op := Op.store 24 (Operand.tmp 7) (Operand.tmp 28), type := 0, pos := "ref.go:57", after := #[{ on := 14, ground := Ground.data }, { on := 13, ground := Ground.data }, { on := 13, ground := Ground.chain }, { on := 0, ground := Ground.phase }, { on := 1, ground := Ground.phase }, { on := 2, ground := Ground.phase }, { on := 3, ground := Ground.phase }, { on := 4, ground := Ground.phase }, { on := 5, ground := Ground.phase }, { on := 6, ground := Ground.phase }, { on := 7, ground := Ground.phase }, { on := 8, ground := Ground.phase }, { on := 9, ground := Ground.phase }, { on := 10, ground := Ground.phase }, { on := 11, ground := Ground.phase }, { on := 12, ground := Ground.phase }, { on := 13, ground := Ground.phase }, { on := 14, ground := Ground.phase }], guard := none }) rfl (fun K hK => ?_) AllReadyH.nil
    rw [if_pos (by rfl)]
    refine wp_store_row 24 (.tmp 7) (.tmp 28) rfl w3.heap.size _ rfl rfl 24 _ hO1 (by rw [List.size_toArray, List.length_map, HML.out]; kernel_rfl) (by show 32 = (MS.map (Value.int .u8)).length; rw [List.length_map, HML.out]) (map_one _) ?_
    have HSR := hid (setRow_heap w4 w3.heap.size _ ((MS.map (Value.int .u8)).toArray) 24 _ hO1)
    have HBW := hid (below_then hb3 (below_setRow hP1 (Nat.le_refl _) ((MS.map (Value.int .u8)).toArray)))
    clear hO1 hP1 hb hb3
    generalize w4.setRow w3.heap.size ((MS.map (Value.int .u8)).toArray) = w5 at *
    generalize (MS.map (Value.int .u8)).toArray = MR
    refine hK.out _ _ (KS.out _ HBW.out) (fun hHeld => ?_)
    try simp only [Act.put, List.setIfInBounds_toArray, List.set_cons_succ, List.set_cons_zero]
    refine wpAnyH_done (by kernel_rfl) ?_ _
    have HRM := hid (Rd.row HSR.out (by rw [HML.out]; omega))
    have HO5 := hid (HO2.out.below HBW.out)
    have HBZ := hid hbz
    clear hK K hbz HSR
    generalize w3.heap.size = bz at *
    go_wp2_with (at_builtin; refine hold ?_)
    refine hid ?_
    refine wpList_app2 rfl (.tmp 29) (.tmp 30) 22 5 .u8 1 rfl elemB w1.heap.size (.slice A2 52 c2) ck.plain rfl HO5.out (some ⟨bz, 0, none⟩) 32 32 MS rfl HML.out (fun h => by simp at h) HRM.out (by rw [Ck.plain_len]; omega) (by rw [Ck.plain_len]; simp [maxLen]) (by have := HBW.out.size; have := HS1.out; omega) ?_
    intro v6 w6 ho6 hg6 hat6
    rw [← HSEAL.out] at ho6
    have hb6 : Below w.heap.size w w6 := (HB2.out.trans (HBW.out.mono HB2.out.size)).grown hg6 (by have := HB2.out.size; have := HBW.out.size; omega) (fun q hq => by have := (HO5.out.lt q hq).1; have := HSB.out; omega)
    have HO6 := hid ho6; have HB6 := hid hb6
    clear ho6 hg6 hat6 hb6
    go_wp2
    go_ret2
    exact ⟨_, rfl, own_low HO6.out HSB.out, HB6.out⟩
  · go_simp
    have hO1 : (w2.alloc (.cells #[Value.int IntKind.u8 0, Value.int IntKind.u8 0, Value.int IntKind.u8 0, Value.int IntKind.u8 0, Value.int IntKind.u8 0, Value.int IntKind.u8 0, Value.int IntKind.u8 0, Value.int IntKind.u8 0, Value.int IntKind.u8 0, Value.int IntKind.u8 0, Value.int IntKind.u8 0, Value.int IntKind.u8 0, Value.int IntKind.u8 0, Value.int IntKind.u8 0, Value.int IntKind.u8 0, Value.int IntKind.u8 0, Value.int IntKind.u8 0, Value.int IntKind.u8 0, Value.int IntKind.u8 0, Value.int IntKind.u8 0, Value.int IntKind.u8 0, Value.int IntKind.u8 0, Value.int IntKind.u8 0, Value.int IntKind.u8 0, Value.int IntKind.u8 0, Value.int IntKind.u8 0, Value.int IntKind.u8 0, Value.int IntKind.u8 0, Value.int IntKind.u8 0, Value.int IntKind.u8 0, Value.int IntKind.u8 0, Value.int IntKind.u8 0] 24)).drew.heap[w2.heap.size]? = some (.cells #[Value.int IntKind.u8 0, Value.int IntKind.u8 0, Value.int IntKind.u8 0, Value.int IntKind.u8 0, Value.int IntKind.u8 0, Value.int IntKind.u8 0, Value.int IntKind.u8 0, Value.int IntKind.u8 0, Value.int IntKind.u8 0, Value.int IntKind.u8 0, Value.int IntKind.u8 0, Value.int IntKind.u8 0, Value.int IntKind.u8 0, Value.int IntKind.u8 0, Value.int IntKind.u8 0, Value.int IntKind.u8 0, Value.int IntKind.u8 0, Value.int IntKind.u8 0, Value.int IntKind.u8 0, Value.int IntKind.u8 0, Value.int IntKind.u8 0, Value.int IntKind.u8 0, Value.int IntKind.u8 0, Value.int IntKind.u8 0, Value.int IntKind.u8 0, Value.int IntKind.u8 0, Value.int IntKind.u8 0, Value.int IntKind.u8 0, Value.int IntKind.u8 0, Value.int IntKind.u8 0, Value.int IntKind.u8 0, Value.int IntKind.u8 0] 24 (0, 0)) := heap_alloc_new w2 _
    have hP1 : Below w2.heap.size w2 (w2.alloc (.cells #[Value.int IntKind.u8 0, Value.int IntKind.u8 0, Value.int IntKind.u8 0, Value.int IntKind.u8 0, Value.int IntKind.u8 0, Value.int IntKind.u8 0, Value.int IntKind.u8 0, Value.int IntKind.u8 0, Value.int IntKind.u8 0, Value.int IntKind.u8 0, Value.int IntKind.u8 0, Value.int IntKind.u8 0, Value.int IntKind.u8 0, Value.int IntKind.u8 0, Value.int IntKind.u8 0, Value.int IntKind.u8 0, Value.int IntKind.u8 0, Value.int IntKind.u8 0, Value.int IntKind.u8 0, Value.int IntKind.u8 0, Value.int IntKind.u8 0, Value.int IntKind.u8 0, Value.int IntKind.u8 0, Value.int IntKind.u8 0, Value.int IntKind.u8 0, Value.int IntKind.u8 0, Value.int IntKind.u8 0, Value.int IntKind.u8 0, Value.int IntKind.u8 0, Value.int IntKind.u8 0, Value.int IntKind.u8 0, Value.int IntKind.u8 0] 24)) := (Below.refl _ _).alloc (Nat.le_refl _) _
    have hb3 : Below w2.heap.size w2 (w2.alloc (.cells #[Value.int IntKind.u8 0, Value.int IntKind.u8 0, Value.int IntKind.u8 0, Value.int IntKind.u8 0, Value.int IntKind.u8 0, Value.int IntKind.u8 0, Value.int IntKind.u8 0, Value.int IntKind.u8 0, Value.int IntKind.u8 0, Value.int IntKind.u8 0, Value.int IntKind.u8 0, Value.int IntKind.u8 0, Value.int IntKind.u8 0, Value.int IntKind.u8 0, Value.int IntKind.u8 0, Value.int IntKind.u8 0, Value.int IntKind.u8 0, Value.int IntKind.u8 0, Value.int IntKind.u8 0, Value.int IntKind.u8 0, Value.int IntKind.u8 0, Value.int IntKind.u8 0, Value.int IntKind.u8 0, Value.int IntKind.u8 0, Value.int IntKind.u8 0, Value.int IntKind.u8 0, Value.int IntKind.u8 0, Value.int IntKind.u8 0, Value.int IntKind.u8 0, Value.int IntKind.u8 0, Value.int IntKind.u8 0, Value.int IntKind.u8 0] 24)).drew := ⟨hP1.os, hP1.tape, hP1.output, hP1.size, hP1.block⟩
    have hbz : w2.heap.size ≤ w2.heap.size := Nat.le_refl _
    clear hP1
    generalize (w2.alloc (.cells #[Value.int IntKind.u8 0, Value.int IntKind.u8 0, Value.int IntKind.u8 0, Value.int IntKind.u8 0, Value.int IntKind.u8 0, Value.int IntKind.u8 0, Value.int IntKind.u8 0, Value.int IntKind.u8 0, Value.int IntKind.u8 0, Value.int IntKind.u8 0, Value.int IntKind.u8 0, Value.int IntKind.u8 0, Value.int IntKind.u8 0, Value.int IntKind.u8 0, Value.int IntKind.u8 0, Value.int IntKind.u8 0, Value.int IntKind.u8 0, Value.int IntKind.u8 0, Value.int IntKind.u8 0, Value.int IntKind.u8 0, Value.int IntKind.u8 0, Value.int IntKind.u8 0, Value.int IntKind.u8 0, Value.int IntKind.u8 0, Value.int IntKind.u8 0, Value.int IntKind.u8 0, Value.int IntKind.u8 0, Value.int IntKind.u8 0, Value.int IntKind.u8 0, Value.int IntKind.u8 0, Value.int IntKind.u8 0, Value.int IntKind.u8 0] 24)).drew = w3 at *
    refine hK.out _ _ (KS.out _ hb3) (fun hHeld => ?_)
    try simp only [Act.put, List.setIfInBounds_toArray, List.set_cons_succ, List.set_cons_zero]
    refine wpAnyH_ready (rs := [13]) (by kernel_rfl) (by simp) ?_
    refine AllReadyH.cons (o := { dst := some 28, op := Op.call { callee := Callee.value (Operand.func 18), args := #[Operand.tmp 26, Operand.tmp 27], argTypes := #[22, 22] }, type := 24, pos := "ref.go:57", after := #[{ on := 11, ground := Ground.data }, { on := 12, ground := Ground.data }], guard := none }) rfl (fun K hK => ?_) AllReadyH.nil
    go_simp
    go_at_call 18
    refine Calls.mono (HMAC.out w3 (HRX.out.below hb3) (HR2.out.below hb3)) ?_
    rintro e w4 ⟨rfl, hb⟩
    have hb4 : Below w2.heap.size w2 w4 := below_then hb3 hb
    have hO2 : w4.heap[w2.heap.size]? = some (.cells #[Value.int IntKind.u8 0, Value.int IntKind.u8 0, Value.int IntKind.u8 0, Value.int IntKind.u8 0, Value.int IntKind.u8 0, Value.int IntKind.u8 0, Value.int IntKind.u8 0, Value.int IntKind.u8 0, Value.int IntKind.u8 0, Value.int IntKind.u8 0, Value.int IntKind.u8 0, Value.int IntKind.u8 0, Value.int IntKind.u8 0, Value.int IntKind.u8 0, Value.int IntKind.u8 0, Value.int IntKind.u8 0, Value.int IntKind.u8 0, Value.int IntKind.u8 0, Value.int IntKind.u8 0, Value.int IntKind.u8 0, Value.int IntKind.u8 0, Value.int IntKind.u8 0, Value.int IntKind.u8 0, Value.int IntKind.u8 0, Value.int IntKind.u8 0, Value.int IntKind.u8 0, Value.int IntKind.u8 0, Value.int IntKind.u8 0, Value.int IntKind.u8 0, Value.int IntKind.u8 0, Value.int IntKind.u8 0, Value.int IntKind.u8 0] 24 (0, 0)) := (hb.block _ (lt_of_block hO1)).trans hO1
    refine hK.out _ _ (KS.out _ hb4) (fun hHeld => ?_)
    try simp only [Act.put, List.setIfInBounds_toArray, List.set_cons_succ, List.set_cons_zero]
    refine wpAnyH_ready (rs := [15]) (by kernel_rfl) (by simp) ?_
    refine AllReadyH.cons (o := { dst := none, op := Op.store 24 (Operand.tmp 7) (Operand.tmp 28), type := 0, pos := "ref.go:57", after := #[{ on := 14, ground := Ground.data }, { on := 13, ground := Ground.data }, { on := 13, ground := Ground.chain }, { on := 0, ground := Ground.phase }, { on := 1, ground := Ground.phase }, { on := 2, ground := Ground.phase }, { on := 3, ground := Ground.phase }, { on := 4, ground := Ground.phase }, { on := 5, ground := Ground.phase }, { on := 6, ground := Ground.phase }, { on := 7, ground := Ground.phase }, { on := 8, ground := Ground.phase }, { on := 9, ground := Ground.phase }, { on := 10, ground := Ground.phase }, { on := 11, ground := Ground.phase }, { on := 12, ground := Ground.phase }, { on := 13, ground := Ground.phase }, { on := 14, ground := Ground.phase }], guard := none }) rfl (fun K hK => ?_) AllReadyH.nil
    rw [if_pos (by rfl)]
    refine wp_store_row 24 (.tmp 7) (.tmp 28) rfl w2.heap.size _ rfl rfl 24 _ hO2 (by rw [List.size_toArray, List.length_map, HML.out]; kernel_rfl) (by show 32 = (MS.map (Value.int .u8)).length; rw [List.length_map, HML.out]) (map_one _) ?_
    have HSR := hid (setRow_heap w4 w2.heap.size _ ((MS.map (Value.int .u8)).toArray) 24 _ hO2)
    have HBW := hid (below_setRow hb4 (Nat.le_refl _) ((MS.map (Value.int .u8)).toArray))
    clear hO1 hO2 hb hb3 hb4
    generalize w4.setRow w2.heap.size ((MS.map (Value.int .u8)).toArray) = w5 at *
    generalize (MS.map (Value.int .u8)).toArray = MR
    refine hK.out _ _ (KS.out _ HBW.out) (fun hHeld => ?_)
    try simp only [Act.put, List.setIfInBounds_toArray, List.set_cons_succ, List.set_cons_zero]
    refine wpAnyH_done (by kernel_rfl) ?_ _
    have HRM := hid (Rd.row HSR.out (by rw [HML.out]; omega))
    have HO5 := hid (HO2.out.below HBW.out)
    have HBZ := hid hbz
    clear hK K hbz HSR
    go_wp2_with (at_builtin; refine hold ?_)
    refine hid ?_
    refine wpList_app2 rfl (.tmp 29) (.tmp 30) 22 5 .u8 1 rfl elemB w1.heap.size (.slice A2 52 c2) ck.plain rfl HO5.out (some ⟨w2.heap.size, 0, none⟩) 32 32 MS rfl HML.out (fun h => by simp at h) HRM.out (by rw [Ck.plain_len]; omega) (by rw [Ck.plain_len]; simp [maxLen]) (by have := HBW.out.size; have := HS1.out; omega) ?_
    intro v6 w6 ho6 hg6 hat6
    rw [← HSEAL.out] at ho6
    have hb6 : Below w.heap.size w w6 := (HB2.out.trans (HBW.out.mono HB2.out.size)).grown hg6 (by have := HB2.out.size; have := HBW.out.size; omega) (fun q hq => by have := (HO5.out.lt q hq).1; have := HSB.out; omega)
    have HO6 := hid ho6; have HB6 := hid hb6
    clear ho6 hg6 hat6 hb6
    go_wp2
    go_ret2
    exact ⟨_, rfl, own_low HO6.out HSB.out, HB6.out⟩
end Go.Proofs.YtaieajfgcnaedaaDoor
