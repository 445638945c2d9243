/-
  LAYER 8, WALKS: ether.Put, PutArp.
-/
import Derived.Test.YtebfoigbiekeiaaEthA
import Derived.Deep.RegionHeld3
set_option linter.unusedVariables false
set_option linter.unusedSimpArgs false
namespace Go.Proofs.Ytebfoigbiekeiaa
open Go Go.RowKit

theorem own_low {w : World} {B B' : Nat} {e : TypeId} {k : IntKind} {v : Value} {xs : List Int} (h : Own w B e k v xs) (hB : B' ≤ B) : Own w B' e k v xs :=
  ⟨h.1, h.2.imp id fun ⟨g', cap, cur, h1, h2, h3⟩ => ⟨g', cap, cur, h1, Nat.le_trans hB h2, h3⟩⟩
theorem cellOf {w : World} {g i : Nat} {cs : Array Value} {t : TypeId} {v : Value} (hg : w.heap[g]? = some (.cells cs t (0, 0))) (e : cs[i]? = some v) : w.cell? ⟨g, i, none⟩ = some v := by simp [World.cell?, hg, e]
theorem Rd.lit {w : World} {k : IntKind} {t : TypeId} {fr : Nat × Nat} {xs : List Int} {cs : Array Value} (hc : cs.toList = xs.map (Value.int k)) (hl : xs.length ≤ 140737488355328) : Rd (w.alloc (.cells cs t fr)) k (some ⟨w.heap.size, 0, none⟩) xs :=
  ⟨hl, fun j hj => ⟨w.heap.size, 0, rfl, by simp, by
    rw [Nat.zero_add, World.cell?_alloc_mark, ← Array.getElem?_toList, hc]
    simp [List.getElem?_map, List.getElem?_eq_getElem hj, List.getD_eq_getElem?_getD]⟩⟩
theorem pow8 : (256 : Int) ^ 8 = 18446744073709551616 := rfl
theorem pow6 : (256 : Int) ^ 6 = 281474976710656 := rfl
theorem pow4 : (256 : Int) ^ 4 = 4294967296 := rfl
theorem pow2 : (256 : Int) ^ 2 = 65536 := rfl
set_option maxHeartbeats 12800000 in
set_option maxRecDepth 100000 in
theorem put_calls (to frm kind : Int) (c n : Nat) (A : Option Addr) (xs : List Int) (hn : xs.length = n) (hto : 0 ≤ to ∧ to < 281474976710656) (hfr : 0 ≤ frm ∧ frm < 281474976710656) (hki : 1536 ≤ kind ∧ kind < 65536) (hl : n ≤ 1500) (w : World) (hR : Rd w .u8 A xs) (hA : A = none → c = 0) :
    Calls Try.prog 43 #[.agg #[.int .u64 to, .int .u64 frm, .int .u16 kind, .slice A n c]] w fun e w' => ∃ v, e = .returned (.tuple #[v, .int .i64 0]) ∧ Own w' w.heap.size 5 .u8 v (etherB to frm kind xs) ∧ Below w.heap.size w w' := by
  have hg : (w.alloc (.cells #[.int .u64 to, .int .u64 frm, .int .u16 kind, .slice A n c] 33)).heap[w.heap.size]? = some (.cells #[.int .u64 to, .int .u64 frm, .int .u16 kind, .slice A n c] 33 (0, 0)) := heap_alloc_new _ _
  have hB1 : Below w.heap.size w (w.alloc (.cells #[.int .u64 to, .int .u64 frm, .int .u16 kind, .slice A n c] 33)) := (Below.refl _ _).alloc (Nat.le_refl _) _
  have hs1 : (w.alloc (.cells #[.int .u64 to, .int .u64 frm, .int .u16 kind, .slice A n c] 33)).heap.size = w.heap.size + 1 := by simp
  have y0 : (w.alloc (.cells #[.int .u64 to, .int .u64 frm, .int .u16 kind, .slice A n c] 33)).cell? ⟨w.heap.size, 0, none⟩ = some (.int .u64 to) := cellOf hg rfl
  have y1 : (w.alloc (.cells #[.int .u64 to, .int .u64 frm, .int .u16 kind, .slice A n c] 33)).cell? ⟨w.heap.size, 1, none⟩ = some (.int .u64 frm) := cellOf hg rfl
  have HG := hid hg; have HB1 := hid hB1; have HS1 := hid hs1; have HR := hid hR; have HA := hid hA; have HN := hid hn
  have HTO := hid hto; have HFR := hid hfr
  obtain ⟨k0, k1⟩ := hki
  have hk2 : ¬ kind < 1536 := by omega
  have hn2 : ¬ (1500 : Int) < (n : Int) := by omega
  have hn3 : ¬ 1500 < n := by omega
  clear hg hB1 hs1 hR hA hn hto hfr
  go_enter Try.func43, Try.ntmps43
  go_wp2_with (go_at_call 56; refine hold ?_)
  refine hid ?_
  generalize w.alloc (.cells #[.int .u64 to, .int .u64 frm, .int .u16 kind, .slice A n c] 33) = w1 at *
  have hR2 : Rd (w1.alloc (.cells #[.int .u64 to, .int .u64 frm] 27)) .u64 (some ⟨w1.heap.size, 0, none⟩) [to, frm] := Rd.lit rfl (by simp)
  have hB2 : Below w1.heap.size w1 (w1.alloc (.cells #[.int .u64 to, .int .u64 frm] 27)) := (Below.refl _ _).alloc (Nat.le_refl _) _
  rw [← HS1.out]
  have HR2 := hid hR2; have HB2 := hid hB2
  clear hR2 hB2 y0 y1
  generalize w1.alloc (.cells #[.int .u64 to, .int .u64 frm] 27) = w2 at *
  refine Calls.mono (card_calls w1.heap.size 2 2 [to, frm] rfl w2 HR2.out (fun m hm => by
    have h1 := HTO.out; have h2 := HFR.out
    simp at hm
    rcases hm with rfl | rfl
    · exact h1
    · exact h2) (by omega)) ?_
  rintro e w3 ⟨rfl, rfl⟩
  have hg2 := (HB2.out.block _ (lt_of_block HG.out)).trans HG.out
  have HG2 := hid hg2
  have y2 : w2.cell? ⟨w.heap.size, 2, none⟩ = some (.int .u16 kind) := cellOf hg2 rfl
  have y3 : w2.cell? ⟨w.heap.size, 3, none⟩ = some (.slice A n c) := cellOf hg2 rfl
  have y0 : w2.cell? ⟨w.heap.size, 0, none⟩ = some (.int .u64 to) := cellOf hg2 rfl
  have y1 : w2.cell? ⟨w.heap.size, 1, none⟩ = some (.int .u64 frm) := cellOf hg2 rfl
  have hS : ∀ W, Below w2.heap.size w2 W → W.cell? ⟨w.heap.size, 0, none⟩ = some (.int .u64 to) ∧ W.cell? ⟨w.heap.size, 1, none⟩ = some (.int .u64 frm) ∧ W.cell? ⟨w.heap.size, 2, none⟩ = some (.int .u16 kind) ∧ W.cell? ⟨w.heap.size, 3, none⟩ = some (.slice A n c) := fun W h => by
    have := (h.block _ (lt_of_block hg2)).trans hg2
    exact ⟨cellOf this rfl, cellOf this rfl, cellOf this rfl, cellOf this rfl⟩
  have HSS := hid hS
  have hwk : IntKind.u64.wrap kind = kind := by rw [IntKind.wrap_u64]; omega
  clear hg2 hS HR2
  go_wp2_with fail
  refine wp_region_held_drew (S := fun W => W.cell? ⟨w.heap.size, 0, none⟩ = some (.int .u64 to) ∧ W.cell? ⟨w.heap.size, 1, none⟩ = some (.int .u64 frm) ∧ W.cell? ⟨w.heap.size, 2, none⟩ = some (.int .u16 kind) ∧ W.cell? ⟨w.heap.size, 3, none⟩ = some (.slice A n c)) (by kernel_rfl) (HSS.out _ (Below.refl _ _).drew) (fun hHeld => ?_)
  clear y0 y1 y2 y3
  refine wpAnyH_take (i := 0) (oi := { dst := some 22, op := Op.fieldAddr 33 (Operand.tmp 1) 0, type := 0, pos := "ether.go:49", after := #[], guard := none }) (v := ?_) rfl (by kernel_rfl) (by kernel_rfl) (by kernel_rfl) (fun _ _ _ h => h) (Or.inl ⟨by rfl, ?_⟩) hHeld ?_
  rotate_left
  · (intro w hSw; (try dsimp only at hSw); go_simp; try with_reducible rfl)
  try simp only [Act.put, List.setIfInBounds_toArray, List.set_cons_succ, List.set_cons_zero]
  refine wpAnyH_take (i := 1) (oi := { dst := some 23, op := Op.load 27 (Operand.tmp 22), type := 27, pos := "ether.go:49", after := #[{ on := 0, ground := Ground.data }], guard := none }) (v := ?_) rfl (by kernel_rfl) (by kernel_rfl) (by kernel_rfl) (fun _ _ _ h => h) (Or.inl ⟨by rfl, ?_⟩) hHeld ?_
  rotate_left
  · (intro w hSw; (try dsimp only at hSw); go_simp; try with_reducible rfl)
  try simp only [Act.put, List.setIfInBounds_toArray, List.set_cons_succ, List.set_cons_zero]
  refine wpAnyH_take (i := 2) (oi := { dst := some 24, op := Op.build 109 #[(0, Operand.const (Value.int IntKind.u64 6)), (1, Operand.tmp 23)], type := 109, pos := "ether.go:49", after := #[{ on := 1, ground := Ground.data }], guard := none }) (v := ?_) rfl (by kernel_rfl) (by kernel_rfl) (by kernel_rfl) (fun _ _ _ h => h) (Or.inl ⟨by rfl, ?_⟩) hHeld ?_
  rotate_left
  · (intro w hSw; (try dsimp only at hSw); go_simp; try with_reducible rfl)
  try simp only [Act.put, List.setIfInBounds_toArray, List.set_cons_succ, List.set_cons_zero]
  refine wpAnyH_take (i := 3) (oi := { dst := some 25, op := Op.fieldAddr 33 (Operand.tmp 1) 1, type := 0, pos := "ether.go:49", after := #[], guard := none }) (v := ?_) rfl (by kernel_rfl) (by kernel_rfl) (by kernel_rfl) (fun _ _ _ h => h) (Or.inl ⟨by rfl, ?_⟩) hHeld ?_
  rotate_left
  · (intro w hSw; (try dsimp only at hSw); go_simp; try with_reducible rfl)
  try simp only [Act.put, List.setIfInBounds_toArray, List.set_cons_succ, List.set_cons_zero]
  refine wpAnyH_take (i := 4) (oi := { dst := some 26, op := Op.load 27 (Operand.tmp 25), type := 27, pos := "ether.go:49", after := #[{ on := 3, ground := Ground.data }], guard := none }) (v := ?_) rfl (by kernel_rfl) (by kernel_rfl) (by kernel_rfl) (fun _ _ _ h => h) (Or.inl ⟨by rfl, ?_⟩) hHeld ?_
  rotate_left
  · (intro w hSw; (try dsimp only at hSw); go_simp; try with_reducible rfl)
  try simp only [Act.put, List.setIfInBounds_toArray, List.set_cons_succ, List.set_cons_zero]
  refine wpAnyH_take (i := 5) (oi := { dst := some 27, op := Op.build 109 #[(0, Operand.const (Value.int IntKind.u64 6)), (1, Operand.tmp 26)], type := 109, pos := "ether.go:49", after := #[{ on := 4, ground := Ground.data }], guard := none }) (v := ?_) rfl (by kernel_rfl) (by kernel_rfl) (by kernel_rfl) (fun _ _ _ h => h) (Or.inl ⟨by rfl, ?_⟩) hHeld ?_
  rotate_left
  · (intro w hSw; (try dsimp only at hSw); go_simp; try with_reducible rfl)
  try simp only [Act.put, List.setIfInBounds_toArray, List.set_cons_succ, List.set_cons_zero]
  refine wpAnyH_take (i := 6) (oi := { dst := some 28, op := Op.fieldAddr 33 (Operand.tmp 1) 2, type := 0, pos := "ether.go:49", after := #[], guard := none }) (v := ?_) rfl (by kernel_rfl) (by kernel_rfl) (by kernel_rfl) (fun _ _ _ h => h) (Or.inl ⟨by rfl, ?_⟩) hHeld ?_
  rotate_left
  · (intro w hSw; (try dsimp only at hSw); go_simp; try with_reducible rfl)
  try simp only [Act.put, List.setIfInBounds_toArray, List.set_cons_succ, List.set_cons_zero]
  refine wpAnyH_take (i := 7) (oi := { dst := some 29, op := Op.load 30 (Operand.tmp 28), type := 30, pos := "ether.go:49", after := #[{ on := 6, ground := Ground.data }], guard := none }) (v := ?_) rfl (by kernel_rfl) (by kernel_rfl) (by kernel_rfl) (fun _ _ _ h => h) (Or.inl ⟨by rfl, ?_⟩) hHeld ?_
  rotate_left
  · (intro w hSw; (try dsimp only at hSw); go_simp; try with_reducible rfl)
  try simp only [Act.put, List.setIfInBounds_toArray, List.set_cons_succ, List.set_cons_zero]
  refine wpAnyH_take (i := 8) (oi := { dst := some 30, op := Op.convert 30 27 (Operand.tmp 29), type := 27, pos := "ether.go:49", after := #[{ on := 7, ground := Ground.data }], guard := none }) (v := ?_) rfl (by kernel_rfl) (by kernel_rfl) (by kernel_rfl) (fun _ _ _ h => h) (Or.inl ⟨by rfl, ?_⟩) hHeld ?_
  rotate_left
  · (intro w hSw; (try dsimp only at hSw); go_simp; try with_reducible rfl)
  try simp only [Act.put, List.setIfInBounds_toArray, List.set_cons_succ, List.set_cons_zero]
  refine wpAnyH_take (i := 9) (oi := { dst := some 31, op := Op.build 109 #[(0, Operand.const (Value.int IntKind.u64 2)), (1, Operand.tmp 30)], type := 109, pos := "ether.go:49", after := #[{ on := 8, ground := Ground.data }], guard := none }) (v := ?_) rfl (by kernel_rfl) (by kernel_rfl) (by kernel_rfl) (fun _ _ _ h => h) (Or.inl ⟨by rfl, ?_⟩) hHeld ?_
  rotate_left
  · (intro w hSw; (try dsimp only at hSw); go_simp; try with_reducible rfl)
  try simp only [Act.put, List.setIfInBounds_toArray, List.set_cons_succ, List.set_cons_zero]
  refine wpAnyH_take (i := 12) (oi := { dst := some 34, op := Op.fieldAddr 33 (Operand.tmp 1) 3, type := 0, pos := "ether.go:49", after := #[], guard := none }) (v := ?_) rfl (by kernel_rfl) (by kernel_rfl) (by kernel_rfl) (fun _ _ _ h => h) (Or.inl ⟨by rfl, ?_⟩) hHeld ?_
  rotate_left
  · (intro w hSw; (try dsimp only at hSw); go_simp; try with_reducible rfl)
  try simp only [Act.put, List.setIfInBounds_toArray, List.set_cons_succ, List.set_cons_zero]
  refine wpAnyH_take (i := 13) (oi := { dst := some 35, op := Op.load 31 (Operand.tmp 34), type := 31, pos := "ether.go:49", after := #[{ on := 12, ground := Ground.data }], guard := none }) (v := ?_) rfl (by kernel_rfl) (by kernel_rfl) (by kernel_rfl) (fun _ _ _ h => h) (Or.inl ⟨by rfl, ?_⟩) hHeld ?_
  rotate_left
  · (intro w hSw; (try dsimp only at hSw); go_simp; try with_reducible rfl)
  try simp only [Act.put, List.setIfInBounds_toArray, List.set_cons_succ, List.set_cons_zero]
  refine wpAnyH_ready (rs := [10]) (by kernel_rfl) (by simp) ?_
  refine AllReadyH.cons (o := _) rfl (fun K hK => ?_) AllReadyH.nil
  go_simp
  have hO1 : (w2.alloc (.cells #[.int .u64 6, .int .u64 to, .int .u64 6, .int .u64 frm, .int .u64 2, .int .u64 kind] 109)).drew.heap[w2.heap.size]? = some (.cells #[.int .u64 6, .int .u64 to, .int .u64 6, .int .u64 frm, .int .u64 2, .int .u64 kind] 109 (0, 0)) := heap_alloc_new _ _
  have hP1 : Below w2.heap.size w2 (w2.alloc (.cells #[.int .u64 6, .int .u64 to, .int .u64 6, .int .u64 frm, .int .u64 2, .int .u64 kind] 109)).drew := ((Below.refl _ _).alloc (Nat.le_refl _) _).drew
  generalize (w2.alloc (.cells #[.int .u64 6, .int .u64 to, .int .u64 6, .int .u64 frm, .int .u64 2, .int .u64 kind] 109)).drew = w4 at *
  refine hK.out _ _ (HSS.out _ hP1) (fun hHeld => ?_)
  clear hK K
  try simp only [Act.put, List.setIfInBounds_toArray, List.set_cons_succ, List.set_cons_zero]
  refine wpAnyH_ready (rs := [11]) (by kernel_rfl) (by simp) ?_
  refine AllReadyH.cons (o := _) rfl (fun K hK => ?_) AllReadyH.nil
  go_simp
  go_at_call 57
  have hrp : RdP w4 w2.heap.size [(6, to), (6, frm), (2, kind)] := ⟨lt_of_block hO1, fun j hj => by
    match j, hj with
    | 0, _ | 1, _ | 2, _ => exact ⟨cellOf hO1 rfl, cellOf hO1 rfl⟩⟩
  refine Calls.mono (elay_calls w4.heap.size 3 w2.heap.size (.slice none 0 0) [] [(6, to), (6, frm), (2, kind)] rfl w4 (Own.nil _ _ _ _) (Nat.le_refl _) hrp (fun p hp => by
    have h1 := HTO.out; have h2 := HFR.out
    simp at hp
    rcases hp with rfl | rfl | rfl
    · exact ⟨by omega, by omega, h1.1, by omega, fun _ => by rw [pow6]; exact h1.2⟩
    · exact ⟨by omega, by omega, h2.1, by omega, fun _ => by rw [pow6]; exact h2.2⟩
    · exact ⟨by omega, by omega, by omega, by omega, fun _ => by rw [pow2]; exact k1⟩) (by simp) (by omega) (by simp [Value.ownBlock])) ?_
  rintro e w5 ⟨v5, rfl, ho5, hb5⟩
  rw [List.nil_append] at ho5
  have hlB : (layB [(6, to), (6, frm), (2, kind)]).length = 14 := by simp [layB, be_length]
  have HO5 := hid ho5; have HB5 := hid (below_then hP1 hb5); have HLB := hid hlB; have HS45 := hid hb5.size; have HS24 := hid hP1.size
  obtain ⟨A5, c5, rfl, _⟩ := ho5.rd (by omega)
  refine hK.out _ _ (HSS.out _ HB5.out) (fun hHeld => ?_)
  clear hK K hO1 hrp ho5 hb5 hlB
  try simp only [Act.put, List.setIfInBounds_toArray, List.set_cons_succ, List.set_cons_zero]
  refine wpAnyH_ready (rs := [14]) (by kernel_rfl) (by simp) ?_
  refine AllReadyH.cons (o := _) rfl (fun K hK => ?_) AllReadyH.nil
  refine step_app2 (by rfl) (.tmp 33) (.tmp 35) 31 5 .u8 1 rfl elemB w4.heap.size _ (layB [(6, to), (6, frm), (2, kind)]) rfl HO5.out A c n xs rfl HN.out HA.out (HR.out.below (below_then HB1.out (below_then HB2.out HB5.out))) (by rw [HLB.out]; omega) (by rw [HLB.out]; unfold maxLen; omega) (by have := HS45.out; omega) ?_
  intro v6 w6 ho6 hg6 hat6
  have hb6 : Below w2.heap.size w2 w6 := HB5.out.grown hg6 HB5.out.size (fun q hq => by have := (HO5.out.lt q hq).1; have := HS24.out; omega)
  have hfin : Own w6 w.heap.size 5 .u8 v6 (etherB to frm kind xs) := by
    have h1 : layB [(6, to), (6, frm), (2, kind)] ++ xs = etherB to frm kind xs := by simp [layB, etherB]
    rw [h1] at ho6
    exact own_low ho6 (by have := HS24.out; have := HB2.out.size; have := HB1.out.size; omega)
  have HF := hid hfin; have HBF := hid (below_then HB1.out (below_then HB2.out hb6))
  refine hK.out _ _ (HSS.out _ hb6) (fun hHeld => ?_)
  clear hK K ho6 hg6 hat6 hfin HO5 HB5 HR HA
  try simp only [Act.put, List.setIfInBounds_toArray, List.set_cons_succ, List.set_cons_zero]
  refine wpAnyH_ready (rs := [15]) (by kernel_rfl) (by simp) ?_
  refine AllReadyH.cons (o := _) rfl (fun K hK => ?_) AllReadyH.nil
  go_simp
  refine hK.out _ _ (HSS.out _ hb6) (fun hHeld => ?_)
  clear hK K
  try simp only [Act.put, List.setIfInBounds_toArray, List.set_cons_succ, List.set_cons_zero]
  refine wpAnyH_ready (rs := [16]) (by kernel_rfl) (by simp) ?_
  refine AllReadyH.cons (o := _) rfl (fun K hK => ?_) AllReadyH.nil
  go_simp
  refine hK.out _ _ (HSS.out _ hb6) (fun hHeld => ?_)
  clear hK K
  try simp only [Act.put, List.setIfInBounds_toArray, List.set_cons_succ, List.set_cons_zero]
  refine wpAnyH_done (by kernel_rfl) ?_ _
  clear hHeld HSS hb6
  go_wp2
  go_ret2
  exact ⟨_, rfl, HF.out, HBF.out⟩
end Go.Proofs.Ytebfoigbiekeiaa
