/-
  LAYER 6, WALKS: (*cookie.Keys).mine; Open's closure.
-/
import Derived.Test.YtaieajfgcnaedaaDoorCookB
set_option linter.unusedVariables false
set_option linter.unusedSimpArgs false
namespace Go.Proofs.YtaieajfgcnaedaaDoor
open Go.RowKit

set_option maxHeartbeats 6400000 in
set_option maxRecDepth 100000 in
theorem mine_calls (g cb nb cs ns : Nat) (B S : Option Addr) (bs ss sec frm : List Int) (two : Bool) (w : World) (hT : Tab w) (hK : KSt w g sec frm two) (hnb : bs.length = nb) (hns : ss.length = ns) (hRb : Rd w .u8 B bs) (hRs : Rd w .u8 S ss) (hB : B = none → cb = 0) (hbb : Bytes bs) (hbs : Bytes ss) (hl : nb ≤ 1000) :
    Calls Tryd.prog 43 #[.pointer (some ⟨g, 0, none⟩), .slice B nb cb, .slice S ns cs] w fun e w' => e = .returned (.bool (decide (mac sec bs = ss) || (decide (mac frm bs = ss) && two))) ∧ Below w.heap.size w w' := by
  have HT := hid hT; have HK := hid hK; have HNB := hid hnb; have HNS := hid hns; have HRb := hid hRb; have HRs := hid hRs; have HB := hid hB; have HBB := hid hbb; have HBS := hid hbs
  clear hT hK hnb hns hRb hRs hB hbb hbs
  obtain ⟨Ak, nk, ck, Ak', nk', ck', k1, k2, k3, k4, k5, k6, k7⟩ := HK.out.ex
  have K1 := hid k1; have K2 := hid k2; have K3 := hid k3; have K4 := hid k4; have K5 := hid k5; have K6 := hid k6; have K7 := hid k7
  have hls := HK.out.ls
  have hlf := HK.out.lf
  rw [k2] at hls
  rw [k3] at hlf
  have x0 : w.cell? ⟨g, 0, none⟩ = some (.slice Ak nk ck) := cellOf k1 rfl
  clear k1 k2 k3 k4 k5 k6 k7
  go_enter Tryd.func43, Tryd.ntmps43
  go_wp2_with (go_at_call 17; refine hold ?_)
  refine hid ?_
  refine Calls.mono (mac_calls ck nk cb nb Ak B sec bs K2.out HNB.out w HT.out K4.out HRb.out K6.out HB.out HK.out.bs HBB.out (by omega) (by omega)) ?_
  rintro e wa ⟨rfl, hBa0⟩
  obtain ⟨S0, hS0⟩ : ∃ S0, S0 = mac sec bs := ⟨_, rfl⟩
  rw [← hS0]
  have HS0L : Hid (S0.length = 32) := hid (by rw [hS0]; exact mac_len _ _)
  have HS0B : Hid (Bytes S0) := hid (by rw [hS0]; exact mac_bytes _ _)
  have HSE0 : Box (mac sec bs = S0) := ⟨hS0.symm⟩
  have HBA0 := hid hBa0
  clear hS0 hBa0 x0
  go_wp2_with (with_reducible refine hold_op (o := ⟨none, _, _, _, _, _⟩) ?_)
  have hO0 : (wa.alloc (.cells #[Value.int IntKind.u8 0, Value.int IntKind.u8 0, Value.int IntKind.u8 0, Value.int IntKind.u8 0, Value.int IntKind.u8 0, Value.int IntKind.u8 0, Value.int IntKind.u8 0, Value.int IntKind.u8 0, Value.int IntKind.u8 0, Value.int IntKind.u8 0, Value.int IntKind.u8 0, Value.int IntKind.u8 0, Value.int IntKind.u8 0, Value.int IntKind.u8 0, Value.int IntKind.u8 0, Value.int IntKind.u8 0, Value.int IntKind.u8 0, Value.int IntKind.u8 0, Value.int IntKind.u8 0, Value.int IntKind.u8 0, Value.int IntKind.u8 0, Value.int IntKind.u8 0, Value.int IntKind.u8 0, Value.int IntKind.u8 0, Value.int IntKind.u8 0, Value.int IntKind.u8 0, Value.int IntKind.u8 0, Value.int IntKind.u8 0, Value.int IntKind.u8 0, Value.int IntKind.u8 0, Value.int IntKind.u8 0, Value.int IntKind.u8 0] 24)).heap[wa.heap.size]? = some (.cells #[Value.int IntKind.u8 0, Value.int IntKind.u8 0, Value.int IntKind.u8 0, Value.int IntKind.u8 0, Value.int IntKind.u8 0, Value.int IntKind.u8 0, Value.int IntKind.u8 0, Value.int IntKind.u8 0, Value.int IntKind.u8 0, Value.int IntKind.u8 0, Value.int IntKind.u8 0, Value.int IntKind.u8 0, Value.int IntKind.u8 0, Value.int IntKind.u8 0, Value.int IntKind.u8 0, Value.int IntKind.u8 0, Value.int IntKind.u8 0, Value.int IntKind.u8 0, Value.int IntKind.u8 0, Value.int IntKind.u8 0, Value.int IntKind.u8 0, Value.int IntKind.u8 0, Value.int IntKind.u8 0, Value.int IntKind.u8 0, Value.int IntKind.u8 0, Value.int IntKind.u8 0, Value.int IntKind.u8 0, Value.int IntKind.u8 0, Value.int IntKind.u8 0, Value.int IntKind.u8 0, Value.int IntKind.u8 0, Value.int IntKind.u8 0] 24 (0, 0)) := heap_alloc_new _ _
  have hP0 : Below wa.heap.size wa (wa.alloc (.cells #[Value.int IntKind.u8 0, Value.int IntKind.u8 0, Value.int IntKind.u8 0, Value.int IntKind.u8 0, Value.int IntKind.u8 0, Value.int IntKind.u8 0, Value.int IntKind.u8 0, Value.int IntKind.u8 0, Value.int IntKind.u8 0, Value.int IntKind.u8 0, Value.int IntKind.u8 0, Value.int IntKind.u8 0, Value.int IntKind.u8 0, Value.int IntKind.u8 0, Value.int IntKind.u8 0, Value.int IntKind.u8 0, Value.int IntKind.u8 0, Value.int IntKind.u8 0, Value.int IntKind.u8 0, Value.int IntKind.u8 0, Value.int IntKind.u8 0, Value.int IntKind.u8 0, Value.int IntKind.u8 0, Value.int IntKind.u8 0, Value.int IntKind.u8 0, Value.int IntKind.u8 0, Value.int IntKind.u8 0, Value.int IntKind.u8 0, Value.int IntKind.u8 0, Value.int IntKind.u8 0, Value.int IntKind.u8 0, Value.int IntKind.u8 0] 24)) := (Below.refl _ _).alloc (Nat.le_refl _) _
  have HO0x := hid hO0; have HP0x := hid hP0
  clear hO0 hP0
  generalize wa.alloc (.cells #[Value.int IntKind.u8 0, Value.int IntKind.u8 0, Value.int IntKind.u8 0, Value.int IntKind.u8 0, Value.int IntKind.u8 0, Value.int IntKind.u8 0, Value.int IntKind.u8 0, Value.int IntKind.u8 0, Value.int IntKind.u8 0, Value.int IntKind.u8 0, Value.int IntKind.u8 0, Value.int IntKind.u8 0, Value.int IntKind.u8 0, Value.int IntKind.u8 0, Value.int IntKind.u8 0, Value.int IntKind.u8 0, Value.int IntKind.u8 0, Value.int IntKind.u8 0, Value.int IntKind.u8 0, Value.int IntKind.u8 0, Value.int IntKind.u8 0, Value.int IntKind.u8 0, Value.int IntKind.u8 0, Value.int IntKind.u8 0, Value.int IntKind.u8 0, Value.int IntKind.u8 0, Value.int IntKind.u8 0, Value.int IntKind.u8 0, Value.int IntKind.u8 0, Value.int IntKind.u8 0, Value.int IntKind.u8 0, Value.int IntKind.u8 0] 24) = wb at *
  refine hid ?_
  refine wpList_store_row rfl 24 (.tmp 7) (.tmp 16) rfl wa.heap.size _ rfl rfl 24 _ HO0x.out (by rw [List.size_toArray, List.length_map, HS0L.out]; kernel_rfl) (by show 32 = (S0.map (Value.int .u8)).length; rw [List.length_map, HS0L.out]) (map_one _) ?_
  have HSR0 := hid (setRow_heap wb wa.heap.size _ ((S0.map (Value.int .u8)).toArray) 24 _ HO0x.out)
  have HBR0 := hid (below_setRow HP0x.out (Nat.le_refl _) ((S0.map (Value.int .u8)).toArray))
  clear HO0x HP0x
  generalize wb.setRow wa.heap.size ((S0.map (Value.int .u8)).toArray) = w1d at *
  have HRS0 : Hid (Rd w1d .u8 (some ⟨wa.heap.size, 0, none⟩) S0) := hid (Rd.row HSR0.out (by rw [HS0L.out]; omega))
  generalize (S0.map (Value.int .u8)).toArray = SA0
  have HW1 := hid (below_then HBA0.out HBR0.out)
  have x1 : w1d.cell? ⟨g, 1, none⟩ = some (.slice Ak' nk' ck') := cellOf ((HW1.out.block _ (lt_of_block K1.out)).trans K1.out) rfl
  clear HBA0 HBR0 HSR0
  go_wp2_with (go_at_call 17; refine hold ?_)
  refine hid ?_
  refine Calls.mono (mac_calls ck' nk' cb nb Ak' B frm bs K3.out HNB.out w1d (HT.out.below HW1.out) (K5.out.below HW1.out) (HRb.out.below HW1.out) K7.out HB.out HK.out.bf HBB.out (by omega) (by omega)) ?_
  rintro e w1da ⟨rfl, hBa1⟩
  obtain ⟨S1, hS1⟩ : ∃ S1, S1 = mac frm bs := ⟨_, rfl⟩
  rw [← hS1]
  have HS1L : Hid (S1.length = 32) := hid (by rw [hS1]; exact mac_len _ _)
  have HS1B : Hid (Bytes S1) := hid (by rw [hS1]; exact mac_bytes _ _)
  have HSE1 : Box (mac frm bs = S1) := ⟨hS1.symm⟩
  have HBA1 := hid hBa1
  clear hS1 hBa1 x1
  go_wp2_with (with_reducible refine hold_op (o := ⟨none, _, _, _, _, _⟩) ?_)
  have hO1 : (w1da.alloc (.cells #[Value.int IntKind.u8 0, Value.int IntKind.u8 0, Value.int IntKind.u8 0, Value.int IntKind.u8 0, Value.int IntKind.u8 0, Value.int IntKind.u8 0, Value.int IntKind.u8 0, Value.int IntKind.u8 0, Value.int IntKind.u8 0, Value.int IntKind.u8 0, Value.int IntKind.u8 0, Value.int IntKind.u8 0, Value.int IntKind.u8 0, Value.int IntKind.u8 0, Value.int IntKind.u8 0, Value.int IntKind.u8 0, Value.int IntKind.u8 0, Value.int IntKind.u8 0, Value.int IntKind.u8 0, Value.int IntKind.u8 0, Value.int IntKind.u8 0, Value.int IntKind.u8 0, Value.int IntKind.u8 0, Value.int IntKind.u8 0, Value.int IntKind.u8 0, Value.int IntKind.u8 0, Value.int IntKind.u8 0, Value.int IntKind.u8 0, Value.int IntKind.u8 0, Value.int IntKind.u8 0, Value.int IntKind.u8 0, Value.int IntKind.u8 0] 24)).heap[w1da.heap.size]? = some (.cells #[Value.int IntKind.u8 0, Value.int IntKind.u8 0, Value.int IntKind.u8 0, Value.int IntKind.u8 0, Value.int IntKind.u8 0, Value.int IntKind.u8 0, Value.int IntKind.u8 0, Value.int IntKind.u8 0, Value.int IntKind.u8 0, Value.int IntKind.u8 0, Value.int IntKind.u8 0, Value.int IntKind.u8 0, Value.int IntKind.u8 0, Value.int IntKind.u8 0, Value.int IntKind.u8 0, Value.int IntKind.u8 0, Value.int IntKind.u8 0, Value.int IntKind.u8 0, Value.int IntKind.u8 0, Value.int IntKind.u8 0, Value.int IntKind.u8 0, Value.int IntKind.u8 0, Value.int IntKind.u8 0, Value.int IntKind.u8 0, Value.int IntKind.u8 0, Value.int IntKind.u8 0, Value.int IntKind.u8 0, Value.int IntKind.u8 0, Value.int IntKind.u8 0, Value.int IntKind.u8 0, Value.int IntKind.u8 0, Value.int IntKind.u8 0] 24 (0, 0)) := heap_alloc_new _ _
  have hP1 : Below w1da.heap.size w1da (w1da.alloc (.cells #[Value.int IntKind.u8 0, Value.int IntKind.u8 0, Value.int IntKind.u8 0, Value.int IntKind.u8 0, Value.int IntKind.u8 0, Value.int IntKind.u8 0, Value.int IntKind.u8 0, Value.int IntKind.u8 0, Value.int IntKind.u8 0, Value.int IntKind.u8 0, Value.int IntKind.u8 0, Value.int IntKind.u8 0, Value.int IntKind.u8 0, Value.int IntKind.u8 0, Value.int IntKind.u8 0, Value.int IntKind.u8 0, Value.int IntKind.u8 0, Value.int IntKind.u8 0, Value.int IntKind.u8 0, Value.int IntKind.u8 0, Value.int IntKind.u8 0, Value.int IntKind.u8 0, Value.int IntKind.u8 0, Value.int IntKind.u8 0, Value.int IntKind.u8 0, Value.int IntKind.u8 0, Value.int IntKind.u8 0, Value.int IntKind.u8 0, Value.int IntKind.u8 0, Value.int IntKind.u8 0, Value.int IntKind.u8 0, Value.int IntKind.u8 0] 24)) := (Below.refl _ _).alloc (Nat.le_refl _) _
  have HO1x := hid hO1; have HP1x := hid hP1
  clear hO1 hP1
  generalize w1da.alloc (.cells #[Value.int IntKind.u8 0, Value.int IntKind.u8 0, Value.int IntKind.u8 0, Value.int IntKind.u8 0, Value.int IntKind.u8 0, Value.int IntKind.u8 0, Value.int IntKind.u8 0, Value.int IntKind.u8 0, Value.int IntKind.u8 0, Value.int IntKind.u8 0, Value.int IntKind.u8 0, Value.int IntKind.u8 0, Value.int IntKind.u8 0, Value.int IntKind.u8 0, Value.int IntKind.u8 0, Value.int IntKind.u8 0, Value.int IntKind.u8 0, Value.int IntKind.u8 0, Value.int IntKind.u8 0, Value.int IntKind.u8 0, Value.int IntKind.u8 0, Value.int IntKind.u8 0, Value.int IntKind.u8 0, Value.int IntKind.u8 0, Value.int IntKind.u8 0, Value.int IntKind.u8 0, Value.int IntKind.u8 0, Value.int IntKind.u8 0, Value.int IntKind.u8 0, Value.int IntKind.u8 0, Value.int IntKind.u8 0, Value.int IntKind.u8 0] 24) = w1db at *
  refine hid ?_
  refine wpList_store_row rfl 24 (.tmp 8) (.tmp 22) rfl w1da.heap.size _ rfl rfl 24 _ HO1x.out (by rw [List.size_toArray, List.length_map, HS1L.out]; kernel_rfl) (by show 32 = (S1.map (Value.int .u8)).length; rw [List.length_map, HS1L.out]) (map_one _) ?_
  have HSR1 := hid (setRow_heap w1db w1da.heap.size _ ((S1.map (Value.int .u8)).toArray) 24 _ HO1x.out)
  have HBR1 := hid (below_setRow HP1x.out (Nat.le_refl _) ((S1.map (Value.int .u8)).toArray))
  clear HO1x HP1x
  generalize w1db.setRow w1da.heap.size ((S1.map (Value.int .u8)).toArray) = w2d at *
  have HRS1 : Hid (Rd w2d .u8 (some ⟨w1da.heap.size, 0, none⟩) S1) := hid (Rd.row HSR1.out (by rw [HS1L.out]; omega))
  generalize (S1.map (Value.int .u8)).toArray = SA1
  have HX1 := hid (below_then HBA1.out HBR1.out)
  have HW2 := hid (below_then HW1.out HX1.out)
  have HR0 := hid (HRS0.out.below HX1.out)
  have HRs2 := hid (HRs.out.below HW2.out)
  have x2 : w2d.cell? ⟨g, 2, none⟩ = some (.bool two) := cellOf ((HW2.out.block _ (lt_of_block K1.out)).trans K1.out) rfl
  have X2 := hid x2
  clear x2 HBA1 HBR1 HSR1 HW1 HX1 HRS0
  go_wp2_with (go_at_call 19; refine hold ?_)
  refine hid ?_
  refine Calls.mono (same_calls 32 32 cs ns _ S S0 ss HS0L.out HNS.out w2d HR0.out HRs2.out HS0B.out HBS.out) ?_
  rintro e w3 ⟨rfl, hD3⟩
  have HR1 := hid (HRS1.out.below hD3.below)
  have HRs3 := hid (HRs2.out.below hD3.below)
  have HW3 := hid (below_then HW2.out hD3.below)
  have X3 := hid ((hD3.below.cell (p := ⟨g, 2, none⟩) (by have := HW2.out.size; have := HK.out.lt; show g < _; omega)).trans X2.out)
  clear hD3 HW2 HRs2 HRS1 HR0 X2
  go_wp2_with (go_at_call 19; refine hold ?_)
  refine hid ?_
  refine Calls.mono (same_calls 32 32 cs ns _ S S1 ss HS1L.out HNS.out w3 HR1.out HRs3.out HS1B.out HBS.out) ?_
  rintro e w4 ⟨rfl, hD4⟩
  have x4 := (hD4.below.cell (p := ⟨g, 2, none⟩) (by have := HW3.out.size; have := HK.out.lt; show g < _; omega)).trans X3.out
  have HW4 := hid (below_then HW3.out hD4.below)
  clear hD4 HW3 HRs3 HR1 X3
  obtain ⟨p, hp⟩ : ∃ p, p = decide (S0 = ss) := ⟨_, rfl⟩
  obtain ⟨q, hq⟩ : ∃ q, q = decide (S1 = ss) := ⟨_, rfl⟩
  rw [← hp, ← hq]
  have HP : Box (decide (mac sec bs = ss) = p) := ⟨by rw [HSE0.out, hp]⟩
  have HQ : Box (decide (mac frm bs = ss) = q) := ⟨by rw [HSE1.out, hq]⟩
  clear hp hq
  cases p <;> cases q <;> cases two
  all_goals
    go_wp2
    go_ret
    exact ⟨by rw [HP.out, HQ.out]; rfl, HW4.out⟩
theorem next_calls (n p : Nat) (gb ob cb g4 g8 : Nat) (bs : List Int) (hl : bs.length = 84) (hn1 : 1 ≤ n) (hn8 : n ≤ 8) (hp : p + n ≤ 84) (hcb : 84 ≤ cb) (hcm : cb ≤ 9223372036854775807) (t4 : TypeId) (w : World) (h4 : Cell w g4 t4 (.slice (some ⟨gb, ob, none⟩) 84 cb)) (h8 : Cell w g8 3 (.int .i64 p)) (hR : Rd w .u8 (some ⟨gb, ob, none⟩) bs) (hb : Bytes bs) :
    Calls Tryd.prog 44 #[.int .i64 n, .pointer (some ⟨g4, 0, none⟩), .pointer (some ⟨g8, 0, none⟩)] w fun e w' => e = .returned (.int .u64 (numAt bs p n)) ∧ w' = w.setCell ⟨g8, 0, none⟩ (.int .i64 ((p : Int) + n)) := by
  have c4 := h4.cell
  have c8 := h8.cell
  have f8 := h8.free
  have HN := hid (num_calls cb 84 p n (some ⟨gb, ob, none⟩) bs hl w hR hb hn1 hn8 (by omega) hcb hcm)
  have hw : IntKind.i64.wrap ((p : Int) + (n : Int)) = (p : Int) + n := IntWalk.i64_in _ (by omega)
  clear h4 h8 hR hb
  go_enter Tryd.func44, Tryd.ntmps44
  go_wp2_with (go_at_call 45; refine Calls.mono HN.out ?_; rintro e w' ⟨rfl, rfl⟩)
  go_ret
  exact ⟨rfl, rfl⟩
end Go.Proofs.YtaieajfgcnaedaaDoor
