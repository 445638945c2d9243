/-
  THE REFERENCE OF LAYER 6, WALKS: Open.
-/
import Derived.Test.YtaieajfgcnaedaaDoorRefD
import Derived.Test.YtaieajfgcnaedaaDoorRefB
import Derived.Test.YtaieajfgcnaedaaDoorCookI
import Derived.Test.YtaieajfgcnaedaaDoorStr
import Derived.Deep.RegionHeld3
set_option linter.unusedVariables false
set_option linter.unusedSimpArgs false
namespace Go.Proofs.YtaieajfgcnaedaaDoor
open Go.RowKit

/-- Is one of the first i secrets, of the last two, one that sums so? -/
def rkGood (L : List (List Int)) (p s : List Int) : Nat → Bool
  | 0 => false
  | i + 1 => rkGood L p s i || (decide (L.length ≤ i + 2) && decide (mac (L.getD i []) p = s))
/-- What the reference's keys open. -/
def rkOpen (L : List (List Int)) (b : List Int) (now : Int) : Ck × Int :=
  if now < 0 ∨ 1099511627776 < now then (Ck.none, 2)
  else if b.length ≠ 84 then (Ck.none, 4)
  else if rkGood L (b.take 52) (b.drop 52) L.length = false then (Ck.none, 5)
  else if numAt b 48 4 ≠ 0 then (Ck.none, 4)
  else if 1099511627776 < numAt b 0 8 ∨ 600 < numAt b 8 4 then (Ck.none, 6)
  else if now < numAt b 0 8 ∨ numAt b 0 8 + numAt b 8 4 < now then (Ck.none, 8)
  else (ckOf b, 0)
theorem str_decide {xs ys : List Int} (hx : Bytes xs) (hy : Bytes ys) : ((strOfNums xs).toList == (strOfNums ys).toList) = decide (xs = ys) := by
  by_cases h : xs = ys
  · subst h; simp
  · rw [decide_eq_false h, beq_eq_false_iff_ne]
    intro h1
    apply h
    apply str_inj hx hy
    have h2 : (strOfNums xs).data.toList = (strOfNums ys).data.toList := by
      rw [← ByteArray.toList_eq, ← ByteArray.toList_eq]; exact h1
    have h3 := Array.toList_inj.1 h2
    cases hs : strOfNums xs
    cases ht : strOfNums ys
    rw [hs, ht] at h3
    simpa using h3
set_option maxHeartbeats 25600000 in
set_option maxRecDepth 100000 in
theorem ropen_calls (g nb cb : Nat) (A : Option Addr) (bs : List Int) (L : List (List Int)) (hL : L.length ≤ 1000) (now : Int) (w : World) (hK : RSt w g L) (hnb : bs.length = nb) (hR : Rd w .u8 A bs) (hb : Bytes bs) (hcb : nb ≤ cb) (hcm : cb ≤ 9223372036854775807) :
    Calls Tryd.prog 54 #[.pointer (some ⟨g, 0, none⟩), .slice A nb cb, .int .i64 now] w fun e w' => e = .returned (.tuple #[.agg (rkOpen L bs now).1.cells, .int .i64 (rkOpen L bs now).2]) ∧ Below w.heap.size w w' := by
  have hB1 : Below w.heap.size w (w.alloc (.cells #[Value.int IntKind.i64 0, Value.int IntKind.i64 0, Value.int IntKind.u16 0, Value.int IntKind.u16 0, Value.int IntKind.u32 0, Value.int IntKind.u32 0, Value.int IntKind.u32 0, Value.int IntKind.u32 0, Value.int IntKind.u32 0, Value.int IntKind.u16 0, Value.int IntKind.u16 0, Value.int IntKind.u32 0, Value.int IntKind.u32 0] 40)) := (Below.refl _ _).alloc (Nat.le_refl _) _
  have hR1 : (w.alloc (.cells #[Value.int IntKind.i64 0, Value.int IntKind.i64 0, Value.int IntKind.u16 0, Value.int IntKind.u16 0, Value.int IntKind.u32 0, Value.int IntKind.u32 0, Value.int IntKind.u32 0, Value.int IntKind.u32 0, Value.int IntKind.u32 0, Value.int IntKind.u16 0, Value.int IntKind.u16 0, Value.int IntKind.u32 0, Value.int IntKind.u32 0] 40)).heap[w.heap.size]? = some (.cells #[Value.int IntKind.i64 0, Value.int IntKind.i64 0, Value.int IntKind.u16 0, Value.int IntKind.u16 0, Value.int IntKind.u32 0, Value.int IntKind.u32 0, Value.int IntKind.u32 0, Value.int IntKind.u32 0, Value.int IntKind.u32 0, Value.int IntKind.u16 0, Value.int IntKind.u16 0, Value.int IntKind.u32 0, Value.int IntKind.u32 0] 40 (0, 0)) := heap_alloc_new _ _
  have HK := hid (hK.below hB1); have HNB := hid hnb; have HR := hid (hR.below hB1); have HBB := hid hb; have HGL := hid hK.lt
  have HB1 := hid hB1; have HR1 := hid hR1; have HL := hid hL
  have hnl := HR.out.len
  rw [HNB.out] at hnl
  clear hK hnb hR hb hB1 hR1 hL
  go_enter Tryd.func54, Tryd.ntmps54
  by_cases ha : now < 0 ∨ 1099511627776 < now
  · have HCO : Box (rkOpen L bs now = (Ck.none, 2)) := ⟨by unfold rkOpen; rw [if_pos ha]⟩
    by_cases hz : now < 0
    · clear ha
      go_wp2_with (with_reducible refine hold_op (o := ⟨none, _, _, _, _, _⟩) ?_)
      generalize w.alloc (.cells #[Value.int IntKind.i64 0, Value.int IntKind.i64 0, Value.int IntKind.u16 0, Value.int IntKind.u16 0, Value.int IntKind.u32 0, Value.int IntKind.u32 0, Value.int IntKind.u32 0, Value.int IntKind.u32 0, Value.int IntKind.u32 0, Value.int IntKind.u16 0, Value.int IntKind.u16 0, Value.int IntKind.u32 0, Value.int IntKind.u32 0] 40) = w1 at *
      refine hid ?_
      refine wpList_store_row rfl 40 (.tmp 6) (.tmp 21) rfl w.heap.size #[Value.int IntKind.i64 0, Value.int IntKind.i64 0, Value.int IntKind.u16 0, Value.int IntKind.u16 0, Value.int IntKind.u32 0, Value.int IntKind.u32 0, Value.int IntKind.u32 0, Value.int IntKind.u32 0, Value.int IntKind.u32 0, Value.int IntKind.u16 0, Value.int IntKind.u16 0, Value.int IntKind.u32 0, Value.int IntKind.u32 0] rfl rfl 40 _ HR1.out (by kernel_rfl) rfl (by kernel_rfl) ?_
      rw [setRow_self w1 w.heap.size #[Value.int IntKind.i64 0, Value.int IntKind.i64 0, Value.int IntKind.u16 0, Value.int IntKind.u16 0, Value.int IntKind.u32 0, Value.int IntKind.u32 0, Value.int IntKind.u32 0, Value.int IntKind.u32 0, Value.int IntKind.u32 0, Value.int IntKind.u16 0, Value.int IntKind.u16 0, Value.int IntKind.u32 0, Value.int IntKind.u32 0] 40 (0, 0) HR1.out]
      go_wp2
      refine bodyPost_ret (v := .tuple #[.agg #[Value.int IntKind.i64 0, Value.int IntKind.i64 0, Value.int IntKind.u16 0, Value.int IntKind.u16 0, Value.int IntKind.u32 0, Value.int IntKind.u32 0, Value.int IntKind.u32 0, Value.int IntKind.u32 0, Value.int IntKind.u32 0, Value.int IntKind.u16 0, Value.int IntKind.u16 0, Value.int IntKind.u32 0, Value.int IntKind.u32 0], .int .i64 2]) ?_ rfl ⟨by rw [HCO.out]; rfl, HB1.out⟩
      exact results_cell_tmp (p := 6) (q := 7) rfl _ w1 w.heap.size 40 #[Value.int IntKind.i64 0, Value.int IntKind.i64 0, Value.int IntKind.u16 0, Value.int IntKind.u16 0, Value.int IntKind.u32 0, Value.int IntKind.u32 0, Value.int IntKind.u32 0, Value.int IntKind.u32 0, Value.int IntKind.u32 0, Value.int IntKind.u16 0, Value.int IntKind.u16 0, Value.int IntKind.u32 0, Value.int IntKind.u32 0] (0, 0) _ rfl HR1.out _ rfl Tryd.underlying40 rfl (by kernel_rfl)
    · have hz1 : 1099511627776 < now := by omega
      clear ha
      go_wp2_with (with_reducible refine hold_op (o := ⟨none, _, _, _, _, _⟩) ?_)
      generalize w.alloc (.cells #[Value.int IntKind.i64 0, Value.int IntKind.i64 0, Value.int IntKind.u16 0, Value.int IntKind.u16 0, Value.int IntKind.u32 0, Value.int IntKind.u32 0, Value.int IntKind.u32 0, Value.int IntKind.u32 0, Value.int IntKind.u32 0, Value.int IntKind.u16 0, Value.int IntKind.u16 0, Value.int IntKind.u32 0, Value.int IntKind.u32 0] 40) = w1 at *
      refine hid ?_
      refine wpList_store_row rfl 40 (.tmp 6) (.tmp 21) rfl w.heap.size #[Value.int IntKind.i64 0, Value.int IntKind.i64 0, Value.int IntKind.u16 0, Value.int IntKind.u16 0, Value.int IntKind.u32 0, Value.int IntKind.u32 0, Value.int IntKind.u32 0, Value.int IntKind.u32 0, Value.int IntKind.u32 0, Value.int IntKind.u16 0, Value.int IntKind.u16 0, Value.int IntKind.u32 0, Value.int IntKind.u32 0] rfl rfl 40 _ HR1.out (by kernel_rfl) rfl (by kernel_rfl) ?_
      rw [setRow_self w1 w.heap.size #[Value.int IntKind.i64 0, Value.int IntKind.i64 0, Value.int IntKind.u16 0, Value.int IntKind.u16 0, Value.int IntKind.u32 0, Value.int IntKind.u32 0, Value.int IntKind.u32 0, Value.int IntKind.u32 0, Value.int IntKind.u32 0, Value.int IntKind.u16 0, Value.int IntKind.u16 0, Value.int IntKind.u32 0, Value.int IntKind.u32 0] 40 (0, 0) HR1.out]
      go_wp2
      refine bodyPost_ret (v := .tuple #[.agg #[Value.int IntKind.i64 0, Value.int IntKind.i64 0, Value.int IntKind.u16 0, Value.int IntKind.u16 0, Value.int IntKind.u32 0, Value.int IntKind.u32 0, Value.int IntKind.u32 0, Value.int IntKind.u32 0, Value.int IntKind.u32 0, Value.int IntKind.u16 0, Value.int IntKind.u16 0, Value.int IntKind.u32 0, Value.int IntKind.u32 0], .int .i64 2]) ?_ rfl ⟨by rw [HCO.out]; rfl, HB1.out⟩
      exact results_cell_tmp (p := 6) (q := 7) rfl _ w1 w.heap.size 40 #[Value.int IntKind.i64 0, Value.int IntKind.i64 0, Value.int IntKind.u16 0, Value.int IntKind.u16 0, Value.int IntKind.u32 0, Value.int IntKind.u32 0, Value.int IntKind.u32 0, Value.int IntKind.u32 0, Value.int IntKind.u32 0, Value.int IntKind.u16 0, Value.int IntKind.u16 0, Value.int IntKind.u32 0, Value.int IntKind.u32 0] (0, 0) _ rfl HR1.out _ rfl Tryd.underlying40 rfl (by kernel_rfl)
  have HA := hid ha
  have hz0 : ¬ now < 0 := fun h => ha (.inl h)
  have hz1 : ¬ 1099511627776 < now := fun h => ha (.inr h)
  clear ha
  by_cases h84 : nb = 84
  rotate_left
  · have HCO : Box (rkOpen L bs now = (Ck.none, 4)) := ⟨by unfold rkOpen; rw [if_neg HA.out, if_pos (by rw [HNB.out]; exact h84)]⟩
    have h85 : ¬ (nb : Int) = 84 := by omega
    clear h84
    go_wp2_with (with_reducible refine hold_op (o := ⟨none, _, _, _, _, _⟩) ?_)
    generalize w.alloc (.cells #[Value.int IntKind.i64 0, Value.int IntKind.i64 0, Value.int IntKind.u16 0, Value.int IntKind.u16 0, Value.int IntKind.u32 0, Value.int IntKind.u32 0, Value.int IntKind.u32 0, Value.int IntKind.u32 0, Value.int IntKind.u32 0, Value.int IntKind.u16 0, Value.int IntKind.u16 0, Value.int IntKind.u32 0, Value.int IntKind.u32 0] 40) = w1 at *
    refine hid ?_
    refine wpList_store_row rfl 40 (.tmp 6) (.tmp 25) rfl w.heap.size #[Value.int IntKind.i64 0, Value.int IntKind.i64 0, Value.int IntKind.u16 0, Value.int IntKind.u16 0, Value.int IntKind.u32 0, Value.int IntKind.u32 0, Value.int IntKind.u32 0, Value.int IntKind.u32 0, Value.int IntKind.u32 0, Value.int IntKind.u16 0, Value.int IntKind.u16 0, Value.int IntKind.u32 0, Value.int IntKind.u32 0] rfl rfl 40 _ HR1.out (by kernel_rfl) rfl (by kernel_rfl) ?_
    rw [setRow_self w1 w.heap.size #[Value.int IntKind.i64 0, Value.int IntKind.i64 0, Value.int IntKind.u16 0, Value.int IntKind.u16 0, Value.int IntKind.u32 0, Value.int IntKind.u32 0, Value.int IntKind.u32 0, Value.int IntKind.u32 0, Value.int IntKind.u32 0, Value.int IntKind.u16 0, Value.int IntKind.u16 0, Value.int IntKind.u32 0, Value.int IntKind.u32 0] 40 (0, 0) HR1.out]
    go_wp2
    refine bodyPost_ret (v := .tuple #[.agg #[Value.int IntKind.i64 0, Value.int IntKind.i64 0, Value.int IntKind.u16 0, Value.int IntKind.u16 0, Value.int IntKind.u32 0, Value.int IntKind.u32 0, Value.int IntKind.u32 0, Value.int IntKind.u32 0, Value.int IntKind.u32 0, Value.int IntKind.u16 0, Value.int IntKind.u16 0, Value.int IntKind.u32 0, Value.int IntKind.u32 0], .int .i64 4]) ?_ rfl ⟨by rw [HCO.out]; rfl, HB1.out⟩
    exact results_cell_tmp (p := 6) (q := 7) rfl _ w1 w.heap.size 40 #[Value.int IntKind.i64 0, Value.int IntKind.i64 0, Value.int IntKind.u16 0, Value.int IntKind.u16 0, Value.int IntKind.u32 0, Value.int IntKind.u32 0, Value.int IntKind.u32 0, Value.int IntKind.u32 0, Value.int IntKind.u32 0, Value.int IntKind.u16 0, Value.int IntKind.u16 0, Value.int IntKind.u32 0, Value.int IntKind.u32 0] (0, 0) _ rfl HR1.out _ rfl Tryd.underlying40 rfl (by kernel_rfl)
  subst h84
  obtain ⟨gb, ob, rfl, hgb⟩ := HR.out.form 0 (by rw [HNB.out]; omega)
  obtain ⟨v, row, base, k1, k2, k3⟩ := HK.out.ex
  obtain ⟨A1, c1, rfl, hA1, hV1, hz2⟩ := k2.rd
  have hrl := Sls.len k3
  obtain ⟨m, hm⟩ : ∃ m, m = L.length := ⟨_, rfl⟩
  rw [← hm] at hrl
  have hmb : m ≤ 1000 := by rw [hm]; exact HL.out
  have HHM := hid hm
  rw [hrl] at k1
  have K1 := hid k1; have K3 := hid k3; have HV1 := hid hV1; have HZ2 := hid hz2; have HRL := hid hrl
  clear k1 k2 k3 hA1 hV1 hz2 hrl hm
  have h52 : (52 : Int) ≤ (cb : Int) := by omega
  have h53 : ¬ cb = 52 := by omega
  go_wp2_with fail
  generalize w.alloc (.cells #[Value.int IntKind.i64 0, Value.int IntKind.i64 0, Value.int IntKind.u16 0, Value.int IntKind.u16 0, Value.int IntKind.u32 0, Value.int IntKind.u32 0, Value.int IntKind.u32 0, Value.int IntKind.u32 0, Value.int IntKind.u32 0, Value.int IntKind.u16 0, Value.int IntKind.u16 0, Value.int IntKind.u32 0, Value.int IntKind.u32 0] 40) = w1 at *
  go_loopw [8, 9] (fun gd i w' => ∃ j : Nat, j ≤ m ∧ i = .int .i64 j ∧ gd = .bool (rkGood L (bs.take 52) (bs.drop 52) j) ∧ Below w1.heap.size w1 w') (fun _ i _ => m - (intOf i).toNat)
  case atStart => exact ⟨0, by omega, rfl, rfl, Below.refl _ _⟩
  case round =>
    obtain ⟨j, hj, rfl, rfl, hbl⟩ := hrel
    have HBL := hid hbl
    have x0 : wr.cell? ⟨g, 0, none⟩ = some (.slice A1 m c1) := (hbl.cell (p := ⟨g, 0, none⟩) (lt_of_block K1.out)).trans (cellOf K1.out rfl)
    clear hbl
    have hj0 : (0 : Int) ≤ (j : Int) := by omega
    by_cases hlt : j < m
    · have hj1 : (j : Int) < (m : Int) := by omega
      obtain ⟨u, hu, hsl⟩ := Sls.at_ K3.out j (by rw [← HHM.out]; exact hlt)
      obtain ⟨b1, o1, rfl, hb1, hcell⟩ := HV1.out.at_ j (by rw [HRL.out]; exact hlt)
      obtain rfl : o1 = 0 := (HZ2.out b1 o1 rfl).2
      rw [Nat.zero_add] at hcell
      have hcu : w1.cell? ⟨b1, j, none⟩ = some u := by
        rw [hcell]
        rw [List.getElem?_eq_getElem (by rw [HRL.out]; exact hlt)] at hu
        exact hu
      obtain ⟨Ax, cx, rfl, hRx, hAx, hBx, hlx⟩ := hsl
      have hxg : L[j]'(by rw [← HHM.out]; exact hlt) = L.getD j [] := by simp [List.getD_eq_getElem?_getD, HHM.out ▸ hlt]
      rw [hxg] at hRx hBx hlx hcu
      have HGS : Box (rkGood L (bs.take 52) (bs.drop 52) (j + 1) = (rkGood L (bs.take 52) (bs.drop 52) j || (decide (m ≤ j + 2) && decide (mac (L.getD j []) (bs.take 52) = bs.drop 52)))) := ⟨by rw [HHM.out]; rfl⟩
      generalize L.getD j [] = x at *
      obtain ⟨gd, hgd⟩ : ∃ gd, gd = rkGood L (bs.take 52) (bs.drop 52) j := ⟨_, rfl⟩
      rw [← hgd] at HGS ⊢
      clear hgd hxg hu
      have hcw := (HBL.out.cell (p := ⟨b1, j, none⟩) hb1).trans hcu
      have hglt : g < w1.heap.size := lt_of_block K1.out
      have kS : ∀ W, Below wr.heap.size wr W → W.cell? ⟨g, 0, none⟩ = some (.slice (some ⟨b1, 0, none⟩) m c1) ∧ W.cell? ⟨b1, j, none⟩ = some (.slice Ax x.length cx) := fun W hW =>
        ⟨(hW.cell (p := ⟨g, 0, none⟩) (Nat.lt_of_lt_of_le hglt HBL.out.size)).trans x0, (hW.cell (p := ⟨b1, j, none⟩) (Nat.lt_of_lt_of_le hb1 HBL.out.size)).trans hcw⟩
      have KS := hid kS
      have ht52 : (bs.take 52).length = 52 := by rw [List.length_take, HNB.out]; rfl
      have hd32 : (bs.drop 52).length = 32 := by rw [List.length_drop, HNB.out]
      have hbt : Bytes (bs.take 52) := bytes_take HBB.out 52
      have hbd : Bytes (bs.drop 52) := bytes_drop HBB.out 52
      have HRX := hid (hRx.below HBL.out); have HAX := hid hAx; have HBX := hid hBx; have HLX := hid hlx
      have HRP := hid ((HR.out.take 52).below HBL.out); have HRS := hid ((HR.out.drop 52).below HBL.out)
      have HMAC : Box (∀ W, Below wr.heap.size wr W → Calls Tryd.prog 18 #[.slice Ax x.length cx, .slice (some ⟨gb, ob, none⟩) 52 cb] W fun e w' => e = .returned (.agg (((mac x (bs.take 52)).map (Value.int .u8)).toArray)) ∧ Below W.heap.size W w') := ⟨fun W hW =>
        rmac_calls cx x.length cb 52 Ax (some ⟨gb, ob, none⟩) x (bs.take 52) rfl ht52 W (HRX.out.below hW) (HRP.out.below hW) HAX.out (fun h => by simp at h) HBX.out hbt (by have := HLX.out; omega) (by omega)⟩
      have hml := mac_len x (bs.take 52)
      have hmb2 := mac_bytes x (bs.take 52)
      generalize mac x (bs.take 52) = MS at *
      have hsd := str_decide hmb2 hbd
      have hcB : ∀ W, Below wr.heap.size wr W → Sem.run Tryd.prog (convert 22 9 (.slice (some ⟨gb, ob + 52, none⟩) 32 (cb - 52))) W = .ok (.string (strOfNums (bs.drop 52))) W := fun W hW =>
        conv_str (P := Tryd.prog) (w := W) (dst := 9) Tryd.underlying22 Tryd.underlying5 Tryd.underlying9 32 (cb - 52) hd32 (HRS.out.below hW)
      have HCB := hid hcB; have HSD := hid hsd; have HML := hid hml; have HMB := hid hmb2
      clear hcB hsd hml hmb2 ht52 hd32 hbt hbd hRx hAx hBx hlx hcell hcu hb1 kS hglt hgb
      go_wp2_with fail
      refine wp_region_held_drew (S := fun W => W.cell? ⟨g, 0, none⟩ = some (.slice (some ⟨b1, 0, none⟩) m c1) ∧ W.cell? ⟨b1, j, none⟩ = some (.slice Ax x.length cx)) (by kernel_rfl) ⟨x0, hcw⟩ (fun hHeld => ?_)
      clear x0 hcw
      refine wpAnyH_take (i := 0) (oi := { dst := some 35, op := Op.move (Operand.tmp 0), type := 57, pos := "ref.go:80", after := #[], guard := none }) (v := ?_) rfl (by kernel_rfl) (by kernel_rfl) (by kernel_rfl) (fun _ _ _ h => h) (Or.inl ⟨by rfl, ?_⟩) hHeld ?_
      rotate_left
      · (intro w hSw; (try dsimp only at hSw); go_simp; try with_reducible rfl)
      try simp only [Act.put, List.setIfInBounds_toArray, List.set_cons_succ, List.set_cons_zero]
      refine wpAnyH_take (i := 1) (oi := { dst := some 36, op := Op.nilCheck (Operand.tmp 35), type := 0, pos := "ref.go:80", after := #[{ on := 0, ground := Ground.data }], guard := none }) (v := ?_) rfl (by kernel_rfl) (by kernel_rfl) (by kernel_rfl) (fun _ _ _ h => h) (Or.inl ⟨by rfl, ?_⟩) hHeld ?_
      rotate_left
      · (intro w hSw; (try dsimp only at hSw); go_simp; try with_reducible rfl)
      try simp only [Act.put, List.setIfInBounds_toArray, List.set_cons_succ, List.set_cons_zero]
      refine wpAnyH_take (i := 2) (oi := { dst := some 37, op := Op.fieldAddr 86 (Operand.tmp 36) 0, type := 0, pos := "ref.go:80", after := #[{ on := 1, ground := Ground.data }], guard := none }) (v := ?_) rfl (by kernel_rfl) (by kernel_rfl) (by kernel_rfl) (fun _ _ _ h => h) (Or.inl ⟨by rfl, ?_⟩) hHeld ?_
      rotate_left
      · (intro w hSw; (try dsimp only at hSw); go_simp; try with_reducible rfl)
      try simp only [Act.put, List.setIfInBounds_toArray, List.set_cons_succ, List.set_cons_zero]
      refine wpAnyH_take (i := 3) (oi := { dst := some 38, op := Op.load 84 (Operand.tmp 37), type := 84, pos := "ref.go:80", after := #[{ on := 2, ground := Ground.data }], guard := none }) (v := ?_) rfl (by kernel_rfl) (by kernel_rfl) (by kernel_rfl) (fun _ _ _ h => h) (Or.inl ⟨by rfl, ?_⟩) hHeld ?_
      rotate_left
      · (intro w hSw; (try dsimp only at hSw); go_simp; try with_reducible rfl)
      try simp only [Act.put, List.setIfInBounds_toArray, List.set_cons_succ, List.set_cons_zero]
      refine wpAnyH_take (i := 4) (oi := { dst := some 39, op := Op.move (Operand.tmp 9), type := 3, pos := "ref.go:80", after := #[], guard := none }) (v := ?_) rfl (by kernel_rfl) (by kernel_rfl) (by kernel_rfl) (fun _ _ _ h => h) (Or.inl ⟨by rfl, ?_⟩) hHeld ?_
      rotate_left
      · (intro w hSw; (try dsimp only at hSw); go_simp; try with_reducible rfl)
      try simp only [Act.put, List.setIfInBounds_toArray, List.set_cons_succ, List.set_cons_zero]
      refine wpAnyH_take (i := 5) (oi := { dst := some 40, op := Op.indexAddr 84 (Operand.tmp 38) (Operand.tmp 39), type := 0, pos := "ref.go:80", after := #[{ on := 3, ground := Ground.data }, { on := 4, ground := Ground.data }], guard := none }) (v := ?_) rfl (by kernel_rfl) (by kernel_rfl) (by kernel_rfl) (fun _ _ _ h => h) (Or.inl ⟨by rfl, ?_⟩) hHeld ?_
      rotate_left
      · (intro w hSw; (try dsimp only at hSw); go_simp; try with_reducible rfl)
      try simp only [Act.put, List.setIfInBounds_toArray, List.set_cons_succ, List.set_cons_zero]
      refine wpAnyH_take (i := 6) (oi := { dst := some 41, op := Op.load 22 (Operand.tmp 40), type := 22, pos := "ref.go:80", after := #[{ on := 5, ground := Ground.data }], guard := none }) (v := ?_) rfl (by kernel_rfl) (by kernel_rfl) (by kernel_rfl) (fun _ _ _ h => h) (Or.inl ⟨by rfl, ?_⟩) hHeld ?_
      rotate_left
      · (intro w hSw; (try dsimp only at hSw); go_simp; try with_reducible rfl)
      try simp only [Act.put, List.setIfInBounds_toArray, List.set_cons_succ, List.set_cons_zero]
      refine wpAnyH_take (i := 7) (oi := { dst := some 42, op := Op.move (Operand.tmp 1), type := 22, pos := "ref.go:80", after := #[], guard := none }) (v := ?_) rfl (by kernel_rfl) (by kernel_rfl) (by kernel_rfl) (fun _ _ _ h => h) (Or.inl ⟨by rfl, ?_⟩) hHeld ?_
      rotate_left
      · (intro w hSw; (try dsimp only at hSw); go_simp; try with_reducible rfl)
      try simp only [Act.put, List.setIfInBounds_toArray, List.set_cons_succ, List.set_cons_zero]
      refine wpAnyH_take (i := 8) (oi := { dst := some 43, op := Op.slice 22 (Operand.tmp 42) none (some (Operand.const (Value.int IntKind.i64 52))) none, type := 22, pos := "ref.go:80", after := #[{ on := 7, ground := Ground.data }], guard := none }) (v := ?_) rfl (by kernel_rfl) (by kernel_rfl) (by kernel_rfl) (fun _ _ _ h => h) (Or.inl ⟨by rfl, ?_⟩) hHeld ?_
      rotate_left
      · (intro w hSw; (try dsimp only at hSw); go_simp; try with_reducible rfl)
      try simp only [Act.put, List.setIfInBounds_toArray, List.set_cons_succ, List.set_cons_zero]
      refine wpAnyH_ready (rs := [9, 10]) (by kernel_rfl) (by simp) ?_
      refine AllReadyH.cons (o := { dst := some 44, op := Op.call { callee := Callee.value (Operand.func 18), args := #[Operand.tmp 41, Operand.tmp 43], argTypes := #[22, 22] }, type := 24, pos := "ref.go:80", after := #[{ on := 6, ground := Ground.data }, { on := 8, ground := Ground.data }], guard := none }) rfl (fun K hK => ?_) (AllReadyH.cons (o := { dst := some 10, op := Op.alloc 24, type := 0, pos := "ref.go:80", after := #[], guard := none }) rfl (fun K hK => ?_) AllReadyH.nil)
      · go_simp
        go_at_call 18
        refine Calls.mono (HMAC.out wr.drew (Below.refl _ _).drew) ?_
        rintro e w3 ⟨rfl, hb⟩
        have hb3 : Below wr.heap.size wr w3 := below_then (Below.refl _ _).drew hb
        refine hK.out _ _ (KS.out _ hb3) (fun hHeld => ?_)
        try simp only [Act.put, List.setIfInBounds_toArray, List.set_cons_succ, List.set_cons_zero]
        refine wpAnyH_ready (rs := [10]) (by kernel_rfl) (by simp) ?_
        refine AllReadyH.cons (o := { dst := some 10, op := Op.alloc 24, type := 0, pos := "ref.go:80", after := #[], guard := none }) rfl (fun K hK => ?_) AllReadyH.nil
        go_simp
        have hO1 : (w3.alloc (.cells #[Value.int IntKind.u8 0, Value.int IntKind.u8 0, Value.int IntKind.u8 0, Value.int IntKind.u8 0, Value.int IntKind.u8 0, Value.int IntKind.u8 0, Value.int IntKind.u8 0, Value.int IntKind.u8 0, Value.int IntKind.u8 0, Value.int IntKind.u8 0, Value.int IntKind.u8 0, Value.int IntKind.u8 0, Value.int IntKind.u8 0, Value.int IntKind.u8 0, Value.int IntKind.u8 0, Value.int IntKind.u8 0, Value.int IntKind.u8 0, Value.int IntKind.u8 0, Value.int IntKind.u8 0, Value.int IntKind.u8 0, Value.int IntKind.u8 0, Value.int IntKind.u8 0, Value.int IntKind.u8 0, Value.int IntKind.u8 0, Value.int IntKind.u8 0, Value.int IntKind.u8 0, Value.int IntKind.u8 0, Value.int IntKind.u8 0, Value.int IntKind.u8 0, Value.int IntKind.u8 0, Value.int IntKind.u8 0, Value.int IntKind.u8 0] 24)).heap[w3.heap.size]? = some (.cells #[Value.int IntKind.u8 0, Value.int IntKind.u8 0, Value.int IntKind.u8 0, Value.int IntKind.u8 0, Value.int IntKind.u8 0, Value.int IntKind.u8 0, Value.int IntKind.u8 0, Value.int IntKind.u8 0, Value.int IntKind.u8 0, Value.int IntKind.u8 0, Value.int IntKind.u8 0, Value.int IntKind.u8 0, Value.int IntKind.u8 0, Value.int IntKind.u8 0, Value.int IntKind.u8 0, Value.int IntKind.u8 0, Value.int IntKind.u8 0, Value.int IntKind.u8 0, Value.int IntKind.u8 0, Value.int IntKind.u8 0, Value.int IntKind.u8 0, Value.int IntKind.u8 0, Value.int IntKind.u8 0, Value.int IntKind.u8 0, Value.int IntKind.u8 0, Value.int IntKind.u8 0, Value.int IntKind.u8 0, Value.int IntKind.u8 0, Value.int IntKind.u8 0, Value.int IntKind.u8 0, Value.int IntKind.u8 0, Value.int IntKind.u8 0] 24 (0, 0)) := heap_alloc_new _ _
        have hP1 : Below w3.heap.size w3 (w3.alloc (.cells #[Value.int IntKind.u8 0, Value.int IntKind.u8 0, Value.int IntKind.u8 0, Value.int IntKind.u8 0, Value.int IntKind.u8 0, Value.int IntKind.u8 0, Value.int IntKind.u8 0, Value.int IntKind.u8 0, Value.int IntKind.u8 0, Value.int IntKind.u8 0, Value.int IntKind.u8 0, Value.int IntKind.u8 0, Value.int IntKind.u8 0, Value.int IntKind.u8 0, Value.int IntKind.u8 0, Value.int IntKind.u8 0, Value.int IntKind.u8 0, Value.int IntKind.u8 0, Value.int IntKind.u8 0, Value.int IntKind.u8 0, Value.int IntKind.u8 0, Value.int IntKind.u8 0, Value.int IntKind.u8 0, Value.int IntKind.u8 0, Value.int IntKind.u8 0, Value.int IntKind.u8 0, Value.int IntKind.u8 0, Value.int IntKind.u8 0, Value.int IntKind.u8 0, Value.int IntKind.u8 0, Value.int IntKind.u8 0, Value.int IntKind.u8 0] 24)) := (Below.refl _ _).alloc (Nat.le_refl _) _
        generalize w3.alloc (.cells #[Value.int IntKind.u8 0, Value.int IntKind.u8 0, Value.int IntKind.u8 0, Value.int IntKind.u8 0, Value.int IntKind.u8 0, Value.int IntKind.u8 0, Value.int IntKind.u8 0, Value.int IntKind.u8 0, Value.int IntKind.u8 0, Value.int IntKind.u8 0, Value.int IntKind.u8 0, Value.int IntKind.u8 0, Value.int IntKind.u8 0, Value.int IntKind.u8 0, Value.int IntKind.u8 0, Value.int IntKind.u8 0, Value.int IntKind.u8 0, Value.int IntKind.u8 0, Value.int IntKind.u8 0, Value.int IntKind.u8 0, Value.int IntKind.u8 0, Value.int IntKind.u8 0, Value.int IntKind.u8 0, Value.int IntKind.u8 0, Value.int IntKind.u8 0, Value.int IntKind.u8 0, Value.int IntKind.u8 0, Value.int IntKind.u8 0, Value.int IntKind.u8 0, Value.int IntKind.u8 0, Value.int IntKind.u8 0, Value.int IntKind.u8 0] 24) = w4 at *
        refine hK.out _ _ (KS.out _ (below_then hb3 hP1)) (fun hHeld => ?_)
        try simp only [Act.put, List.setIfInBounds_toArray, List.set_cons_succ, List.set_cons_zero]
        refine wpAnyH_ready (rs := [11]) (by kernel_rfl) (by simp) ?_
        refine AllReadyH.cons (o := { dst := none, op := Op.store 24 (Operand.tmp 10) (Operand.tmp 44), type := 0, pos := "ref.go:80", after := #[{ on := 10, ground := Ground.data }, { on := 9, ground := Ground.data }, { on := 9, ground := Ground.chain }, { on := 0, ground := Ground.phase }, { on := 1, ground := Ground.phase }, { on := 2, ground := Ground.phase }, { on := 3, ground := Ground.phase }, { on := 4, ground := Ground.phase }, { on := 5, ground := Ground.phase }, { on := 6, ground := Ground.phase }, { on := 7, ground := Ground.phase }, { on := 8, ground := Ground.phase }, { on := 9, ground := Ground.phase }, { on := 10, ground := Ground.phase }], guard := none }) rfl (fun K hK => ?_) AllReadyH.nil
        rw [if_pos (by rfl)]
        refine wp_store_row 24 (.tmp 10) (.tmp 44) rfl w3.heap.size _ rfl rfl 24 _ hO1 (by rw [List.size_toArray, List.length_map, HML.out]; kernel_rfl) (by show 32 = (MS.map (Value.int .u8)).length; rw [List.length_map, HML.out]) (map_one _) ?_
        have HSR := hid (setRow_heap w4 w3.heap.size _ ((MS.map (Value.int .u8)).toArray) 24 _ hO1)
        have HBW := hid (below_then hb3 (below_setRow hP1 (Nat.le_refl _) ((MS.map (Value.int .u8)).toArray)))
        clear hO1 hP1 hb hb3
        generalize w4.setRow w3.heap.size ((MS.map (Value.int .u8)).toArray) = w5 at *
        refine hK.out _ _ (KS.out _ HBW.out) (fun hHeld => ?_)
        try simp only [Act.put, List.setIfInBounds_toArray, List.set_cons_succ, List.set_cons_zero]
        refine wpAnyH_done (by kernel_rfl) ?_ _
        have HRM := hid (Rd.row HSR.out (by rw [HML.out]; omega))
        clear hK K HSR
        generalize w3.heap.size = bz at *
        have x0 := (KS.out _ HBW.out).1
        have hcA : ∀ W, Below w5.heap.size w5 W → Sem.run Tryd.prog (convert 22 9 (.slice (some ⟨bz, 0, none⟩) 32 32)) W = .ok (.string (strOfNums MS)) W := fun W hW =>
          conv_str (P := Tryd.prog) (w := W) (dst := 9) Tryd.underlying22 Tryd.underlying5 Tryd.underlying9 32 32 HML.out (HRM.out.below hW)
        have hcB : ∀ W, Below w5.heap.size w5 W → Sem.run Tryd.prog (convert 22 9 (.slice (some ⟨gb, ob + 52, none⟩) 32 (cb - 52))) W = .ok (.string (strOfNums (bs.drop 52))) W := fun W hW => HCB.out W (below_then HBW.out hW)
        have hsd := HSD.out
        have HKG := hid (show ∀ W, Below w5.heap.size w5 W → W.cell? ⟨g, 0, none⟩ = some (.slice (some ⟨b1, 0, none⟩) m c1) from fun W hW => (KS.out _ (below_then HBW.out hW)).1)
        have HBF := hid (below_then HBL.out HBW.out)
        have HGS2 := HGS.out
        generalize strOfNums MS = s1 at *
        generalize strOfNums (bs.drop 52) = s2 at *
        have hdm : decide (MS = bs.drop 52) = (s1.toList == s2.toList) := hsd.symm
        rw [hdm] at HGS2
        clear hsd hdm HSD HCB HMAC KS HBW HRM HML HMB HRX HRP HRS
        have hwr : IntKind.i64.wrap ((m : Int) - (j : Int)) = (m : Int) - (j : Int) := IntWalk.i64_in _ (by omega)
        cases gd with
        | true =>
          have HGT : Box (rkGood L (bs.take 52) (bs.drop 52) (j + 1) = true) := ⟨by rw [HGS2]; rfl⟩
          clear HGS HGS2
          go_wp2_with fail
          refine wp_region_held_drew (S := fun W => Below w5.heap.size w5 W) (by kernel_rfl) ((Below.refl _ _).drew) (fun hHeld => ?_)
          clear x0
          refine wpAnyH_take (i := 0) (oi := { dst := some 45, op := Op.move (Operand.tmp 8), type := 4, pos := "ref.go:81", after := #[], guard := none }) (v := ?_) rfl (by kernel_rfl) (by kernel_rfl) (by kernel_rfl) (fun _ _ _ h => h) (Or.inl ⟨by rfl, ?_⟩) hHeld ?_
          rotate_left
          · (intro w hSw; (try dsimp only at hSw); go_simp; try with_reducible rfl)
          try simp only [Act.put, List.setIfInBounds_toArray, List.set_cons_succ, List.set_cons_zero]
          refine wpAnyH_take (i := 1) (oi := { dst := some 46, op := Op.move (Operand.tmp 45), type := 4, pos := "ref.go:81", after := #[{ on := 0, ground := Ground.data }], guard := none }) (v := ?_) rfl (by kernel_rfl) (by kernel_rfl) (by kernel_rfl) (fun _ _ _ h => h) (Or.inl ⟨by rfl, ?_⟩) hHeld ?_
          rotate_left
          · (intro w hSw; (try dsimp only at hSw); go_simp; try with_reducible rfl)
          try simp only [Act.put, List.setIfInBounds_toArray, List.set_cons_succ, List.set_cons_zero]
          refine wpAnyH_take (i := 2) (oi := { dst := some 47, op := Op.move (Operand.tmp 0), type := 57, pos := "ref.go:81", after := #[{ on := 1, ground := Ground.guard }], guard := some (1, false) }) (v := undef) rfl (by kernel_rfl) (by kernel_rfl) (by kernel_rfl) (fun _ _ _ h => h) (Or.inr ⟨by rfl, rfl⟩) hHeld ?_
          try simp only [Act.put, List.setIfInBounds_toArray, List.set_cons_succ, List.set_cons_zero]
          refine wpAnyH_take (i := 3) (oi := { dst := some 48, op := Op.nilCheck (Operand.tmp 47), type := 0, pos := "ref.go:81", after := #[{ on := 2, ground := Ground.data }, { on := 1, ground := Ground.guard }], guard := some (1, false) }) (v := undef) rfl (by kernel_rfl) (by kernel_rfl) (by kernel_rfl) (fun _ _ _ h => h) (Or.inr ⟨by rfl, rfl⟩) hHeld ?_
          try simp only [Act.put, List.setIfInBounds_toArray, List.set_cons_succ, List.set_cons_zero]
          refine wpAnyH_take (i := 4) (oi := { dst := some 49, op := Op.fieldAddr 86 (Operand.tmp 48) 0, type := 0, pos := "ref.go:81", after := #[{ on := 3, ground := Ground.data }, { on := 1, ground := Ground.guard }], guard := some (1, false) }) (v := undef) rfl (by kernel_rfl) (by kernel_rfl) (by kernel_rfl) (fun _ _ _ h => h) (Or.inr ⟨by rfl, rfl⟩) hHeld ?_
          try simp only [Act.put, List.setIfInBounds_toArray, List.set_cons_succ, List.set_cons_zero]
          refine wpAnyH_take (i := 5) (oi := { dst := some 50, op := Op.load 84 (Operand.tmp 49), type := 84, pos := "ref.go:81", after := #[{ on := 4, ground := Ground.data }, { on := 1, ground := Ground.guard }], guard := some (1, false) }) (v := undef) rfl (by kernel_rfl) (by kernel_rfl) (by kernel_rfl) (fun _ _ _ h => h) (Or.inr ⟨by rfl, rfl⟩) hHeld ?_
          try simp only [Act.put, List.setIfInBounds_toArray, List.set_cons_succ, List.set_cons_zero]
          refine wpAnyH_take (i := 6) (oi := { dst := some 51, op := Op.call { callee := Callee.builtin Builtin.len, args := #[Operand.tmp 50], argTypes := #[84] }, type := 3, pos := "ref.go:81", after := #[{ on := 5, ground := Ground.data }, { on := 1, ground := Ground.guard }], guard := some (1, false) }) (v := undef) rfl (by kernel_rfl) (by kernel_rfl) (by kernel_rfl) (fun _ _ _ h => h) (Or.inr ⟨by rfl, rfl⟩) hHeld ?_
          try simp only [Act.put, List.setIfInBounds_toArray, List.set_cons_succ, List.set_cons_zero]
          refine wpAnyH_take (i := 7) (oi := { dst := some 52, op := Op.move (Operand.tmp 9), type := 3, pos := "ref.go:81", after := #[{ on := 1, ground := Ground.guard }], guard := some (1, false) }) (v := undef) rfl (by kernel_rfl) (by kernel_rfl) (by kernel_rfl) (fun _ _ _ h => h) (Or.inr ⟨by rfl, rfl⟩) hHeld ?_
          try simp only [Act.put, List.setIfInBounds_toArray, List.set_cons_succ, List.set_cons_zero]
          refine wpAnyH_take (i := 8) (oi := { dst := some 53, op := Op.binOp BinOp.sub 3 (Operand.tmp 51) (Operand.tmp 52) 3, type := 3, pos := "ref.go:81", after := #[{ on := 6, ground := Ground.data }, { on := 7, ground := Ground.data }, { on := 1, ground := Ground.guard }], guard := some (1, false) }) (v := undef) rfl (by kernel_rfl) (by kernel_rfl) (by kernel_rfl) (fun _ _ _ h => h) (Or.inr ⟨by rfl, rfl⟩) hHeld ?_
          try simp only [Act.put, List.setIfInBounds_toArray, List.set_cons_succ, List.set_cons_zero]
          refine wpAnyH_take (i := 9) (oi := { dst := some 54, op := Op.binOp BinOp.leq 3 (Operand.tmp 53) (Operand.const (Value.int IntKind.i64 2)) 3, type := 4, pos := "ref.go:81", after := #[{ on := 8, ground := Ground.data }, { on := 1, ground := Ground.guard }], guard := some (1, false) }) (v := undef) rfl (by kernel_rfl) (by kernel_rfl) (by kernel_rfl) (fun _ _ _ h => h) (Or.inr ⟨by rfl, rfl⟩) hHeld ?_
          try simp only [Act.put, List.setIfInBounds_toArray, List.set_cons_succ, List.set_cons_zero]
          refine wpAnyH_take (i := 10) (oi := { dst := some 55, op := Op.move (Operand.tmp 54), type := 4, pos := "ref.go:81", after := #[{ on := 9, ground := Ground.data }, { on := 1, ground := Ground.chain }, { on := 1, ground := Ground.guard }], guard := some (1, false) }) (v := undef) rfl (by kernel_rfl) (by kernel_rfl) (by kernel_rfl) (fun _ _ _ h => h) (Or.inr ⟨by rfl, rfl⟩) hHeld ?_
          try simp only [Act.put, List.setIfInBounds_toArray, List.set_cons_succ, List.set_cons_zero]
          refine wpAnyH_take (i := 11) (oi := { dst := some 56, op := Op.slice 24 (Operand.tmp 10) none none none, type := 22, pos := "ref.go:81", after := #[{ on := 10, ground := Ground.guard }], guard := some (10, true) }) (v := undef) rfl (by kernel_rfl) (by kernel_rfl) (by kernel_rfl) (fun _ _ _ h => h) (Or.inr ⟨by rfl, rfl⟩) hHeld ?_
          try simp only [Act.put, List.setIfInBounds_toArray, List.set_cons_succ, List.set_cons_zero]
          refine wpAnyH_take (i := 12) (oi := { dst := some 57, op := Op.convert 22 9 (Operand.tmp 56), type := 9, pos := "ref.go:81", after := #[{ on := 11, ground := Ground.data }, { on := 10, ground := Ground.guard }], guard := some (10, true) }) (v := undef) rfl (by kernel_rfl) (by kernel_rfl) (by kernel_rfl) (fun _ _ _ h => h) (Or.inr ⟨by rfl, rfl⟩) hHeld ?_
          try simp only [Act.put, List.setIfInBounds_toArray, List.set_cons_succ, List.set_cons_zero]
          refine wpAnyH_take (i := 13) (oi := { dst := some 58, op := Op.move (Operand.tmp 1), type := 22, pos := "ref.go:81", after := #[{ on := 10, ground := Ground.guard }], guard := some (10, true) }) (v := undef) rfl (by kernel_rfl) (by kernel_rfl) (by kernel_rfl) (fun _ _ _ h => h) (Or.inr ⟨by rfl, rfl⟩) hHeld ?_
          try simp only [Act.put, List.setIfInBounds_toArray, List.set_cons_succ, List.set_cons_zero]
          refine wpAnyH_take (i := 14) (oi := { dst := some 59, op := Op.slice 22 (Operand.tmp 58) (some (Operand.const (Value.int IntKind.i64 52))) none none, type := 22, pos := "ref.go:81", after := #[{ on := 13, ground := Ground.data }, { on := 10, ground := Ground.guard }], guard := some (10, true) }) (v := undef) rfl (by kernel_rfl) (by kernel_rfl) (by kernel_rfl) (fun _ _ _ h => h) (Or.inr ⟨by rfl, rfl⟩) hHeld ?_
          try simp only [Act.put, List.setIfInBounds_toArray, List.set_cons_succ, List.set_cons_zero]
          refine wpAnyH_take (i := 15) (oi := { dst := some 60, op := Op.convert 22 9 (Operand.tmp 59), type := 9, pos := "ref.go:81", after := #[{ on := 14, ground := Ground.data }, { on := 10, ground := Ground.guard }], guard := some (10, true) }) (v := undef) rfl (by kernel_rfl) (by kernel_rfl) (by kernel_rfl) (fun _ _ _ h => h) (Or.inr ⟨by rfl, rfl⟩) hHeld ?_
          try simp only [Act.put, List.setIfInBounds_toArray, List.set_cons_succ, List.set_cons_zero]
          refine wpAnyH_take (i := 16) (oi := { dst := some 61, op := Op.binOp BinOp.eql 9 (Operand.tmp 57) (Operand.tmp 60) 9, type := 4, pos := "ref.go:81", after := #[{ on := 12, ground := Ground.data }, { on := 15, ground := Ground.data }, { on := 10, ground := Ground.guard }], guard := some (10, true) }) (v := undef) rfl (by kernel_rfl) (by kernel_rfl) (by kernel_rfl) (fun _ _ _ h => h) (Or.inr ⟨by rfl, rfl⟩) hHeld ?_
          try simp only [Act.put, List.setIfInBounds_toArray, List.set_cons_succ, List.set_cons_zero]
          refine wpAnyH_take (i := 17) (oi := { dst := some 62, op := Op.pick (Operand.tmp 55) (Operand.tmp 61) (Operand.const (Value.bool false)), type := 4, pos := "ref.go:81", after := #[{ on := 10, ground := Ground.data }, { on := 16, ground := Ground.data }, { on := 1, ground := Ground.guard }], guard := some (1, false) }) (v := undef) rfl (by kernel_rfl) (by kernel_rfl) (by kernel_rfl) (fun _ _ _ h => h) (Or.inr ⟨by rfl, rfl⟩) hHeld ?_
          try simp only [Act.put, List.setIfInBounds_toArray, List.set_cons_succ, List.set_cons_zero]
          refine wpAnyH_take (i := 18) (oi := { dst := some 63, op := Op.pick (Operand.tmp 46) (Operand.const (Value.bool true)) (Operand.tmp 62), type := 4, pos := "ref.go:81", after := #[{ on := 1, ground := Ground.data }, { on := 17, ground := Ground.data }], guard := none }) (v := ?_) rfl (by kernel_rfl) (by kernel_rfl) (by kernel_rfl) (fun _ _ _ h => h) (Or.inl ⟨by rfl, ?_⟩) hHeld ?_
          rotate_left
          · (intro w hSw; (try dsimp only at hSw); go_simp; try with_reducible rfl)
          try simp only [Act.put, List.setIfInBounds_toArray, List.set_cons_succ, List.set_cons_zero]
          refine wpAnyH_ready (rs := [19]) (by kernel_rfl) (by simp) ?_
          refine AllReadyH.cons (o := _) rfl (fun K hK => ?_) AllReadyH.nil
          go_simp
          refine hK.out _ _ (Below.refl _ _).drew (fun hHeld => ?_)
          clear hK K
          try simp only [Act.put, List.setIfInBounds_toArray, List.set_cons_succ, List.set_cons_zero]
          refine wpAnyH_done (by kernel_rfl) ?_ _
          go_wp2
          go_roundw
          case rel => exact ⟨j + 1, by omega, by go_num, by rw [HGT.out], HBF.out.drew⟩
          case measure => simp [intOf]; omega
        | false =>
          by_cases hnear : m ≤ j + 2
          · have hn2 : decide ((m : Int) - (j : Int) ≤ 2) = true := decide_eq_true (by omega)
            have hn3 : (m : Int) - (j : Int) ≤ 2 := by omega
            have HGT : Box (rkGood L (bs.take 52) (bs.drop 52) (j + 1) = (s1.toList == s2.toList)) := ⟨by rw [HGS2, decide_eq_true hnear]; simp⟩
            clear HGS HGS2 hnear
            go_wp2_with fail
            refine wp_region_held_drew (S := fun W => Below w5.heap.size w5 W ∧ W.cell? ⟨g, 0, none⟩ = some (.slice (some ⟨b1, 0, none⟩) m c1)) (by kernel_rfl) ⟨(Below.refl _ _).drew, x0⟩ (fun hHeld => ?_)
            clear x0
            refine wpAnyH_take (i := 0) (oi := { dst := some 45, op := Op.move (Operand.tmp 8), type := 4, pos := "ref.go:81", after := #[], guard := none }) (v := ?_) rfl (by kernel_rfl) (by kernel_rfl) (by kernel_rfl) (fun _ _ _ h => h) (Or.inl ⟨by rfl, ?_⟩) hHeld ?_
            rotate_left
            · (intro w hSw; (try dsimp only at hSw); go_simp; try with_reducible rfl)
            try simp only [Act.put, List.setIfInBounds_toArray, List.set_cons_succ, List.set_cons_zero]
            refine wpAnyH_take (i := 1) (oi := { dst := some 46, op := Op.move (Operand.tmp 45), type := 4, pos := "ref.go:81", after := #[{ on := 0, ground := Ground.data }], guard := none }) (v := ?_) rfl (by kernel_rfl) (by kernel_rfl) (by kernel_rfl) (fun _ _ _ h => h) (Or.inl ⟨by rfl, ?_⟩) hHeld ?_
            rotate_left
            · (intro w hSw; (try dsimp only at hSw); go_simp; try with_reducible rfl)
            try simp only [Act.put, List.setIfInBounds_toArray, List.set_cons_succ, List.set_cons_zero]
            refine wpAnyH_take (i := 2) (oi := { dst := some 47, op := Op.move (Operand.tmp 0), type := 57, pos := "ref.go:81", after := #[{ on := 1, ground := Ground.guard }], guard := some (1, false) }) (v := ?_) rfl (by kernel_rfl) (by kernel_rfl) (by kernel_rfl) (fun _ _ _ h => h) (Or.inl ⟨by rfl, ?_⟩) hHeld ?_
            rotate_left
            · (intro w hSw; (try dsimp only at hSw); go_simp; try with_reducible rfl)
            try simp only [Act.put, List.setIfInBounds_toArray, List.set_cons_succ, List.set_cons_zero]
            refine wpAnyH_take (i := 3) (oi := { dst := some 48, op := Op.nilCheck (Operand.tmp 47), type := 0, pos := "ref.go:81", after := #[{ on := 2, ground := Ground.data }, { on := 1, ground := Ground.guard }], guard := some (1, false) }) (v := ?_) rfl (by kernel_rfl) (by kernel_rfl) (by kernel_rfl) (fun _ _ _ h => h) (Or.inl ⟨by rfl, ?_⟩) hHeld ?_
            rotate_left
            · (intro w hSw; (try dsimp only at hSw); go_simp; try with_reducible rfl)
            try simp only [Act.put, List.setIfInBounds_toArray, List.set_cons_succ, List.set_cons_zero]
            refine wpAnyH_take (i := 4) (oi := { dst := some 49, op := Op.fieldAddr 86 (Operand.tmp 48) 0, type := 0, pos := "ref.go:81", after := #[{ on := 3, ground := Ground.data }, { on := 1, ground := Ground.guard }], guard := some (1, false) }) (v := ?_) rfl (by kernel_rfl) (by kernel_rfl) (by kernel_rfl) (fun _ _ _ h => h) (Or.inl ⟨by rfl, ?_⟩) hHeld ?_
            rotate_left
            · (intro w hSw; (try dsimp only at hSw); go_simp; try with_reducible rfl)
            try simp only [Act.put, List.setIfInBounds_toArray, List.set_cons_succ, List.set_cons_zero]
            refine wpAnyH_take (i := 5) (oi := { dst := some 50, op := Op.load 84 (Operand.tmp 49), type := 84, pos := "ref.go:81", after := #[{ on := 4, ground := Ground.data }, { on := 1, ground := Ground.guard }], guard := some (1, false) }) (v := ?_) rfl (by kernel_rfl) (by kernel_rfl) (by kernel_rfl) (fun _ _ _ h => h) (Or.inl ⟨by rfl, ?_⟩) hHeld ?_
            rotate_left
            · (intro w hSw; (try dsimp only at hSw); go_simp; try with_reducible rfl)
            try simp only [Act.put, List.setIfInBounds_toArray, List.set_cons_succ, List.set_cons_zero]
            refine wpAnyH_take (i := 6) (oi := { dst := some 51, op := Op.call { callee := Callee.builtin Builtin.len, args := #[Operand.tmp 50], argTypes := #[84] }, type := 3, pos := "ref.go:81", after := #[{ on := 5, ground := Ground.data }, { on := 1, ground := Ground.guard }], guard := some (1, false) }) (v := ?_) rfl (by kernel_rfl) (by kernel_rfl) (by kernel_rfl) (fun _ _ _ h => h) (Or.inl ⟨by rfl, ?_⟩) hHeld ?_
            rotate_left
            · (intro w hSw; (try dsimp only at hSw); go_simp; try with_reducible rfl)
            try simp only [Act.put, List.setIfInBounds_toArray, List.set_cons_succ, List.set_cons_zero]
            refine wpAnyH_take (i := 7) (oi := { dst := some 52, op := Op.move (Operand.tmp 9), type := 3, pos := "ref.go:81", after := #[{ on := 1, ground := Ground.guard }], guard := some (1, false) }) (v := ?_) rfl (by kernel_rfl) (by kernel_rfl) (by kernel_rfl) (fun _ _ _ h => h) (Or.inl ⟨by rfl, ?_⟩) hHeld ?_
            rotate_left
            · (intro w hSw; (try dsimp only at hSw); go_simp; try with_reducible rfl)
            try simp only [Act.put, List.setIfInBounds_toArray, List.set_cons_succ, List.set_cons_zero]
            refine wpAnyH_take (i := 8) (oi := { dst := some 53, op := Op.binOp BinOp.sub 3 (Operand.tmp 51) (Operand.tmp 52) 3, type := 3, pos := "ref.go:81", after := #[{ on := 6, ground := Ground.data }, { on := 7, ground := Ground.data }, { on := 1, ground := Ground.guard }], guard := some (1, false) }) (v := ?_) rfl (by kernel_rfl) (by kernel_rfl) (by kernel_rfl) (fun _ _ _ h => h) (Or.inl ⟨by rfl, ?_⟩) hHeld ?_
            rotate_left
            · (intro w hSw; (try dsimp only at hSw); go_simp; try with_reducible rfl)
            try simp only [Act.put, List.setIfInBounds_toArray, List.set_cons_succ, List.set_cons_zero]
            refine wpAnyH_take (i := 9) (oi := { dst := some 54, op := Op.binOp BinOp.leq 3 (Operand.tmp 53) (Operand.const (Value.int IntKind.i64 2)) 3, type := 4, pos := "ref.go:81", after := #[{ on := 8, ground := Ground.data }, { on := 1, ground := Ground.guard }], guard := some (1, false) }) (v := ?_) rfl (by kernel_rfl) (by kernel_rfl) (by kernel_rfl) (fun _ _ _ h => h) (Or.inl ⟨by rfl, ?_⟩) hHeld ?_
            rotate_left
            · (intro w hSw; (try dsimp only at hSw); go_simp; try with_reducible rfl)
            try simp only [Act.put, List.setIfInBounds_toArray, List.set_cons_succ, List.set_cons_zero]
            refine wpAnyH_take (i := 10) (oi := { dst := some 55, op := Op.move (Operand.tmp 54), type := 4, pos := "ref.go:81", after := #[{ on := 9, ground := Ground.data }, { on := 1, ground := Ground.chain }, { on := 1, ground := Ground.guard }], guard := some (1, false) }) (v := ?_) rfl (by kernel_rfl) (by kernel_rfl) (by kernel_rfl) (fun _ _ _ h => h) (Or.inl ⟨by rfl, ?_⟩) hHeld ?_
            rotate_left
            · (intro w hSw; (try dsimp only at hSw); go_simp; try with_reducible rfl)
            try simp only [Act.put, List.setIfInBounds_toArray, List.set_cons_succ, List.set_cons_zero]
            refine wpAnyH_take (i := 11) (oi := { dst := some 56, op := Op.slice 24 (Operand.tmp 10) none none none, type := 22, pos := "ref.go:81", after := #[{ on := 10, ground := Ground.guard }], guard := some (10, true) }) (v := ?_) rfl (by kernel_rfl) (by kernel_rfl) (by kernel_rfl) (fun _ _ _ h => h) (Or.inl ⟨by rfl, ?_⟩) hHeld ?_
            rotate_left
            · (intro w hSw; (try dsimp only at hSw); go_simp; try with_reducible rfl)
            try simp only [Act.put, List.setIfInBounds_toArray, List.set_cons_succ, List.set_cons_zero]
            refine wpAnyH_take (i := 12) (oi := { dst := some 57, op := Op.convert 22 9 (Operand.tmp 56), type := 9, pos := "ref.go:81", after := #[{ on := 11, ground := Ground.data }, { on := 10, ground := Ground.guard }], guard := some (10, true) }) (v := ?_) rfl (by kernel_rfl) (by kernel_rfl) (by kernel_rfl) (fun _ _ _ h => h) (Or.inl ⟨by rfl, ?_⟩) hHeld ?_
            rotate_left
            · (intro w hSw; (try dsimp only at hSw); go_simp; try with_reducible rfl)
            try simp only [Act.put, List.setIfInBounds_toArray, List.set_cons_succ, List.set_cons_zero]
            refine wpAnyH_take (i := 13) (oi := { dst := some 58, op := Op.move (Operand.tmp 1), type := 22, pos := "ref.go:81", after := #[{ on := 10, ground := Ground.guard }], guard := some (10, true) }) (v := ?_) rfl (by kernel_rfl) (by kernel_rfl) (by kernel_rfl) (fun _ _ _ h => h) (Or.inl ⟨by rfl, ?_⟩) hHeld ?_
            rotate_left
            · (intro w hSw; (try dsimp only at hSw); go_simp; try with_reducible rfl)
            try simp only [Act.put, List.setIfInBounds_toArray, List.set_cons_succ, List.set_cons_zero]
            refine wpAnyH_take (i := 14) (oi := { dst := some 59, op := Op.slice 22 (Operand.tmp 58) (some (Operand.const (Value.int IntKind.i64 52))) none none, type := 22, pos := "ref.go:81", after := #[{ on := 13, ground := Ground.data }, { on := 10, ground := Ground.guard }], guard := some (10, true) }) (v := ?_) rfl (by kernel_rfl) (by kernel_rfl) (by kernel_rfl) (fun _ _ _ h => h) (Or.inl ⟨by rfl, ?_⟩) hHeld ?_
            rotate_left
            · (intro w hSw; (try dsimp only at hSw); go_simp; try with_reducible rfl)
            try simp only [Act.put, List.setIfInBounds_toArray, List.set_cons_succ, List.set_cons_zero]
            refine wpAnyH_take (i := 15) (oi := { dst := some 60, op := Op.convert 22 9 (Operand.tmp 59), type := 9, pos := "ref.go:81", after := #[{ on := 14, ground := Ground.data }, { on := 10, ground := Ground.guard }], guard := some (10, true) }) (v := ?_) rfl (by kernel_rfl) (by kernel_rfl) (by kernel_rfl) (fun _ _ _ h => h) (Or.inl ⟨by rfl, ?_⟩) hHeld ?_
            rotate_left
            · (intro w hSw; (try dsimp only at hSw); go_simp; try with_reducible rfl)
            try simp only [Act.put, List.setIfInBounds_toArray, List.set_cons_succ, List.set_cons_zero]
            refine wpAnyH_take (i := 16) (oi := { dst := some 61, op := Op.binOp BinOp.eql 9 (Operand.tmp 57) (Operand.tmp 60) 9, type := 4, pos := "ref.go:81", after := #[{ on := 12, ground := Ground.data }, { on := 15, ground := Ground.data }, { on := 10, ground := Ground.guard }], guard := some (10, true) }) (v := ?_) rfl (by kernel_rfl) (by kernel_rfl) (by kernel_rfl) (fun _ _ _ h => h) (Or.inl ⟨by rfl, ?_⟩) hHeld ?_
            rotate_left
            · (intro w hSw; (try dsimp only at hSw); go_simp; try with_reducible rfl)
            try simp only [Act.put, List.setIfInBounds_toArray, List.set_cons_succ, List.set_cons_zero]
            refine wpAnyH_take (i := 17) (oi := { dst := some 62, op := Op.pick (Operand.tmp 55) (Operand.tmp 61) (Operand.const (Value.bool false)), type := 4, pos := "ref.go:81", after := #[{ on := 10, ground := Ground.data }, { on := 16, ground := Ground.data }, { on := 1, ground := Ground.guard }], guard := some (1, false) }) (v := ?_) rfl (by kernel_rfl) (by kernel_rfl) (by kernel_rfl) (fun _ _ _ h => h) (Or.inl ⟨by rfl, ?_⟩) hHeld ?_
            rotate_left
            · (intro w hSw; (try dsimp only at hSw); go_simp; try with_reducible rfl)
            try simp only [Act.put, List.setIfInBounds_toArray, List.set_cons_succ, List.set_cons_zero]
            refine wpAnyH_take (i := 18) (oi := { dst := some 63, op := Op.pick (Operand.tmp 46) (Operand.const (Value.bool true)) (Operand.tmp 62), type := 4, pos := "ref.go:81", after := #[{ on := 1, ground := Ground.data }, { on := 17, ground := Ground.data }], guard := none }) (v := ?_) rfl (by kernel_rfl) (by kernel_rfl) (by kernel_rfl) (fun _ _ _ h => h) (Or.inl ⟨by rfl, ?_⟩) hHeld ?_
            rotate_left
            · (intro w hSw; (try dsimp only at hSw); go_simp; try with_reducible rfl)
            try simp only [Act.put, List.setIfInBounds_toArray, List.set_cons_succ, List.set_cons_zero]
            refine wpAnyH_ready (rs := [19]) (by kernel_rfl) (by simp) ?_
            refine AllReadyH.cons (o := _) rfl (fun K hK => ?_) AllReadyH.nil
            go_simp
            refine hK.out _ _ ⟨(Below.refl _ _).drew, HKG.out _ (Below.refl _ _).drew⟩ (fun hHeld => ?_)
            clear hK K
            try simp only [Act.put, List.setIfInBounds_toArray, List.set_cons_succ, List.set_cons_zero]
            refine wpAnyH_done (by kernel_rfl) ?_ _
            go_wp2
            go_roundw
            case rel => exact ⟨j + 1, by omega, by go_num, by rw [HGT.out], HBF.out.drew⟩
            case measure => simp [intOf]; omega
          · have hn2 : decide ((m : Int) - (j : Int) ≤ 2) = false := decide_eq_false (by omega)
            have hn3 : ¬ (m : Int) - (j : Int) ≤ 2 := by omega
            have HGT : Box (rkGood L (bs.take 52) (bs.drop 52) (j + 1) = false) := ⟨by rw [HGS2, decide_eq_false hnear]; simp⟩
            clear HGS HGS2 hnear
            go_wp2_with fail
            refine wp_region_held_drew (S := fun W => Below w5.heap.size w5 W ∧ W.cell? ⟨g, 0, none⟩ = some (.slice (some ⟨b1, 0, none⟩) m c1)) (by kernel_rfl) ⟨(Below.refl _ _).drew, x0⟩ (fun hHeld => ?_)
            clear x0
            refine wpAnyH_take (i := 0) (oi := { dst := some 45, op := Op.move (Operand.tmp 8), type := 4, pos := "ref.go:81", after := #[], guard := none }) (v := ?_) rfl (by kernel_rfl) (by kernel_rfl) (by kernel_rfl) (fun _ _ _ h => h) (Or.inl ⟨by rfl, ?_⟩) hHeld ?_
            rotate_left
            · (intro w hSw; (try dsimp only at hSw); go_simp; try with_reducible rfl)
            try simp only [Act.put, List.setIfInBounds_toArray, List.set_cons_succ, List.set_cons_zero]
            refine wpAnyH_take (i := 1) (oi := { dst := some 46, op := Op.move (Operand.tmp 45), type := 4, pos := "ref.go:81", after := #[{ on := 0, ground := Ground.data }], guard := none }) (v := ?_) rfl (by kernel_rfl) (by kernel_rfl) (by kernel_rfl) (fun _ _ _ h => h) (Or.inl ⟨by rfl, ?_⟩) hHeld ?_
            rotate_left
            · (intro w hSw; (try dsimp only at hSw); go_simp; try with_reducible rfl)
            try simp only [Act.put, List.setIfInBounds_toArray, List.set_cons_succ, List.set_cons_zero]
            refine wpAnyH_take (i := 2) (oi := { dst := some 47, op := Op.move (Operand.tmp 0), type := 57, pos := "ref.go:81", after := #[{ on := 1, ground := Ground.guard }], guard := some (1, false) }) (v := ?_) rfl (by kernel_rfl) (by kernel_rfl) (by kernel_rfl) (fun _ _ _ h => h) (Or.inl ⟨by rfl, ?_⟩) hHeld ?_
            rotate_left
            · (intro w hSw; (try dsimp only at hSw); go_simp; try with_reducible rfl)
            try simp only [Act.put, List.setIfInBounds_toArray, List.set_cons_succ, List.set_cons_zero]
            refine wpAnyH_take (i := 3) (oi := { dst := some 48, op := Op.nilCheck (Operand.tmp 47), type := 0, pos := "ref.go:81", after := #[{ on := 2, ground := Ground.data }, { on := 1, ground := Ground.guard }], guard := some (1, false) }) (v := ?_) rfl (by kernel_rfl) (by kernel_rfl) (by kernel_rfl) (fun _ _ _ h => h) (Or.inl ⟨by rfl, ?_⟩) hHeld ?_
            rotate_left
            · (intro w hSw; (try dsimp only at hSw); go_simp; try with_reducible rfl)
            try simp only [Act.put, List.setIfInBounds_toArray, List.set_cons_succ, List.set_cons_zero]
            refine wpAnyH_take (i := 4) (oi := { dst := some 49, op := Op.fieldAddr 86 (Operand.tmp 48) 0, type := 0, pos := "ref.go:81", after := #[{ on := 3, ground := Ground.data }, { on := 1, ground := Ground.guard }], guard := some (1, false) }) (v := ?_) rfl (by kernel_rfl) (by kernel_rfl) (by kernel_rfl) (fun _ _ _ h => h) (Or.inl ⟨by rfl, ?_⟩) hHeld ?_
            rotate_left
            · (intro w hSw; (try dsimp only at hSw); go_simp; try with_reducible rfl)
            try simp only [Act.put, List.setIfInBounds_toArray, List.set_cons_succ, List.set_cons_zero]
            refine wpAnyH_take (i := 5) (oi := { dst := some 50, op := Op.load 84 (Operand.tmp 49), type := 84, pos := "ref.go:81", after := #[{ on := 4, ground := Ground.data }, { on := 1, ground := Ground.guard }], guard := some (1, false) }) (v := ?_) rfl (by kernel_rfl) (by kernel_rfl) (by kernel_rfl) (fun _ _ _ h => h) (Or.inl ⟨by rfl, ?_⟩) hHeld ?_
            rotate_left
            · (intro w hSw; (try dsimp only at hSw); go_simp; try with_reducible rfl)
            try simp only [Act.put, List.setIfInBounds_toArray, List.set_cons_succ, List.set_cons_zero]
            refine wpAnyH_take (i := 6) (oi := { dst := some 51, op := Op.call { callee := Callee.builtin Builtin.len, args := #[Operand.tmp 50], argTypes := #[84] }, type := 3, pos := "ref.go:81", after := #[{ on := 5, ground := Ground.data }, { on := 1, ground := Ground.guard }], guard := some (1, false) }) (v := ?_) rfl (by kernel_rfl) (by kernel_rfl) (by kernel_rfl) (fun _ _ _ h => h) (Or.inl ⟨by rfl, ?_⟩) hHeld ?_
            rotate_left
            · (intro w hSw; (try dsimp only at hSw); go_simp; try with_reducible rfl)
            try simp only [Act.put, List.setIfInBounds_toArray, List.set_cons_succ, List.set_cons_zero]
            refine wpAnyH_take (i := 7) (oi := { dst := some 52, op := Op.move (Operand.tmp 9), type := 3, pos := "ref.go:81", after := #[{ on := 1, ground := Ground.guard }], guard := some (1, false) }) (v := ?_) rfl (by kernel_rfl) (by kernel_rfl) (by kernel_rfl) (fun _ _ _ h => h) (Or.inl ⟨by rfl, ?_⟩) hHeld ?_
            rotate_left
            · (intro w hSw; (try dsimp only at hSw); go_simp; try with_reducible rfl)
            try simp only [Act.put, List.setIfInBounds_toArray, List.set_cons_succ, List.set_cons_zero]
            refine wpAnyH_take (i := 8) (oi := { dst := some 53, op := Op.binOp BinOp.sub 3 (Operand.tmp 51) (Operand.tmp 52) 3, type := 3, pos := "ref.go:81", after := #[{ on := 6, ground := Ground.data }, { on := 7, ground := Ground.data }, { on := 1, ground := Ground.guard }], guard := some (1, false) }) (v := ?_) rfl (by kernel_rfl) (by kernel_rfl) (by kernel_rfl) (fun _ _ _ h => h) (Or.inl ⟨by rfl, ?_⟩) hHeld ?_
            rotate_left
            · (intro w hSw; (try dsimp only at hSw); go_simp; try with_reducible rfl)
            try simp only [Act.put, List.setIfInBounds_toArray, List.set_cons_succ, List.set_cons_zero]
            refine wpAnyH_take (i := 9) (oi := { dst := some 54, op := Op.binOp BinOp.leq 3 (Operand.tmp 53) (Operand.const (Value.int IntKind.i64 2)) 3, type := 4, pos := "ref.go:81", after := #[{ on := 8, ground := Ground.data }, { on := 1, ground := Ground.guard }], guard := some (1, false) }) (v := ?_) rfl (by kernel_rfl) (by kernel_rfl) (by kernel_rfl) (fun _ _ _ h => h) (Or.inl ⟨by rfl, ?_⟩) hHeld ?_
            rotate_left
            · (intro w hSw; (try dsimp only at hSw); go_simp; try with_reducible rfl)
            try simp only [Act.put, List.setIfInBounds_toArray, List.set_cons_succ, List.set_cons_zero]
            refine wpAnyH_take (i := 10) (oi := { dst := some 55, op := Op.move (Operand.tmp 54), type := 4, pos := "ref.go:81", after := #[{ on := 9, ground := Ground.data }, { on := 1, ground := Ground.chain }, { on := 1, ground := Ground.guard }], guard := some (1, false) }) (v := ?_) rfl (by kernel_rfl) (by kernel_rfl) (by kernel_rfl) (fun _ _ _ h => h) (Or.inl ⟨by rfl, ?_⟩) hHeld ?_
            rotate_left
            · (intro w hSw; (try dsimp only at hSw); go_simp; try with_reducible rfl)
            try simp only [Act.put, List.setIfInBounds_toArray, List.set_cons_succ, List.set_cons_zero]
            refine wpAnyH_take (i := 11) (oi := { dst := some 56, op := Op.slice 24 (Operand.tmp 10) none none none, type := 22, pos := "ref.go:81", after := #[{ on := 10, ground := Ground.guard }], guard := some (10, true) }) (v := undef) rfl (by kernel_rfl) (by kernel_rfl) (by kernel_rfl) (fun _ _ _ h => h) (Or.inr ⟨by rfl, rfl⟩) hHeld ?_
            try simp only [Act.put, List.setIfInBounds_toArray, List.set_cons_succ, List.set_cons_zero]
            refine wpAnyH_take (i := 12) (oi := { dst := some 57, op := Op.convert 22 9 (Operand.tmp 56), type := 9, pos := "ref.go:81", after := #[{ on := 11, ground := Ground.data }, { on := 10, ground := Ground.guard }], guard := some (10, true) }) (v := undef) rfl (by kernel_rfl) (by kernel_rfl) (by kernel_rfl) (fun _ _ _ h => h) (Or.inr ⟨by rfl, rfl⟩) hHeld ?_
            try simp only [Act.put, List.setIfInBounds_toArray, List.set_cons_succ, List.set_cons_zero]
            refine wpAnyH_take (i := 13) (oi := { dst := some 58, op := Op.move (Operand.tmp 1), type := 22, pos := "ref.go:81", after := #[{ on := 10, ground := Ground.guard }], guard := some (10, true) }) (v := undef) rfl (by kernel_rfl) (by kernel_rfl) (by kernel_rfl) (fun _ _ _ h => h) (Or.inr ⟨by rfl, rfl⟩) hHeld ?_
            try simp only [Act.put, List.setIfInBounds_toArray, List.set_cons_succ, List.set_cons_zero]
            refine wpAnyH_take (i := 14) (oi := { dst := some 59, op := Op.slice 22 (Operand.tmp 58) (some (Operand.const (Value.int IntKind.i64 52))) none none, type := 22, pos := "ref.go:81", after := #[{ on := 13, ground := Ground.data }, { on := 10, ground := Ground.guard }], guard := some (10, true) }) (v := undef) rfl (by kernel_rfl) (by kernel_rfl) (by kernel_rfl) (fun _ _ _ h => h) (Or.inr ⟨by rfl, rfl⟩) hHeld ?_
            try simp only [Act.put, List.setIfInBounds_toArray, List.set_cons_succ, List.set_cons_zero]
            refine wpAnyH_take (i := 15) (oi := { dst := some 60, op := Op.convert 22 9 (Operand.tmp 59), type := 9, pos := "ref.go:81", after := #[{ on := 14, ground := Ground.data }, { on := 10, ground := Ground.guard }], guard := some (10, true) }) (v := undef) rfl (by kernel_rfl) (by kernel_rfl) (by kernel_rfl) (fun _ _ _ h => h) (Or.inr ⟨by rfl, rfl⟩) hHeld ?_
            try simp only [Act.put, List.setIfInBounds_toArray, List.set_cons_succ, List.set_cons_zero]
            refine wpAnyH_take (i := 16) (oi := { dst := some 61, op := Op.binOp BinOp.eql 9 (Operand.tmp 57) (Operand.tmp 60) 9, type := 4, pos := "ref.go:81", after := #[{ on := 12, ground := Ground.data }, { on := 15, ground := Ground.data }, { on := 10, ground := Ground.guard }], guard := some (10, true) }) (v := undef) rfl (by kernel_rfl) (by kernel_rfl) (by kernel_rfl) (fun _ _ _ h => h) (Or.inr ⟨by rfl, rfl⟩) hHeld ?_
            try simp only [Act.put, List.setIfInBounds_toArray, List.set_cons_succ, List.set_cons_zero]
            refine wpAnyH_take (i := 17) (oi := { dst := some 62, op := Op.pick (Operand.tmp 55) (Operand.tmp 61) (Operand.const (Value.bool false)), type := 4, pos := "ref.go:81", after := #[{ on := 10, ground := Ground.data }, { on := 16, ground := Ground.data }, { on := 1, ground := Ground.guard }], guard := some (1, false) }) (v := ?_) rfl (by kernel_rfl) (by kernel_rfl) (by kernel_rfl) (fun _ _ _ h => h) (Or.inl ⟨by rfl, ?_⟩) hHeld ?_
            rotate_left
            · (intro w hSw; (try dsimp only at hSw); go_simp; try with_reducible rfl)
            try simp only [Act.put, List.setIfInBounds_toArray, List.set_cons_succ, List.set_cons_zero]
            refine wpAnyH_take (i := 18) (oi := { dst := some 63, op := Op.pick (Operand.tmp 46) (Operand.const (Value.bool true)) (Operand.tmp 62), type := 4, pos := "ref.go:81", after := #[{ on := 1, ground := Ground.data }, { on := 17, ground := Ground.data }], guard := none }) (v := ?_) rfl (by kernel_rfl) (by kernel_rfl) (by kernel_rfl) (fun _ _ _ h => h) (Or.inl ⟨by rfl, ?_⟩) hHeld ?_
            rotate_left
            · (intro w hSw; (try dsimp only at hSw); go_simp; try with_reducible rfl)
            try simp only [Act.put, List.setIfInBounds_toArray, List.set_cons_succ, List.set_cons_zero]
            refine wpAnyH_ready (rs := [19]) (by kernel_rfl) (by simp) ?_
            refine AllReadyH.cons (o := _) rfl (fun K hK => ?_) AllReadyH.nil
            go_simp
            refine hK.out _ _ ⟨(Below.refl _ _).drew, HKG.out _ (Below.refl _ _).drew⟩ (fun hHeld => ?_)
            clear hK K
            try simp only [Act.put, List.setIfInBounds_toArray, List.set_cons_succ, List.set_cons_zero]
            refine wpAnyH_done (by kernel_rfl) ?_ _
            go_wp2
            go_roundw
            case rel => exact ⟨j + 1, by omega, by go_num, by rw [HGT.out], HBF.out.drew⟩
            case measure => simp [intOf]; omega
      · go_simp
        have hO1 : (wr.alloc (.cells #[Value.int IntKind.u8 0, Value.int IntKind.u8 0, Value.int IntKind.u8 0, Value.int IntKind.u8 0, Value.int IntKind.u8 0, Value.int IntKind.u8 0, Value.int IntKind.u8 0, Value.int IntKind.u8 0, Value.int IntKind.u8 0, Value.int IntKind.u8 0, Value.int IntKind.u8 0, Value.int IntKind.u8 0, Value.int IntKind.u8 0, Value.int IntKind.u8 0, Value.int IntKind.u8 0, Value.int IntKind.u8 0, Value.int IntKind.u8 0, Value.int IntKind.u8 0, Value.int IntKind.u8 0, Value.int IntKind.u8 0, Value.int IntKind.u8 0, Value.int IntKind.u8 0, Value.int IntKind.u8 0, Value.int IntKind.u8 0, Value.int IntKind.u8 0, Value.int IntKind.u8 0, Value.int IntKind.u8 0, Value.int IntKind.u8 0, Value.int IntKind.u8 0, Value.int IntKind.u8 0, Value.int IntKind.u8 0, Value.int IntKind.u8 0] 24)).drew.heap[wr.heap.size]? = some (.cells #[Value.int IntKind.u8 0, Value.int IntKind.u8 0, Value.int IntKind.u8 0, Value.int IntKind.u8 0, Value.int IntKind.u8 0, Value.int IntKind.u8 0, Value.int IntKind.u8 0, Value.int IntKind.u8 0, Value.int IntKind.u8 0, Value.int IntKind.u8 0, Value.int IntKind.u8 0, Value.int IntKind.u8 0, Value.int IntKind.u8 0, Value.int IntKind.u8 0, Value.int IntKind.u8 0, Value.int IntKind.u8 0, Value.int IntKind.u8 0, Value.int IntKind.u8 0, Value.int IntKind.u8 0, Value.int IntKind.u8 0, Value.int IntKind.u8 0, Value.int IntKind.u8 0, Value.int IntKind.u8 0, Value.int IntKind.u8 0, Value.int IntKind.u8 0, Value.int IntKind.u8 0, Value.int IntKind.u8 0, Value.int IntKind.u8 0, Value.int IntKind.u8 0, Value.int IntKind.u8 0, Value.int IntKind.u8 0, Value.int IntKind.u8 0] 24 (0, 0)) := heap_alloc_new wr _
        have hP1 : Below wr.heap.size wr (wr.alloc (.cells #[Value.int IntKind.u8 0, Value.int IntKind.u8 0, Value.int IntKind.u8 0, Value.int IntKind.u8 0, Value.int IntKind.u8 0, Value.int IntKind.u8 0, Value.int IntKind.u8 0, Value.int IntKind.u8 0, Value.int IntKind.u8 0, Value.int IntKind.u8 0, Value.int IntKind.u8 0, Value.int IntKind.u8 0, Value.int IntKind.u8 0, Value.int IntKind.u8 0, Value.int IntKind.u8 0, Value.int IntKind.u8 0, Value.int IntKind.u8 0, Value.int IntKind.u8 0, Value.int IntKind.u8 0, Value.int IntKind.u8 0, Value.int IntKind.u8 0, Value.int IntKind.u8 0, Value.int IntKind.u8 0, Value.int IntKind.u8 0, Value.int IntKind.u8 0, Value.int IntKind.u8 0, Value.int IntKind.u8 0, Value.int IntKind.u8 0, Value.int IntKind.u8 0, Value.int IntKind.u8 0, Value.int IntKind.u8 0, Value.int IntKind.u8 0] 24)) := (Below.refl _ _).alloc (Nat.le_refl _) _
        have hb3 : Below wr.heap.size wr (wr.alloc (.cells #[Value.int IntKind.u8 0, Value.int IntKind.u8 0, Value.int IntKind.u8 0, Value.int IntKind.u8 0, Value.int IntKind.u8 0, Value.int IntKind.u8 0, Value.int IntKind.u8 0, Value.int IntKind.u8 0, Value.int IntKind.u8 0, Value.int IntKind.u8 0, Value.int IntKind.u8 0, Value.int IntKind.u8 0, Value.int IntKind.u8 0, Value.int IntKind.u8 0, Value.int IntKind.u8 0, Value.int IntKind.u8 0, Value.int IntKind.u8 0, Value.int IntKind.u8 0, Value.int IntKind.u8 0, Value.int IntKind.u8 0, Value.int IntKind.u8 0, Value.int IntKind.u8 0, Value.int IntKind.u8 0, Value.int IntKind.u8 0, Value.int IntKind.u8 0, Value.int IntKind.u8 0, Value.int IntKind.u8 0, Value.int IntKind.u8 0, Value.int IntKind.u8 0, Value.int IntKind.u8 0, Value.int IntKind.u8 0, Value.int IntKind.u8 0] 24)).drew := ⟨hP1.os, hP1.tape, hP1.output, hP1.size, hP1.block⟩
        clear hP1
        generalize (wr.alloc (.cells #[Value.int IntKind.u8 0, Value.int IntKind.u8 0, Value.int IntKind.u8 0, Value.int IntKind.u8 0, Value.int IntKind.u8 0, Value.int IntKind.u8 0, Value.int IntKind.u8 0, Value.int IntKind.u8 0, Value.int IntKind.u8 0, Value.int IntKind.u8 0, Value.int IntKind.u8 0, Value.int IntKind.u8 0, Value.int IntKind.u8 0, Value.int IntKind.u8 0, Value.int IntKind.u8 0, Value.int IntKind.u8 0, Value.int IntKind.u8 0, Value.int IntKind.u8 0, Value.int IntKind.u8 0, Value.int IntKind.u8 0, Value.int IntKind.u8 0, Value.int IntKind.u8 0, Value.int IntKind.u8 0, Value.int IntKind.u8 0, Value.int IntKind.u8 0, Value.int IntKind.u8 0, Value.int IntKind.u8 0, Value.int IntKind.u8 0, Value.int IntKind.u8 0, Value.int IntKind.u8 0, Value.int IntKind.u8 0, Value.int IntKind.u8 0] 24)).drew = w3 at *
        refine hK.out _ _ (KS.out _ hb3) (fun hHeld => ?_)
        try simp only [Act.put, List.setIfInBounds_toArray, List.set_cons_succ, List.set_cons_zero]
        refine wpAnyH_ready (rs := [9]) (by kernel_rfl) (by simp) ?_
        refine AllReadyH.cons (o := { dst := some 44, op := Op.call { callee := Callee.value (Operand.func 18), args := #[Operand.tmp 41, Operand.tmp 43], argTypes := #[22, 22] }, type := 24, pos := "ref.go:80", after := #[{ on := 6, ground := Ground.data }, { on := 8, ground := Ground.data }], guard := none }) rfl (fun K hK => ?_) AllReadyH.nil
        go_simp
        go_at_call 18
        refine Calls.mono (HMAC.out w3 hb3) ?_
        rintro e w4 ⟨rfl, hb⟩
        have hb4 : Below wr.heap.size wr w4 := below_then hb3 hb
        have hO2 : w4.heap[wr.heap.size]? = some (.cells #[Value.int IntKind.u8 0, Value.int IntKind.u8 0, Value.int IntKind.u8 0, Value.int IntKind.u8 0, Value.int IntKind.u8 0, Value.int IntKind.u8 0, Value.int IntKind.u8 0, Value.int IntKind.u8 0, Value.int IntKind.u8 0, Value.int IntKind.u8 0, Value.int IntKind.u8 0, Value.int IntKind.u8 0, Value.int IntKind.u8 0, Value.int IntKind.u8 0, Value.int IntKind.u8 0, Value.int IntKind.u8 0, Value.int IntKind.u8 0, Value.int IntKind.u8 0, Value.int IntKind.u8 0, Value.int IntKind.u8 0, Value.int IntKind.u8 0, Value.int IntKind.u8 0, Value.int IntKind.u8 0, Value.int IntKind.u8 0, Value.int IntKind.u8 0, Value.int IntKind.u8 0, Value.int IntKind.u8 0, Value.int IntKind.u8 0, Value.int IntKind.u8 0, Value.int IntKind.u8 0, Value.int IntKind.u8 0, Value.int IntKind.u8 0] 24 (0, 0)) := (hb.block _ (lt_of_block hO1)).trans hO1
        refine hK.out _ _ (KS.out _ hb4) (fun hHeld => ?_)
        try simp only [Act.put, List.setIfInBounds_toArray, List.set_cons_succ, List.set_cons_zero]
        refine wpAnyH_ready (rs := [11]) (by kernel_rfl) (by simp) ?_
        refine AllReadyH.cons (o := { dst := none, op := Op.store 24 (Operand.tmp 10) (Operand.tmp 44), type := 0, pos := "ref.go:80", after := #[{ on := 10, ground := Ground.data }, { on := 9, ground := Ground.data }, { on := 9, ground := Ground.chain }, { on := 0, ground := Ground.phase }, { on := 1, ground := Ground.phase }, { on := 2, ground := Ground.phase }, { on := 3, ground := Ground.phase }, { on := 4, ground := Ground.phase }, { on := 5, ground := Ground.phase }, { on := 6, ground := Ground.phase }, { on := 7, ground := Ground.phase }, { on := 8, ground := Ground.phase }, { on := 9, ground := Ground.phase }, { on := 10, ground := Ground.phase }], guard := none }) rfl (fun K hK => ?_) AllReadyH.nil
        rw [if_pos (by rfl)]
        refine wp_store_row 24 (.tmp 10) (.tmp 44) rfl wr.heap.size _ rfl rfl 24 _ hO2 (by rw [List.size_toArray, List.length_map, HML.out]; kernel_rfl) (by show 32 = (MS.map (Value.int .u8)).length; rw [List.length_map, HML.out]) (map_one _) ?_
        have HSR := hid (setRow_heap w4 wr.heap.size _ ((MS.map (Value.int .u8)).toArray) 24 _ hO2)
        have HBW := hid (below_setRow hb4 (Nat.le_refl _) ((MS.map (Value.int .u8)).toArray))
        clear hO1 hO2 hb hb3 hb4
        generalize w4.setRow wr.heap.size ((MS.map (Value.int .u8)).toArray) = w5 at *
        refine hK.out _ _ (KS.out _ HBW.out) (fun hHeld => ?_)
        try simp only [Act.put, List.setIfInBounds_toArray, List.set_cons_succ, List.set_cons_zero]
        refine wpAnyH_done (by kernel_rfl) ?_ _
        have HRM := hid (Rd.row HSR.out (by rw [HML.out]; omega))
        clear hK K HSR
        have x0 := (KS.out _ HBW.out).1
        have hcA : ∀ W, Below w5.heap.size w5 W → Sem.run Tryd.prog (convert 22 9 (.slice (some ⟨wr.heap.size, 0, none⟩) 32 32)) W = .ok (.string (strOfNums MS)) W := fun W hW =>
          conv_str (P := Tryd.prog) (w := W) (dst := 9) Tryd.underlying22 Tryd.underlying5 Tryd.underlying9 32 32 HML.out (HRM.out.below hW)
        have hcB : ∀ W, Below w5.heap.size w5 W → Sem.run Tryd.prog (convert 22 9 (.slice (some ⟨gb, ob + 52, none⟩) 32 (cb - 52))) W = .ok (.string (strOfNums (bs.drop 52))) W := fun W hW => HCB.out W (below_then HBW.out hW)
        have hsd := HSD.out
        have HKG := hid (show ∀ W, Below w5.heap.size w5 W → W.cell? ⟨g, 0, none⟩ = some (.slice (some ⟨b1, 0, none⟩) m c1) from fun W hW => (KS.out _ (below_then HBW.out hW)).1)
        have HBF := hid (below_then HBL.out HBW.out)
        have HGS2 := HGS.out
        generalize strOfNums MS = s1 at *
        generalize strOfNums (bs.drop 52) = s2 at *
        have hdm : decide (MS = bs.drop 52) = (s1.toList == s2.toList) := hsd.symm
        rw [hdm] at HGS2
        clear hsd hdm HSD HCB HMAC KS HBW HRM HML HMB HRX HRP HRS
        have hwr : IntKind.i64.wrap ((m : Int) - (j : Int)) = (m : Int) - (j : Int) := IntWalk.i64_in _ (by omega)
        cases gd with
        | true =>
          have HGT : Box (rkGood L (bs.take 52) (bs.drop 52) (j + 1) = true) := ⟨by rw [HGS2]; rfl⟩
          clear HGS HGS2
          go_wp2_with fail
          refine wp_region_held_drew (S := fun W => Below w5.heap.size w5 W) (by kernel_rfl) ((Below.refl _ _).drew) (fun hHeld => ?_)
          clear x0
          refine wpAnyH_take (i := 0) (oi := { dst := some 45, op := Op.move (Operand.tmp 8), type := 4, pos := "ref.go:81", after := #[], guard := none }) (v := ?_) rfl (by kernel_rfl) (by kernel_rfl) (by kernel_rfl) (fun _ _ _ h => h) (Or.inl ⟨by rfl, ?_⟩) hHeld ?_
          rotate_left
          · (intro w hSw; (try dsimp only at hSw); go_simp; try with_reducible rfl)
          try simp only [Act.put, List.setIfInBounds_toArray, List.set_cons_succ, List.set_cons_zero]
          refine wpAnyH_take (i := 1) (oi := { dst := some 46, op := Op.move (Operand.tmp 45), type := 4, pos := "ref.go:81", after := #[{ on := 0, ground := Ground.data }], guard := none }) (v := ?_) rfl (by kernel_rfl) (by kernel_rfl) (by kernel_rfl) (fun _ _ _ h => h) (Or.inl ⟨by rfl, ?_⟩) hHeld ?_
          rotate_left
          · (intro w hSw; (try dsimp only at hSw); go_simp; try with_reducible rfl)
          try simp only [Act.put, List.setIfInBounds_toArray, List.set_cons_succ, List.set_cons_zero]
          refine wpAnyH_take (i := 2) (oi := { dst := some 47, op := Op.move (Operand.tmp 0), type := 57, pos := "ref.go:81", after := #[{ on := 1, ground := Ground.guard }], guard := some (1, false) }) (v := undef) rfl (by kernel_rfl) (by kernel_rfl) (by kernel_rfl) (fun _ _ _ h => h) (Or.inr ⟨by rfl, rfl⟩) hHeld ?_
          try simp only [Act.put, List.setIfInBounds_toArray, List.set_cons_succ, List.set_cons_zero]
          refine wpAnyH_take (i := 3) (oi := { dst := some 48, op := Op.nilCheck (Operand.tmp 47), type := 0, pos := "ref.go:81", after := #[{ on := 2, ground := Ground.data }, { on := 1, ground := Ground.guard }], guard := some (1, false) }) (v := undef) rfl (by kernel_rfl) (by kernel_rfl) (by kernel_rfl) (fun _ _ _ h => h) (Or.inr ⟨by rfl, rfl⟩) hHeld ?_
          try simp only [Act.put, List.setIfInBounds_toArray, List.set_cons_succ, List.set_cons_zero]
          refine wpAnyH_take (i := 4) (oi := { dst := some 49, op := Op.fieldAddr 86 (Operand.tmp 48) 0, type := 0, pos := "ref.go:81", after := #[{ on := 3, ground := Ground.data }, { on := 1, ground := Ground.guard }], guard := some (1, false) }) (v := undef) rfl (by kernel_rfl) (by kernel_rfl) (by kernel_rfl) (fun _ _ _ h => h) (Or.inr ⟨by rfl, rfl⟩) hHeld ?_
          try simp only [Act.put, List.setIfInBounds_toArray, List.set_cons_succ, List.set_cons_zero]
          refine wpAnyH_take (i := 5) (oi := { dst := some 50, op := Op.load 84 (Operand.tmp 49), type := 84, pos := "ref.go:81", after := #[{ on := 4, ground := Ground.data }, { on := 1, ground := Ground.guard }], guard := some (1, false) }) (v := undef) rfl (by kernel_rfl) (by kernel_rfl) (by kernel_rfl) (fun _ _ _ h => h) (Or.inr ⟨by rfl, rfl⟩) hHeld ?_
          try simp only [Act.put, List.setIfInBounds_toArray, List.set_cons_succ, List.set_cons_zero]
          refine wpAnyH_take (i := 6) (oi := { dst := some 51, op := Op.call { callee := Callee.builtin Builtin.len, args := #[Operand.tmp 50], argTypes := #[84] }, type := 3, pos := "ref.go:81", after := #[{ on := 5, ground := Ground.data }, { on := 1, ground := Ground.guard }], guard := some (1, false) }) (v := undef) rfl (by kernel_rfl) (by kernel_rfl) (by kernel_rfl) (fun _ _ _ h => h) (Or.inr ⟨by rfl, rfl⟩) hHeld ?_
          try simp only [Act.put, List.setIfInBounds_toArray, List.set_cons_succ, List.set_cons_zero]
          refine wpAnyH_take (i := 7) (oi := { dst := some 52, op := Op.move (Operand.tmp 9), type := 3, pos := "ref.go:81", after := #[{ on := 1, ground := Ground.guard }], guard := some (1, false) }) (v := undef) rfl (by kernel_rfl) (by kernel_rfl) (by kernel_rfl) (fun _ _ _ h => h) (Or.inr ⟨by rfl, rfl⟩) hHeld ?_
          try simp only [Act.put, List.setIfInBounds_toArray, List.set_cons_succ, List.set_cons_zero]
          refine wpAnyH_take (i := 8) (oi := { dst := some 53, op := Op.binOp BinOp.sub 3 (Operand.tmp 51) (Operand.tmp 52) 3, type := 3, pos := "ref.go:81", after := #[{ on := 6, ground := Ground.data }, { on := 7, ground := Ground.data }, { on := 1, ground := Ground.guard }], guard := some (1, false) }) (v := undef) rfl (by kernel_rfl) (by kernel_rfl) (by kernel_rfl) (fun _ _ _ h => h) (Or.inr ⟨by rfl, rfl⟩) hHeld ?_
          try simp only [Act.put, List.setIfInBounds_toArray, List.set_cons_succ, List.set_cons_zero]
          refine wpAnyH_take (i := 9) (oi := { dst := some 54, op := Op.binOp BinOp.leq 3 (Operand.tmp 53) (Operand.const (Value.int IntKind.i64 2)) 3, type := 4, pos := "ref.go:81", after := #[{ on := 8, ground := Ground.data }, { on := 1, ground := Ground.guard }], guard := some (1, false) }) (v := undef) rfl (by kernel_rfl) (by kernel_rfl) (by kernel_rfl) (fun _ _ _ h => h) (Or.inr ⟨by rfl, rfl⟩) hHeld ?_
          try simp only [Act.put, List.setIfInBounds_toArray, List.set_cons_succ, List.set_cons_zero]
          refine wpAnyH_take (i := 10) (oi := { dst := some 55, op := Op.move (Operand.tmp 54), type := 4, pos := "ref.go:81", after := #[{ on := 9, ground := Ground.data }, { on := 1, ground := Ground.chain }, { on := 1, ground := Ground.guard }], guard := some (1, false) }) (v := undef) rfl (by kernel_rfl) (by kernel_rfl) (by kernel_rfl) (fun _ _ _ h => h) (Or.inr ⟨by rfl, rfl⟩) hHeld ?_
          try simp only [Act.put, List.setIfInBounds_toArray, List.set_cons_succ, List.set_cons_zero]
          refine wpAnyH_take (i := 11) (oi := { dst := some 56, op := Op.slice 24 (Operand.tmp 10) none none none, type := 22, pos := "ref.go:81", after := #[{ on := 10, ground := Ground.guard }], guard := some (10, true) }) (v := undef) rfl (by kernel_rfl) (by kernel_rfl) (by kernel_rfl) (fun _ _ _ h => h) (Or.inr ⟨by rfl, rfl⟩) hHeld ?_
          try simp only [Act.put, List.setIfInBounds_toArray, List.set_cons_succ, List.set_cons_zero]
          refine wpAnyH_take (i := 12) (oi := { dst := some 57, op := Op.convert 22 9 (Operand.tmp 56), type := 9, pos := "ref.go:81", after := #[{ on := 11, ground := Ground.data }, { on := 10, ground := Ground.guard }], guard := some (10, true) }) (v := undef) rfl (by kernel_rfl) (by kernel_rfl) (by kernel_rfl) (fun _ _ _ h => h) (Or.inr ⟨by rfl, rfl⟩) hHeld ?_
          try simp only [Act.put, List.setIfInBounds_toArray, List.set_cons_succ, List.set_cons_zero]
          refine wpAnyH_take (i := 13) (oi := { dst := some 58, op := Op.move (Operand.tmp 1), type := 22, pos := "ref.go:81", after := #[{ on := 10, ground := Ground.guard }], guard := some (10, true) }) (v := undef) rfl (by kernel_rfl) (by kernel_rfl) (by kernel_rfl) (fun _ _ _ h => h) (Or.inr ⟨by rfl, rfl⟩) hHeld ?_
          try simp only [Act.put, List.setIfInBounds_toArray, List.set_cons_succ, List.set_cons_zero]
          refine wpAnyH_take (i := 14) (oi := { dst := some 59, op := Op.slice 22 (Operand.tmp 58) (some (Operand.const (Value.int IntKind.i64 52))) none none, type := 22, pos := "ref.go:81", after := #[{ on := 13, ground := Ground.data }, { on := 10, ground := Ground.guard }], guard := some (10, true) }) (v := undef) rfl (by kernel_rfl) (by kernel_rfl) (by kernel_rfl) (fun _ _ _ h => h) (Or.inr ⟨by rfl, rfl⟩) hHeld ?_
          try simp only [Act.put, List.setIfInBounds_toArray, List.set_cons_succ, List.set_cons_zero]
          refine wpAnyH_take (i := 15) (oi := { dst := some 60, op := Op.convert 22 9 (Operand.tmp 59), type := 9, pos := "ref.go:81", after := #[{ on := 14, ground := Ground.data }, { on := 10, ground := Ground.guard }], guard := some (10, true) }) (v := undef) rfl (by kernel_rfl) (by kernel_rfl) (by kernel_rfl) (fun _ _ _ h => h) (Or.inr ⟨by rfl, rfl⟩) hHeld ?_
          try simp only [Act.put, List.setIfInBounds_toArray, List.set_cons_succ, List.set_cons_zero]
          refine wpAnyH_take (i := 16) (oi := { dst := some 61, op := Op.binOp BinOp.eql 9 (Operand.tmp 57) (Operand.tmp 60) 9, type := 4, pos := "ref.go:81", after := #[{ on := 12, ground := Ground.data }, { on := 15, ground := Ground.data }, { on := 10, ground := Ground.guard }], guard := some (10, true) }) (v := undef) rfl (by kernel_rfl) (by kernel_rfl) (by kernel_rfl) (fun _ _ _ h => h) (Or.inr ⟨by rfl, rfl⟩) hHeld ?_
          try simp only [Act.put, List.setIfInBounds_toArray, List.set_cons_succ, List.set_cons_zero]
          refine wpAnyH_take (i := 17) (oi := { dst := some 62, op := Op.pick (Operand.tmp 55) (Operand.tmp 61) (Operand.const (Value.bool false)), type := 4, pos := "ref.go:81", after := #[{ on := 10, ground := Ground.data }, { on := 16, ground := Ground.data }, { on := 1, ground := Ground.guard }], guard := some (1, false) }) (v := undef) rfl (by kernel_rfl) (by kernel_rfl) (by kernel_rfl) (fun _ _ _ h => h) (Or.inr ⟨by rfl, rfl⟩) hHeld ?_
          try simp only [Act.put, List.setIfInBounds_toArray, List.set_cons_succ, List.set_cons_zero]
          refine wpAnyH_take (i := 18) (oi := { dst := some 63, op := Op.pick (Operand.tmp 46) (Operand.const (Value.bool true)) (Operand.tmp 62), type := 4, pos := "ref.go:81", after := #[{ on := 1, ground := Ground.data }, { on := 17, ground := Ground.data }], guard := none }) (v := ?_) rfl (by kernel_rfl) (by kernel_rfl) (by kernel_rfl) (fun _ _ _ h => h) (Or.inl ⟨by rfl, ?_⟩) hHeld ?_
          rotate_left
          · (intro w hSw; (try dsimp only at hSw); go_simp; try with_reducible rfl)
          try simp only [Act.put, List.setIfInBounds_toArray, List.set_cons_succ, List.set_cons_zero]
          refine wpAnyH_ready (rs := [19]) (by kernel_rfl) (by simp) ?_
          refine AllReadyH.cons (o := _) rfl (fun K hK => ?_) AllReadyH.nil
          go_simp
          refine hK.out _ _ (Below.refl _ _).drew (fun hHeld => ?_)
          clear hK K
          try simp only [Act.put, List.setIfInBounds_toArray, List.set_cons_succ, List.set_cons_zero]
          refine wpAnyH_done (by kernel_rfl) ?_ _
          go_wp2
          go_roundw
          case rel => exact ⟨j + 1, by omega, by go_num, by rw [HGT.out], HBF.out.drew⟩
          case measure => simp [intOf]; omega
        | false =>
          by_cases hnear : m ≤ j + 2
          · have hn2 : decide ((m : Int) - (j : Int) ≤ 2) = true := decide_eq_true (by omega)
            have hn3 : (m : Int) - (j : Int) ≤ 2 := by omega
            have HGT : Box (rkGood L (bs.take 52) (bs.drop 52) (j + 1) = (s1.toList == s2.toList)) := ⟨by rw [HGS2, decide_eq_true hnear]; simp⟩
            clear HGS HGS2 hnear
            go_wp2_with fail
            refine wp_region_held_drew (S := fun W => Below w5.heap.size w5 W ∧ W.cell? ⟨g, 0, none⟩ = some (.slice (some ⟨b1, 0, none⟩) m c1)) (by kernel_rfl) ⟨(Below.refl _ _).drew, x0⟩ (fun hHeld => ?_)
            clear x0
            refine wpAnyH_take (i := 0) (oi := { dst := some 45, op := Op.move (Operand.tmp 8), type := 4, pos := "ref.go:81", after := #[], guard := none }) (v := ?_) rfl (by kernel_rfl) (by kernel_rfl) (by kernel_rfl) (fun _ _ _ h => h) (Or.inl ⟨by rfl, ?_⟩) hHeld ?_
            rotate_left
            · (intro w hSw; (try dsimp only at hSw); go_simp; try with_reducible rfl)
            try simp only [Act.put, List.setIfInBounds_toArray, List.set_cons_succ, List.set_cons_zero]
            refine wpAnyH_take (i := 1) (oi := { dst := some 46, op := Op.move (Operand.tmp 45), type := 4, pos := "ref.go:81", after := #[{ on := 0, ground := Ground.data }], guard := none }) (v := ?_) rfl (by kernel_rfl) (by kernel_rfl) (by kernel_rfl) (fun _ _ _ h => h) (Or.inl ⟨by rfl, ?_⟩) hHeld ?_
            rotate_left
            · (intro w hSw; (try dsimp only at hSw); go_simp; try with_reducible rfl)
            try simp only [Act.put, List.setIfInBounds_toArray, List.set_cons_succ, List.set_cons_zero]
            refine wpAnyH_take (i := 2) (oi := { dst := some 47, op := Op.move (Operand.tmp 0), type := 57, pos := "ref.go:81", after := #[{ on := 1, ground := Ground.guard }], guard := some (1, false) }) (v := ?_) rfl (by kernel_rfl) (by kernel_rfl) (by kernel_rfl) (fun _ _ _ h => h) (Or.inl ⟨by rfl, ?_⟩) hHeld ?_
            rotate_left
            · (intro w hSw; (try dsimp only at hSw); go_simp; try with_reducible rfl)
            try simp only [Act.put, List.setIfInBounds_toArray, List.set_cons_succ, List.set_cons_zero]
            refine wpAnyH_take (i := 3) (oi := { dst := some 48, op := Op.nilCheck (Operand.tmp 47), type := 0, pos := "ref.go:81", after := #[{ on := 2, ground := Ground.data }, { on := 1, ground := Ground.guard }], guard := some (1, false) }) (v := ?_) rfl (by kernel_rfl) (by kernel_rfl) (by kernel_rfl) (fun _ _ _ h => h) (Or.inl ⟨by rfl, ?_⟩) hHeld ?_
            rotate_left
            · (intro w hSw; (try dsimp only at hSw); go_simp; try with_reducible rfl)
            try simp only [Act.put, List.setIfInBounds_toArray, List.set_cons_succ, List.set_cons_zero]
            refine wpAnyH_take (i := 4) (oi := { dst := some 49, op := Op.fieldAddr 86 (Operand.tmp 48) 0, type := 0, pos := "ref.go:81", after := #[{ on := 3, ground := Ground.data }, { on := 1, ground := Ground.guard }], guard := some (1, false) }) (v := ?_) rfl (by kernel_rfl) (by kernel_rfl) (by kernel_rfl) (fun _ _ _ h => h) (Or.inl ⟨by rfl, ?_⟩) hHeld ?_
            rotate_left
            · (intro w hSw; (try dsimp only at hSw); go_simp; try with_reducible rfl)
            try simp only [Act.put, List.setIfInBounds_toArray, List.set_cons_succ, List.set_cons_zero]
            refine wpAnyH_take (i := 5) (oi := { dst := some 50, op := Op.load 84 (Operand.tmp 49), type := 84, pos := "ref.go:81", after := #[{ on := 4, ground := Ground.data }, { on := 1, ground := Ground.guard }], guard := some (1, false) }) (v := ?_) rfl (by kernel_rfl) (by kernel_rfl) (by kernel_rfl) (fun _ _ _ h => h) (Or.inl ⟨by rfl, ?_⟩) hHeld ?_
            rotate_left
            · (intro w hSw; (try dsimp only at hSw); go_simp; try with_reducible rfl)
            try simp only [Act.put, List.setIfInBounds_toArray, List.set_cons_succ, List.set_cons_zero]
            refine wpAnyH_take (i := 6) (oi := { dst := some 51, op := Op.call { callee := Callee.builtin Builtin.len, args := #[Operand.tmp 50], argTypes := #[84] }, type := 3, pos := "ref.go:81", after := #[{ on := 5, ground := Ground.data }, { on := 1, ground := Ground.guard }], guard := some (1, false) }) (v := ?_) rfl (by kernel_rfl) (by kernel_rfl) (by kernel_rfl) (fun _ _ _ h => h) (Or.inl ⟨by rfl, ?_⟩) hHeld ?_
            rotate_left
            · (intro w hSw; (try dsimp only at hSw); go_simp; try with_reducible rfl)
            try simp only [Act.put, List.setIfInBounds_toArray, List.set_cons_succ, List.set_cons_zero]
            refine wpAnyH_take (i := 7) (oi := { dst := some 52, op := Op.move (Operand.tmp 9), type := 3, pos := "ref.go:81", after := #[{ on := 1, ground := Ground.guard }], guard := some (1, false) }) (v := ?_) rfl (by kernel_rfl) (by kernel_rfl) (by kernel_rfl) (fun _ _ _ h => h) (Or.inl ⟨by rfl, ?_⟩) hHeld ?_
            rotate_left
            · (intro w hSw; (try dsimp only at hSw); go_simp; try with_reducible rfl)
            try simp only [Act.put, List.setIfInBounds_toArray, List.set_cons_succ, List.set_cons_zero]
            refine wpAnyH_take (i := 8) (oi := { dst := some 53, op := Op.binOp BinOp.sub 3 (Operand.tmp 51) (Operand.tmp 52) 3, type := 3, pos := "ref.go:81", after := #[{ on := 6, ground := Ground.data }, { on := 7, ground := Ground.data }, { on := 1, ground := Ground.guard }], guard := some (1, false) }) (v := ?_) rfl (by kernel_rfl) (by kernel_rfl) (by kernel_rfl) (fun _ _ _ h => h) (Or.inl ⟨by rfl, ?_⟩) hHeld ?_
            rotate_left
            · (intro w hSw; (try dsimp only at hSw); go_simp; try with_reducible rfl)
            try simp only [Act.put, List.setIfInBounds_toArray, List.set_cons_succ, List.set_cons_zero]
            refine wpAnyH_take (i := 9) (oi := { dst := some 54, op := Op.binOp BinOp.leq 3 (Operand.tmp 53) (Operand.const (Value.int IntKind.i64 2)) 3, type := 4, pos := "ref.go:81", after := #[{ on := 8, ground := Ground.data }, { on := 1, ground := Ground.guard }], guard := some (1, false) }) (v := ?_) rfl (by kernel_rfl) (by kernel_rfl) (by kernel_rfl) (fun _ _ _ h => h) (Or.inl ⟨by rfl, ?_⟩) hHeld ?_
            rotate_left
            · (intro w hSw; (try dsimp only at hSw); go_simp; try with_reducible rfl)
            try simp only [Act.put, List.setIfInBounds_toArray, List.set_cons_succ, List.set_cons_zero]
            refine wpAnyH_take (i := 10) (oi := { dst := some 55, op := Op.move (Operand.tmp 54), type := 4, pos := "ref.go:81", after := #[{ on := 9, ground := Ground.data }, { on := 1, ground := Ground.chain }, { on := 1, ground := Ground.guard }], guard := some (1, false) }) (v := ?_) rfl (by kernel_rfl) (by kernel_rfl) (by kernel_rfl) (fun _ _ _ h => h) (Or.inl ⟨by rfl, ?_⟩) hHeld ?_
            rotate_left
            · (intro w hSw; (try dsimp only at hSw); go_simp; try with_reducible rfl)
            try simp only [Act.put, List.setIfInBounds_toArray, List.set_cons_succ, List.set_cons_zero]
            refine wpAnyH_take (i := 11) (oi := { dst := some 56, op := Op.slice 24 (Operand.tmp 10) none none none, type := 22, pos := "ref.go:81", after := #[{ on := 10, ground := Ground.guard }], guard := some (10, true) }) (v := ?_) rfl (by kernel_rfl) (by kernel_rfl) (by kernel_rfl) (fun _ _ _ h => h) (Or.inl ⟨by rfl, ?_⟩) hHeld ?_
            rotate_left
            · (intro w hSw; (try dsimp only at hSw); go_simp; try with_reducible rfl)
            try simp only [Act.put, List.setIfInBounds_toArray, List.set_cons_succ, List.set_cons_zero]
            refine wpAnyH_take (i := 12) (oi := { dst := some 57, op := Op.convert 22 9 (Operand.tmp 56), type := 9, pos := "ref.go:81", after := #[{ on := 11, ground := Ground.data }, { on := 10, ground := Ground.guard }], guard := some (10, true) }) (v := ?_) rfl (by kernel_rfl) (by kernel_rfl) (by kernel_rfl) (fun _ _ _ h => h) (Or.inl ⟨by rfl, ?_⟩) hHeld ?_
            rotate_left
            · (intro w hSw; (try dsimp only at hSw); go_simp; try with_reducible rfl)
            try simp only [Act.put, List.setIfInBounds_toArray, List.set_cons_succ, List.set_cons_zero]
            refine wpAnyH_take (i := 13) (oi := { dst := some 58, op := Op.move (Operand.tmp 1), type := 22, pos := "ref.go:81", after := #[{ on := 10, ground := Ground.guard }], guard := some (10, true) }) (v := ?_) rfl (by kernel_rfl) (by kernel_rfl) (by kernel_rfl) (fun _ _ _ h => h) (Or.inl ⟨by rfl, ?_⟩) hHeld ?_
            rotate_left
            · (intro w hSw; (try dsimp only at hSw); go_simp; try with_reducible rfl)
            try simp only [Act.put, List.setIfInBounds_toArray, List.set_cons_succ, List.set_cons_zero]
            refine wpAnyH_take (i := 14) (oi := { dst := some 59, op := Op.slice 22 (Operand.tmp 58) (some (Operand.const (Value.int IntKind.i64 52))) none none, type := 22, pos := "ref.go:81", after := #[{ on := 13, ground := Ground.data }, { on := 10, ground := Ground.guard }], guard := some (10, true) }) (v := ?_) rfl (by kernel_rfl) (by kernel_rfl) (by kernel_rfl) (fun _ _ _ h => h) (Or.inl ⟨by rfl, ?_⟩) hHeld ?_
            rotate_left
            · (intro w hSw; (try dsimp only at hSw); go_simp; try with_reducible rfl)
            try simp only [Act.put, List.setIfInBounds_toArray, List.set_cons_succ, List.set_cons_zero]
            refine wpAnyH_take (i := 15) (oi := { dst := some 60, op := Op.convert 22 9 (Operand.tmp 59), type := 9, pos := "ref.go:81", after := #[{ on := 14, ground := Ground.data }, { on := 10, ground := Ground.guard }], guard := some (10, true) }) (v := ?_) rfl (by kernel_rfl) (by kernel_rfl) (by kernel_rfl) (fun _ _ _ h => h) (Or.inl ⟨by rfl, ?_⟩) hHeld ?_
            rotate_left
            · (intro w hSw; (try dsimp only at hSw); go_simp; try with_reducible rfl)
            try simp only [Act.put, List.setIfInBounds_toArray, List.set_cons_succ, List.set_cons_zero]
            refine wpAnyH_take (i := 16) (oi := { dst := some 61, op := Op.binOp BinOp.eql 9 (Operand.tmp 57) (Operand.tmp 60) 9, type := 4, pos := "ref.go:81", after := #[{ on := 12, ground := Ground.data }, { on := 15, ground := Ground.data }, { on := 10, ground := Ground.guard }], guard := some (10, true) }) (v := ?_) rfl (by kernel_rfl) (by kernel_rfl) (by kernel_rfl) (fun _ _ _ h => h) (Or.inl ⟨by rfl, ?_⟩) hHeld ?_
            rotate_left
            · (intro w hSw; (try dsimp only at hSw); go_simp; try with_reducible rfl)
            try simp only [Act.put, List.setIfInBounds_toArray, List.set_cons_succ, List.set_cons_zero]
            refine wpAnyH_take (i := 17) (oi := { dst := some 62, op := Op.pick (Operand.tmp 55) (Operand.tmp 61) (Operand.const (Value.bool false)), type := 4, pos := "ref.go:81", after := #[{ on := 10, ground := Ground.data }, { on := 16, ground := Ground.data }, { on := 1, ground := Ground.guard }], guard := some (1, false) }) (v := ?_) rfl (by kernel_rfl) (by kernel_rfl) (by kernel_rfl) (fun _ _ _ h => h) (Or.inl ⟨by rfl, ?_⟩) hHeld ?_
            rotate_left
            · (intro w hSw; (try dsimp only at hSw); go_simp; try with_reducible rfl)
            try simp only [Act.put, List.setIfInBounds_toArray, List.set_cons_succ, List.set_cons_zero]
            refine wpAnyH_take (i := 18) (oi := { dst := some 63, op := Op.pick (Operand.tmp 46) (Operand.const (Value.bool true)) (Operand.tmp 62), type := 4, pos := "ref.go:81", after := #[{ on := 1, ground := Ground.data }, { on := 17, ground := Ground.data }], guard := none }) (v := ?_) rfl (by kernel_rfl) (by kernel_rfl) (by kernel_rfl) (fun _ _ _ h => h) (Or.inl ⟨by rfl, ?_⟩) hHeld ?_
            rotate_left
            · (intro w hSw; (try dsimp only at hSw); go_simp; try with_reducible rfl)
            try simp only [Act.put, List.setIfInBounds_toArray, List.set_cons_succ, List.set_cons_zero]
            refine wpAnyH_ready (rs := [19]) (by kernel_rfl) (by simp) ?_
            refine AllReadyH.cons (o := _) rfl (fun K hK => ?_) AllReadyH.nil
            go_simp
            refine hK.out _ _ ⟨(Below.refl _ _).drew, HKG.out _ (Below.refl _ _).drew⟩ (fun hHeld => ?_)
            clear hK K
            try simp only [Act.put, List.setIfInBounds_toArray, List.set_cons_succ, List.set_cons_zero]
            refine wpAnyH_done (by kernel_rfl) ?_ _
            go_wp2
            go_roundw
            case rel => exact ⟨j + 1, by omega, by go_num, by rw [HGT.out], HBF.out.drew⟩
            case measure => simp [intOf]; omega
          · have hn2 : decide ((m : Int) - (j : Int) ≤ 2) = false := decide_eq_false (by omega)
            have hn3 : ¬ (m : Int) - (j : Int) ≤ 2 := by omega
            have HGT : Box (rkGood L (bs.take 52) (bs.drop 52) (j + 1) = false) := ⟨by rw [HGS2, decide_eq_false hnear]; simp⟩
            clear HGS HGS2 hnear
            go_wp2_with fail
            refine wp_region_held_drew (S := fun W => Below w5.heap.size w5 W ∧ W.cell? ⟨g, 0, none⟩ = some (.slice (some ⟨b1, 0, none⟩) m c1)) (by kernel_rfl) ⟨(Below.refl _ _).drew, x0⟩ (fun hHeld => ?_)
            clear x0
            refine wpAnyH_take (i := 0) (oi := { dst := some 45, op := Op.move (Operand.tmp 8), type := 4, pos := "ref.go:81", after := #[], guard := none }) (v := ?_) rfl (by kernel_rfl) (by kernel_rfl) (by kernel_rfl) (fun _ _ _ h => h) (Or.inl ⟨by rfl, ?_⟩) hHeld ?_
            rotate_left
            · (intro w hSw; (try dsimp only at hSw); go_simp; try with_reducible rfl)
            try simp only [Act.put, List.setIfInBounds_toArray, List.set_cons_succ, List.set_cons_zero]
            refine wpAnyH_take (i := 1) (oi := { dst := some 46, op := Op.move (Operand.tmp 45), type := 4, pos := "ref.go:81", after := #[{ on := 0, ground := Ground.data }], guard := none }) (v := ?_) rfl (by kernel_rfl) (by kernel_rfl) (by kernel_rfl) (fun _ _ _ h => h) (Or.inl ⟨by rfl, ?_⟩) hHeld ?_
            rotate_left
            · (intro w hSw; (try dsimp only at hSw); go_simp; try with_reducible rfl)
            try simp only [Act.put, List.setIfInBounds_toArray, List.set_cons_succ, List.set_cons_zero]
            refine wpAnyH_take (i := 2) (oi := { dst := some 47, op := Op.move (Operand.tmp 0), type := 57, pos := "ref.go:81", after := #[{ on := 1, ground := Ground.guard }], guard := some (1, false) }) (v := ?_) rfl (by kernel_rfl) (by kernel_rfl) (by kernel_rfl) (fun _ _ _ h => h) (Or.inl ⟨by rfl, ?_⟩) hHeld ?_
            rotate_left
            · (intro w hSw; (try dsimp only at hSw); go_simp; try with_reducible rfl)
            try simp only [Act.put, List.setIfInBounds_toArray, List.set_cons_succ, List.set_cons_zero]
            refine wpAnyH_take (i := 3) (oi := { dst := some 48, op := Op.nilCheck (Operand.tmp 47), type := 0, pos := "ref.go:81", after := #[{ on := 2, ground := Ground.data }, { on := 1, ground := Ground.guard }], guard := some (1, false) }) (v := ?_) rfl (by kernel_rfl) (by kernel_rfl) (by kernel_rfl) (fun _ _ _ h => h) (Or.inl ⟨by rfl, ?_⟩) hHeld ?_
            rotate_left
            · (intro w hSw; (try dsimp only at hSw); go_simp; try with_reducible rfl)
            try simp only [Act.put, List.setIfInBounds_toArray, List.set_cons_succ, List.set_cons_zero]
            refine wpAnyH_take (i := 4) (oi := { dst := some 49, op := Op.fieldAddr 86 (Operand.tmp 48) 0, type := 0, pos := "ref.go:81", after := #[{ on := 3, ground := Ground.data }, { on := 1, ground := Ground.guard }], guard := some (1, false) }) (v := ?_) rfl (by kernel_rfl) (by kernel_rfl) (by kernel_rfl) (fun _ _ _ h => h) (Or.inl ⟨by rfl, ?_⟩) hHeld ?_
            rotate_left
            · (intro w hSw; (try dsimp only at hSw); go_simp; try with_reducible rfl)
            try simp only [Act.put, List.setIfInBounds_toArray, List.set_cons_succ, List.set_cons_zero]
            refine wpAnyH_take (i := 5) (oi := { dst := some 50, op := Op.load 84 (Operand.tmp 49), type := 84, pos := "ref.go:81", after := #[{ on := 4, ground := Ground.data }, { on := 1, ground := Ground.guard }], guard := some (1, false) }) (v := ?_) rfl (by kernel_rfl) (by kernel_rfl) (by kernel_rfl) (fun _ _ _ h => h) (Or.inl ⟨by rfl, ?_⟩) hHeld ?_
            rotate_left
            · (intro w hSw; (try dsimp only at hSw); go_simp; try with_reducible rfl)
            try simp only [Act.put, List.setIfInBounds_toArray, List.set_cons_succ, List.set_cons_zero]
            refine wpAnyH_take (i := 6) (oi := { dst := some 51, op := Op.call { callee := Callee.builtin Builtin.len, args := #[Operand.tmp 50], argTypes := #[84] }, type := 3, pos := "ref.go:81", after := #[{ on := 5, ground := Ground.data }, { on := 1, ground := Ground.guard }], guard := some (1, false) }) (v := ?_) rfl (by kernel_rfl) (by kernel_rfl) (by kernel_rfl) (fun _ _ _ h => h) (Or.inl ⟨by rfl, ?_⟩) hHeld ?_
            rotate_left
            · (intro w hSw; (try dsimp only at hSw); go_simp; try with_reducible rfl)
            try simp only [Act.put, List.setIfInBounds_toArray, List.set_cons_succ, List.set_cons_zero]
            refine wpAnyH_take (i := 7) (oi := { dst := some 52, op := Op.move (Operand.tmp 9), type := 3, pos := "ref.go:81", after := #[{ on := 1, ground := Ground.guard }], guard := some (1, false) }) (v := ?_) rfl (by kernel_rfl) (by kernel_rfl) (by kernel_rfl) (fun _ _ _ h => h) (Or.inl ⟨by rfl, ?_⟩) hHeld ?_
            rotate_left
            · (intro w hSw; (try dsimp only at hSw); go_simp; try with_reducible rfl)
            try simp only [Act.put, List.setIfInBounds_toArray, List.set_cons_succ, List.set_cons_zero]
            refine wpAnyH_take (i := 8) (oi := { dst := some 53, op := Op.binOp BinOp.sub 3 (Operand.tmp 51) (Operand.tmp 52) 3, type := 3, pos := "ref.go:81", after := #[{ on := 6, ground := Ground.data }, { on := 7, ground := Ground.data }, { on := 1, ground := Ground.guard }], guard := some (1, false) }) (v := ?_) rfl (by kernel_rfl) (by kernel_rfl) (by kernel_rfl) (fun _ _ _ h => h) (Or.inl ⟨by rfl, ?_⟩) hHeld ?_
            rotate_left
            · (intro w hSw; (try dsimp only at hSw); go_simp; try with_reducible rfl)
            try simp only [Act.put, List.setIfInBounds_toArray, List.set_cons_succ, List.set_cons_zero]
            refine wpAnyH_take (i := 9) (oi := { dst := some 54, op := Op.binOp BinOp.leq 3 (Operand.tmp 53) (Operand.const (Value.int IntKind.i64 2)) 3, type := 4, pos := "ref.go:81", after := #[{ on := 8, ground := Ground.data }, { on := 1, ground := Ground.guard }], guard := some (1, false) }) (v := ?_) rfl (by kernel_rfl) (by kernel_rfl) (by kernel_rfl) (fun _ _ _ h => h) (Or.inl ⟨by rfl, ?_⟩) hHeld ?_
            rotate_left
            · (intro w hSw; (try dsimp only at hSw); go_simp; try with_reducible rfl)
            try simp only [Act.put, List.setIfInBounds_toArray, List.set_cons_succ, List.set_cons_zero]
            refine wpAnyH_take (i := 10) (oi := { dst := some 55, op := Op.move (Operand.tmp 54), type := 4, pos := "ref.go:81", after := #[{ on := 9, ground := Ground.data }, { on := 1, ground := Ground.chain }, { on := 1, ground := Ground.guard }], guard := some (1, false) }) (v := ?_) rfl (by kernel_rfl) (by kernel_rfl) (by kernel_rfl) (fun _ _ _ h => h) (Or.inl ⟨by rfl, ?_⟩) hHeld ?_
            rotate_left
            · (intro w hSw; (try dsimp only at hSw); go_simp; try with_reducible rfl)
            try simp only [Act.put, List.setIfInBounds_toArray, List.set_cons_succ, List.set_cons_zero]
            refine wpAnyH_take (i := 11) (oi := { dst := some 56, op := Op.slice 24 (Operand.tmp 10) none none none, type := 22, pos := "ref.go:81", after := #[{ on := 10, ground := Ground.guard }], guard := some (10, true) }) (v := undef) rfl (by kernel_rfl) (by kernel_rfl) (by kernel_rfl) (fun _ _ _ h => h) (Or.inr ⟨by rfl, rfl⟩) hHeld ?_
            try simp only [Act.put, List.setIfInBounds_toArray, List.set_cons_succ, List.set_cons_zero]
            refine wpAnyH_take (i := 12) (oi := { dst := some 57, op := Op.convert 22 9 (Operand.tmp 56), type := 9, pos := "ref.go:81", after := #[{ on := 11, ground := Ground.data }, { on := 10, ground := Ground.guard }], guard := some (10, true) }) (v := undef) rfl (by kernel_rfl) (by kernel_rfl) (by kernel_rfl) (fun _ _ _ h => h) (Or.inr ⟨by rfl, rfl⟩) hHeld ?_
            try simp only [Act.put, List.setIfInBounds_toArray, List.set_cons_succ, List.set_cons_zero]
            refine wpAnyH_take (i := 13) (oi := { dst := some 58, op := Op.move (Operand.tmp 1), type := 22, pos := "ref.go:81", after := #[{ on := 10, ground := Ground.guard }], guard := some (10, true) }) (v := undef) rfl (by kernel_rfl) (by kernel_rfl) (by kernel_rfl) (fun _ _ _ h => h) (Or.inr ⟨by rfl, rfl⟩) hHeld ?_
            try simp only [Act.put, List.setIfInBounds_toArray, List.set_cons_succ, List.set_cons_zero]
            refine wpAnyH_take (i := 14) (oi := { dst := some 59, op := Op.slice 22 (Operand.tmp 58) (some (Operand.const (Value.int IntKind.i64 52))) none none, type := 22, pos := "ref.go:81", after := #[{ on := 13, ground := Ground.data }, { on := 10, ground := Ground.guard }], guard := some (10, true) }) (v := undef) rfl (by kernel_rfl) (by kernel_rfl) (by kernel_rfl) (fun _ _ _ h => h) (Or.inr ⟨by rfl, rfl⟩) hHeld ?_
            try simp only [Act.put, List.setIfInBounds_toArray, List.set_cons_succ, List.set_cons_zero]
            refine wpAnyH_take (i := 15) (oi := { dst := some 60, op := Op.convert 22 9 (Operand.tmp 59), type := 9, pos := "ref.go:81", after := #[{ on := 14, ground := Ground.data }, { on := 10, ground := Ground.guard }], guard := some (10, true) }) (v := undef) rfl (by kernel_rfl) (by kernel_rfl) (by kernel_rfl) (fun _ _ _ h => h) (Or.inr ⟨by rfl, rfl⟩) hHeld ?_
            try simp only [Act.put, List.setIfInBounds_toArray, List.set_cons_succ, List.set_cons_zero]
            refine wpAnyH_take (i := 16) (oi := { dst := some 61, op := Op.binOp BinOp.eql 9 (Operand.tmp 57) (Operand.tmp 60) 9, type := 4, pos := "ref.go:81", after := #[{ on := 12, ground := Ground.data }, { on := 15, ground := Ground.data }, { on := 10, ground := Ground.guard }], guard := some (10, true) }) (v := undef) rfl (by kernel_rfl) (by kernel_rfl) (by kernel_rfl) (fun _ _ _ h => h) (Or.inr ⟨by rfl, rfl⟩) hHeld ?_
            try simp only [Act.put, List.setIfInBounds_toArray, List.set_cons_succ, List.set_cons_zero]
            refine wpAnyH_take (i := 17) (oi := { dst := some 62, op := Op.pick (Operand.tmp 55) (Operand.tmp 61) (Operand.const (Value.bool false)), type := 4, pos := "ref.go:81", after := #[{ on := 10, ground := Ground.data }, { on := 16, ground := Ground.data }, { on := 1, ground := Ground.guard }], guard := some (1, false) }) (v := ?_) rfl (by kernel_rfl) (by kernel_rfl) (by kernel_rfl) (fun _ _ _ h => h) (Or.inl ⟨by rfl, ?_⟩) hHeld ?_
            rotate_left
            · (intro w hSw; (try dsimp only at hSw); go_simp; try with_reducible rfl)
            try simp only [Act.put, List.setIfInBounds_toArray, List.set_cons_succ, List.set_cons_zero]
            refine wpAnyH_take (i := 18) (oi := { dst := some 63, op := Op.pick (Operand.tmp 46) (Operand.const (Value.bool true)) (Operand.tmp 62), type := 4, pos := "ref.go:81", after := #[{ on := 1, ground := Ground.data }, { on := 17, ground := Ground.data }], guard := none }) (v := ?_) rfl (by kernel_rfl) (by kernel_rfl) (by kernel_rfl) (fun _ _ _ h => h) (Or.inl ⟨by rfl, ?_⟩) hHeld ?_
            rotate_left
            · (intro w hSw; (try dsimp only at hSw); go_simp; try with_reducible rfl)
            try simp only [Act.put, List.setIfInBounds_toArray, List.set_cons_succ, List.set_cons_zero]
            refine wpAnyH_ready (rs := [19]) (by kernel_rfl) (by simp) ?_
            refine AllReadyH.cons (o := _) rfl (fun K hK => ?_) AllReadyH.nil
            go_simp
            refine hK.out _ _ ⟨(Below.refl _ _).drew, HKG.out _ (Below.refl _ _).drew⟩ (fun hHeld => ?_)
            clear hK K
            try simp only [Act.put, List.setIfInBounds_toArray, List.set_cons_succ, List.set_cons_zero]
            refine wpAnyH_done (by kernel_rfl) ?_ _
            go_wp2
            go_roundw
            case rel => exact ⟨j + 1, by omega, by go_num, by rw [HGT.out], HBF.out.drew⟩
            case measure => simp [intOf]; omega
    · obtain rfl : j = m := by omega
      have hj2 : ¬ (j : Int) < (j : Int) := by omega
      have HBG := hid (below_then HB1.out HBL.out)
      have HRN := hid ((HBL.out.block _ (lt_of_block HR1.out)).trans HR1.out)
      have HRB := hid (HR.out.below HBL.out)
      obtain ⟨gd, hgd⟩ : ∃ gd, gd = rkGood L (bs.take 52) (bs.drop 52) j := ⟨_, rfl⟩
      rw [← hgd]
      have HGD := hid hgd
      clear hgd
      cases gd with
      | false =>
        have HCO : Box (rkOpen L bs now = (Ck.none, 5)) := ⟨by
          unfold rkOpen
          rw [if_neg HA.out, if_neg (by rw [HNB.out]; simp), if_pos (by rw [← HHM.out]; exact HGD.out.symm)]⟩
        go_wp2_with (with_reducible refine hold_op (o := ⟨none, _, _, _, _, _⟩) ?_)
        refine hid ?_
        refine wpList_store_row rfl 40 (.tmp 6) (.tmp 66) rfl w.heap.size #[Value.int IntKind.i64 0, Value.int IntKind.i64 0, Value.int IntKind.u16 0, Value.int IntKind.u16 0, Value.int IntKind.u32 0, Value.int IntKind.u32 0, Value.int IntKind.u32 0, Value.int IntKind.u32 0, Value.int IntKind.u32 0, Value.int IntKind.u16 0, Value.int IntKind.u16 0, Value.int IntKind.u32 0, Value.int IntKind.u32 0] rfl rfl 40 _ HRN.out (by kernel_rfl) rfl (by kernel_rfl) ?_
        rw [setRow_self wr w.heap.size #[Value.int IntKind.i64 0, Value.int IntKind.i64 0, Value.int IntKind.u16 0, Value.int IntKind.u16 0, Value.int IntKind.u32 0, Value.int IntKind.u32 0, Value.int IntKind.u32 0, Value.int IntKind.u32 0, Value.int IntKind.u32 0, Value.int IntKind.u16 0, Value.int IntKind.u16 0, Value.int IntKind.u32 0, Value.int IntKind.u32 0] 40 (0, 0) HRN.out]
        go_wp2
        refine bodyPost_ret (v := .tuple #[.agg #[Value.int IntKind.i64 0, Value.int IntKind.i64 0, Value.int IntKind.u16 0, Value.int IntKind.u16 0, Value.int IntKind.u32 0, Value.int IntKind.u32 0, Value.int IntKind.u32 0, Value.int IntKind.u32 0, Value.int IntKind.u32 0, Value.int IntKind.u16 0, Value.int IntKind.u16 0, Value.int IntKind.u32 0, Value.int IntKind.u32 0], .int .i64 5]) ?_ rfl ⟨by rw [HCO.out]; rfl, HBG.out⟩
        exact results_cell_tmp (p := 6) (q := 7) rfl _ wr w.heap.size 40 #[Value.int IntKind.i64 0, Value.int IntKind.i64 0, Value.int IntKind.u16 0, Value.int IntKind.u16 0, Value.int IntKind.u32 0, Value.int IntKind.u32 0, Value.int IntKind.u32 0, Value.int IntKind.u32 0, Value.int IntKind.u32 0, Value.int IntKind.u16 0, Value.int IntKind.u16 0, Value.int IntKind.u32 0, Value.int IntKind.u32 0] (0, 0) _ rfl HRN.out _ rfl Tryd.underlying40 rfl (by kernel_rfl)
      | true =>
        have HM1 : Hid (¬ rkGood L (bs.take 52) (bs.drop 52) L.length = false) := hid (by rw [← HHM.out, ← HGD.out]; simp)
        go_wp2_with (go_at_call 56; refine hold ?_)
        refine hid ?_
        refine Calls.mono (number_calls cb 48 4 (some ⟨gb, ob, none⟩) bs HNB.out _ HRB.out HBB.out (by omega) (by omega) (by omega)) ?_
        rintro e wq ⟨rfl, rfl⟩
        obtain ⟨V13, hV13⟩ : ∃ V, V = numAt bs 48 4 := ⟨_, rfl⟩
        rw [← hV13]
        have HV13 : Box (numAt bs 48 4 = V13) := ⟨hV13.symm⟩
        clear hV13
        by_cases h13 : V13 = 0
        rotate_left
        · have HCO : Box (rkOpen L bs now = (Ck.none, 4)) := ⟨by
            unfold rkOpen
            rw [if_neg HA.out, if_neg (by rw [HNB.out]; simp), if_neg HM1.out, if_pos (by rw [HV13.out]; exact h13)]⟩
          go_wp2_with (with_reducible refine hold_op (o := ⟨none, _, _, _, _, _⟩) ?_)
          refine hid ?_
          refine wpList_store_row rfl 40 (.tmp 6) (.tmp 70) rfl w.heap.size #[Value.int IntKind.i64 0, Value.int IntKind.i64 0, Value.int IntKind.u16 0, Value.int IntKind.u16 0, Value.int IntKind.u32 0, Value.int IntKind.u32 0, Value.int IntKind.u32 0, Value.int IntKind.u32 0, Value.int IntKind.u32 0, Value.int IntKind.u16 0, Value.int IntKind.u16 0, Value.int IntKind.u32 0, Value.int IntKind.u32 0] rfl rfl 40 _ HRN.out (by kernel_rfl) rfl (by kernel_rfl) ?_
          rw [setRow_self wr w.heap.size #[Value.int IntKind.i64 0, Value.int IntKind.i64 0, Value.int IntKind.u16 0, Value.int IntKind.u16 0, Value.int IntKind.u32 0, Value.int IntKind.u32 0, Value.int IntKind.u32 0, Value.int IntKind.u32 0, Value.int IntKind.u32 0, Value.int IntKind.u16 0, Value.int IntKind.u16 0, Value.int IntKind.u32 0, Value.int IntKind.u32 0] 40 (0, 0) HRN.out]
          go_wp2
          refine bodyPost_ret (v := .tuple #[.agg #[Value.int IntKind.i64 0, Value.int IntKind.i64 0, Value.int IntKind.u16 0, Value.int IntKind.u16 0, Value.int IntKind.u32 0, Value.int IntKind.u32 0, Value.int IntKind.u32 0, Value.int IntKind.u32 0, Value.int IntKind.u32 0, Value.int IntKind.u16 0, Value.int IntKind.u16 0, Value.int IntKind.u32 0, Value.int IntKind.u32 0], .int .i64 4]) ?_ rfl ⟨by rw [HCO.out]; rfl, HBG.out⟩
          exact results_cell_tmp (p := 6) (q := 7) rfl _ wr w.heap.size 40 #[Value.int IntKind.i64 0, Value.int IntKind.i64 0, Value.int IntKind.u16 0, Value.int IntKind.u16 0, Value.int IntKind.u32 0, Value.int IntKind.u32 0, Value.int IntKind.u32 0, Value.int IntKind.u32 0, Value.int IntKind.u32 0, Value.int IntKind.u16 0, Value.int IntKind.u16 0, Value.int IntKind.u32 0, Value.int IntKind.u32 0] (0, 0) _ rfl HRN.out _ rfl Tryd.underlying40 rfl (by kernel_rfl)
        subst h13
        obtain ⟨V0, hV0⟩ : ∃ V, V = numAt bs 0 8 := ⟨_, rfl⟩
        have HV0 : Box (numAt bs 0 8 = V0) := ⟨hV0.symm⟩
        have hv0 := numAt_range bs 0 8 HBB.out
        rw [← hV0] at hv0
        have hy00 : 0 ≤ V0 := hv0.1
        have hy01 : V0 < 18446744073709551616 := hv0.2
        clear hV0 hv0
        have HY0 := hid (And.intro hy00 hy01)
        clear hy00 hy01
        obtain ⟨V1, hV1⟩ : ∃ V, V = numAt bs 8 4 := ⟨_, rfl⟩
        have HV1 : Box (numAt bs 8 4 = V1) := ⟨hV1.symm⟩
        have hv1 := numAt_range bs 8 4 HBB.out
        rw [← hV1] at hv1
        have hy10 : 0 ≤ V1 := hv1.1
        have hy11 : V1 < 4294967296 := hv1.2
        clear hV1 hv1
        have HY1 := hid (And.intro hy10 hy11)
        clear hy10 hy11
        obtain ⟨V2, hV2⟩ : ∃ V, V = numAt bs 12 2 := ⟨_, rfl⟩
        have HV2 : Box (numAt bs 12 2 = V2) := ⟨hV2.symm⟩
        have hv2 := numAt_range bs 12 2 HBB.out
        rw [← hV2] at hv2
        have hy20 : 0 ≤ V2 := hv2.1
        have hy21 : V2 < 65536 := hv2.2
        clear hV2 hv2
        have HY2 := hid (And.intro hy20 hy21)
        clear hy20 hy21
        obtain ⟨V3, hV3⟩ : ∃ V, V = numAt bs 14 2 := ⟨_, rfl⟩
        have HV3 : Box (numAt bs 14 2 = V3) := ⟨hV3.symm⟩
        have hv3 := numAt_range bs 14 2 HBB.out
        rw [← hV3] at hv3
        have hy30 : 0 ≤ V3 := hv3.1
        have hy31 : V3 < 65536 := hv3.2
        clear hV3 hv3
        have HY3 := hid (And.intro hy30 hy31)
        clear hy30 hy31
        obtain ⟨V4, hV4⟩ : ∃ V, V = numAt bs 16 4 := ⟨_, rfl⟩
        have HV4 : Box (numAt bs 16 4 = V4) := ⟨hV4.symm⟩
        have hv4 := numAt_range bs 16 4 HBB.out
        rw [← hV4] at hv4
        have hy40 : 0 ≤ V4 := hv4.1
        have hy41 : V4 < 4294967296 := hv4.2
        clear hV4 hv4
        have HY4 := hid (And.intro hy40 hy41)
        clear hy40 hy41
        obtain ⟨V5, hV5⟩ : ∃ V, V = numAt bs 20 4 := ⟨_, rfl⟩
        have HV5 : Box (numAt bs 20 4 = V5) := ⟨hV5.symm⟩
        have hv5 := numAt_range bs 20 4 HBB.out
        rw [← hV5] at hv5
        have hy50 : 0 ≤ V5 := hv5.1
        have hy51 : V5 < 4294967296 := hv5.2
        clear hV5 hv5
        have HY5 := hid (And.intro hy50 hy51)
        clear hy50 hy51
        obtain ⟨V6, hV6⟩ : ∃ V, V = numAt bs 24 4 := ⟨_, rfl⟩
        have HV6 : Box (numAt bs 24 4 = V6) := ⟨hV6.symm⟩
        have hv6 := numAt_range bs 24 4 HBB.out
        rw [← hV6] at hv6
        have hy60 : 0 ≤ V6 := hv6.1
        have hy61 : V6 < 4294967296 := hv6.2
        clear hV6 hv6
        have HY6 := hid (And.intro hy60 hy61)
        clear hy60 hy61
        obtain ⟨V7, hV7⟩ : ∃ V, V = numAt bs 28 4 := ⟨_, rfl⟩
        have HV7 : Box (numAt bs 28 4 = V7) := ⟨hV7.symm⟩
        have hv7 := numAt_range bs 28 4 HBB.out
        rw [← hV7] at hv7
        have hy70 : 0 ≤ V7 := hv7.1
        have hy71 : V7 < 4294967296 := hv7.2
        clear hV7 hv7
        have HY7 := hid (And.intro hy70 hy71)
        clear hy70 hy71
        obtain ⟨V8, hV8⟩ : ∃ V, V = numAt bs 32 4 := ⟨_, rfl⟩
        have HV8 : Box (numAt bs 32 4 = V8) := ⟨hV8.symm⟩
        have hv8 := numAt_range bs 32 4 HBB.out
        rw [← hV8] at hv8
        have hy80 : 0 ≤ V8 := hv8.1
        have hy81 : V8 < 4294967296 := hv8.2
        clear hV8 hv8
        have HY8 := hid (And.intro hy80 hy81)
        clear hy80 hy81
        obtain ⟨V9, hV9⟩ : ∃ V, V = numAt bs 36 2 := ⟨_, rfl⟩
        have HV9 : Box (numAt bs 36 2 = V9) := ⟨hV9.symm⟩
        have hv9 := numAt_range bs 36 2 HBB.out
        rw [← hV9] at hv9
        have hy90 : 0 ≤ V9 := hv9.1
        have hy91 : V9 < 65536 := hv9.2
        clear hV9 hv9
        have HY9 := hid (And.intro hy90 hy91)
        clear hy90 hy91
        obtain ⟨V10, hV10⟩ : ∃ V, V = numAt bs 38 2 := ⟨_, rfl⟩
        have HV10 : Box (numAt bs 38 2 = V10) := ⟨hV10.symm⟩
        have hv10 := numAt_range bs 38 2 HBB.out
        rw [← hV10] at hv10
        have hy100 : 0 ≤ V10 := hv10.1
        have hy101 : V10 < 65536 := hv10.2
        clear hV10 hv10
        have HY10 := hid (And.intro hy100 hy101)
        clear hy100 hy101
        obtain ⟨V11, hV11⟩ : ∃ V, V = numAt bs 40 4 := ⟨_, rfl⟩
        have HV11 : Box (numAt bs 40 4 = V11) := ⟨hV11.symm⟩
        have hv11 := numAt_range bs 40 4 HBB.out
        rw [← hV11] at hv11
        have hy110 : 0 ≤ V11 := hv11.1
        have hy111 : V11 < 4294967296 := hv11.2
        clear hV11 hv11
        have HY11 := hid (And.intro hy110 hy111)
        clear hy110 hy111
        obtain ⟨V12, hV12⟩ : ∃ V, V = numAt bs 44 4 := ⟨_, rfl⟩
        have HV12 : Box (numAt bs 44 4 = V12) := ⟨hV12.symm⟩
        have hv12 := numAt_range bs 44 4 HBB.out
        rw [← hV12] at hv12
        have hy120 : 0 ≤ V12 := hv12.1
        have hy121 : V12 < 4294967296 := hv12.2
        clear hV12 hv12
        have HY12 := hid (And.intro hy120 hy121)
        clear hy120 hy121
        have HCK : Box (ckOf bs = Ck.mk V0 V1 V2 V3 V4 V5 V6 V7 V8 V9 V10 V11 V12) := ⟨by unfold ckOf; rw [HV0.out, HV1.out, HV2.out, HV3.out, HV4.out, HV5.out, HV6.out, HV7.out, HV8.out, HV9.out, HV10.out, HV11.out, HV12.out]⟩
        go_wp2_with (go_at_call 56; refine hold ?_)
        refine hid ?_
        refine Calls.mono (number_calls cb 0 8 (some ⟨gb, ob, none⟩) bs HNB.out _ HRB.out HBB.out (by omega) (by omega) (by omega)) ?_
        rintro e wq ⟨rfl, rfl⟩
        rw [HV0.out]
        by_cases hlim : 1099511627776 < V0 ∨ 600 < V1
        · have HCO : Box (rkOpen L bs now = (Ck.none, 6)) := ⟨by
            unfold rkOpen
            rw [if_neg HA.out, if_neg (by rw [HNB.out]; simp), if_neg HM1.out, if_neg (by rw [HV13.out]; simp), if_pos (by rw [HV0.out, HV1.out]; exact hlim)]⟩
          by_cases hl0 : 1099511627776 < V0
          · clear hlim
            go_wp2_with (with_reducible refine hold_op (o := ⟨none, _, _, _, _, _⟩) ?_)
            refine hid ?_
            refine wpList_store_row rfl 40 (.tmp 6) (.tmp 79) rfl w.heap.size #[Value.int IntKind.i64 0, Value.int IntKind.i64 0, Value.int IntKind.u16 0, Value.int IntKind.u16 0, Value.int IntKind.u32 0, Value.int IntKind.u32 0, Value.int IntKind.u32 0, Value.int IntKind.u32 0, Value.int IntKind.u32 0, Value.int IntKind.u16 0, Value.int IntKind.u16 0, Value.int IntKind.u32 0, Value.int IntKind.u32 0] rfl rfl 40 _ HRN.out (by kernel_rfl) rfl (by kernel_rfl) ?_
            rw [setRow_self wr w.heap.size #[Value.int IntKind.i64 0, Value.int IntKind.i64 0, Value.int IntKind.u16 0, Value.int IntKind.u16 0, Value.int IntKind.u32 0, Value.int IntKind.u32 0, Value.int IntKind.u32 0, Value.int IntKind.u32 0, Value.int IntKind.u32 0, Value.int IntKind.u16 0, Value.int IntKind.u16 0, Value.int IntKind.u32 0, Value.int IntKind.u32 0] 40 (0, 0) HRN.out]
            go_wp2
            refine bodyPost_ret (v := .tuple #[.agg #[Value.int IntKind.i64 0, Value.int IntKind.i64 0, Value.int IntKind.u16 0, Value.int IntKind.u16 0, Value.int IntKind.u32 0, Value.int IntKind.u32 0, Value.int IntKind.u32 0, Value.int IntKind.u32 0, Value.int IntKind.u32 0, Value.int IntKind.u16 0, Value.int IntKind.u16 0, Value.int IntKind.u32 0, Value.int IntKind.u32 0], .int .i64 6]) ?_ rfl ⟨by rw [HCO.out]; rfl, HBG.out⟩
            exact results_cell_tmp (p := 6) (q := 7) rfl _ wr w.heap.size 40 #[Value.int IntKind.i64 0, Value.int IntKind.i64 0, Value.int IntKind.u16 0, Value.int IntKind.u16 0, Value.int IntKind.u32 0, Value.int IntKind.u32 0, Value.int IntKind.u32 0, Value.int IntKind.u32 0, Value.int IntKind.u32 0, Value.int IntKind.u16 0, Value.int IntKind.u16 0, Value.int IntKind.u32 0, Value.int IntKind.u32 0] (0, 0) _ rfl HRN.out _ rfl Tryd.underlying40 rfl (by kernel_rfl)
          · have hl1 : 600 < V1 := by omega
            clear hlim
            go_wp2_with (go_at_call 56; refine hold ?_)
            refine hid ?_
            refine Calls.mono (number_calls cb 8 4 (some ⟨gb, ob, none⟩) bs HNB.out _ HRB.out HBB.out (by omega) (by omega) (by omega)) ?_
            rintro e wq ⟨rfl, rfl⟩
            rw [HV1.out]
            go_wp2_with (with_reducible refine hold_op (o := ⟨none, _, _, _, _, _⟩) ?_)
            refine hid ?_
            refine wpList_store_row rfl 40 (.tmp 6) (.tmp 79) rfl w.heap.size #[Value.int IntKind.i64 0, Value.int IntKind.i64 0, Value.int IntKind.u16 0, Value.int IntKind.u16 0, Value.int IntKind.u32 0, Value.int IntKind.u32 0, Value.int IntKind.u32 0, Value.int IntKind.u32 0, Value.int IntKind.u32 0, Value.int IntKind.u16 0, Value.int IntKind.u16 0, Value.int IntKind.u32 0, Value.int IntKind.u32 0] rfl rfl 40 _ HRN.out (by kernel_rfl) rfl (by kernel_rfl) ?_
            rw [setRow_self wr w.heap.size #[Value.int IntKind.i64 0, Value.int IntKind.i64 0, Value.int IntKind.u16 0, Value.int IntKind.u16 0, Value.int IntKind.u32 0, Value.int IntKind.u32 0, Value.int IntKind.u32 0, Value.int IntKind.u32 0, Value.int IntKind.u32 0, Value.int IntKind.u16 0, Value.int IntKind.u16 0, Value.int IntKind.u32 0, Value.int IntKind.u32 0] 40 (0, 0) HRN.out]
            go_wp2
            refine bodyPost_ret (v := .tuple #[.agg #[Value.int IntKind.i64 0, Value.int IntKind.i64 0, Value.int IntKind.u16 0, Value.int IntKind.u16 0, Value.int IntKind.u32 0, Value.int IntKind.u32 0, Value.int IntKind.u32 0, Value.int IntKind.u32 0, Value.int IntKind.u32 0, Value.int IntKind.u16 0, Value.int IntKind.u16 0, Value.int IntKind.u32 0, Value.int IntKind.u32 0], .int .i64 6]) ?_ rfl ⟨by rw [HCO.out]; rfl, HBG.out⟩
            exact results_cell_tmp (p := 6) (q := 7) rfl _ wr w.heap.size 40 #[Value.int IntKind.i64 0, Value.int IntKind.i64 0, Value.int IntKind.u16 0, Value.int IntKind.u16 0, Value.int IntKind.u32 0, Value.int IntKind.u32 0, Value.int IntKind.u32 0, Value.int IntKind.u32 0, Value.int IntKind.u32 0, Value.int IntKind.u16 0, Value.int IntKind.u16 0, Value.int IntKind.u32 0, Value.int IntKind.u32 0] (0, 0) _ rfl HRN.out _ rfl Tryd.underlying40 rfl (by kernel_rfl)
        have hm0 : ¬ 1099511627776 < V0 := fun h => hlim (.inl h)
        have hm1 : ¬ 600 < V1 := fun h => hlim (.inr h)
        have HLIM : Box (¬ (1099511627776 < V0 ∨ 600 < V1)) := ⟨hlim⟩
        clear hlim
        have hq0 : 0 ≤ V0 := HY0.out.1
        have hq1 : 0 ≤ V1 := HY1.out.1
        have yl0 : IntKind.i64.wrap V0 = V0 := IntWalk.i64_in _ (by have := HY0.out; omega)
        have yl1 : IntKind.i64.wrap V1 = V1 := IntWalk.i64_in _ (by have := HY1.out; omega)
        have yl2 : IntKind.i64.wrap (now - V0) = now - V0 := IntWalk.i64_in _ (by have := HY0.out; omega)
        go_wp2_with (go_at_call 56; refine hold ?_)
        refine hid ?_
        refine Calls.mono (number_calls cb 8 4 (some ⟨gb, ob, none⟩) bs HNB.out _ HRB.out HBB.out (by omega) (by omega) (by omega)) ?_
        rintro e wq ⟨rfl, rfl⟩
        rw [HV1.out]
        go_wp2_with (go_at_call 56; refine hold ?_)
        refine hid ?_
        refine Calls.mono (number_calls cb 0 8 (some ⟨gb, ob, none⟩) bs HNB.out _ HRB.out HBB.out (by omega) (by omega) (by omega)) ?_
        rintro e wq ⟨rfl, rfl⟩
        rw [HV0.out]
        go_wp2_with (go_at_call 56; refine hold ?_)
        refine hid ?_
        refine Calls.mono (number_calls cb 8 4 (some ⟨gb, ob, none⟩) bs HNB.out _ HRB.out HBB.out (by omega) (by omega) (by omega)) ?_
        rintro e wq ⟨rfl, rfl⟩
        rw [HV1.out]
        go_wp2_with (go_at_call 56; refine hold ?_)
        refine hid ?_
        clear yl0 yl1
        have hE2 : (wr.alloc (.cells #[Value.int IntKind.i64 V0, Value.int IntKind.i64 V1, Value.int IntKind.u16 0, Value.int IntKind.u16 0, Value.int IntKind.u32 0, Value.int IntKind.u32 0, Value.int IntKind.u32 0, Value.int IntKind.u32 0, Value.int IntKind.u32 0, Value.int IntKind.u16 0, Value.int IntKind.u16 0, Value.int IntKind.u32 0, Value.int IntKind.u32 0] 40)).heap[wr.heap.size]? = some (.cells #[Value.int IntKind.i64 V0, Value.int IntKind.i64 V1, Value.int IntKind.u16 0, Value.int IntKind.u16 0, Value.int IntKind.u32 0, Value.int IntKind.u32 0, Value.int IntKind.u32 0, Value.int IntKind.u32 0, Value.int IntKind.u32 0, Value.int IntKind.u16 0, Value.int IntKind.u16 0, Value.int IntKind.u32 0, Value.int IntKind.u32 0] 40 (0, 0)) := heap_alloc_new _ _
        have hP2 : Below wr.heap.size wr (wr.alloc (.cells #[Value.int IntKind.i64 V0, Value.int IntKind.i64 V1, Value.int IntKind.u16 0, Value.int IntKind.u16 0, Value.int IntKind.u32 0, Value.int IntKind.u32 0, Value.int IntKind.u32 0, Value.int IntKind.u32 0, Value.int IntKind.u32 0, Value.int IntKind.u16 0, Value.int IntKind.u16 0, Value.int IntKind.u32 0, Value.int IntKind.u32 0] 40)) := (Below.refl _ _).alloc (Nat.le_refl _) _
        have HE2 := hid hE2; have HP2 := hid hP2
        clear hE2 hP2
        generalize wr.alloc (.cells #[Value.int IntKind.i64 V0, Value.int IntKind.i64 V1, Value.int IntKind.u16 0, Value.int IntKind.u16 0, Value.int IntKind.u32 0, Value.int IntKind.u32 0, Value.int IntKind.u32 0, Value.int IntKind.u32 0, Value.int IntKind.u32 0, Value.int IntKind.u16 0, Value.int IntKind.u16 0, Value.int IntKind.u32 0, Value.int IntKind.u32 0] 40) = n2 at *
        refine Calls.mono (number_calls cb 12 2 (some ⟨gb, ob, none⟩) bs HNB.out _ (HRB.out.below HP2.out) HBB.out (by omega) (by omega) (by omega)) ?_
        rintro e wq ⟨rfl, rfl⟩
        rw [HV2.out]
        have yw : IntKind.u16.wrap V2 = V2 := by have := HY2.out; rw [IntKind.wrap_u16]; omega
        have z0 : n2.cell? ⟨wr.heap.size, 2, none⟩ = some (.int .u16 0) := cellOf HE2.out rfl
        have zf : n2.frozen? ⟨wr.heap.size, 2, none⟩ = false := frozen_of_row _ _ _ _ _ HE2.out
        have HE3 : Hid ((n2.setCell ⟨wr.heap.size, 2, none⟩ (.int .u16 V2)).heap[wr.heap.size]? = some (.cells #[Value.int IntKind.i64 V0, Value.int IntKind.i64 V1, Value.int IntKind.u16 V2, Value.int IntKind.u16 0, Value.int IntKind.u32 0, Value.int IntKind.u32 0, Value.int IntKind.u32 0, Value.int IntKind.u32 0, Value.int IntKind.u32 0, Value.int IntKind.u16 0, Value.int IntKind.u16 0, Value.int IntKind.u32 0, Value.int IntKind.u32 0] 40 (0, 0))) := hid (hs HE2.out)
        have HP3 := hid (HP2.out.setCell (show wr.heap.size ≤ (⟨wr.heap.size, 2, none⟩ : Addr).block from Nat.le_refl _) (.int .u16 V2))
        clear HE2 HP2
        go_wp2_with (go_at_call 56; refine hold ?_)
        refine hid ?_
        clear yw z0 zf
        generalize n2.setCell ⟨wr.heap.size, 2, none⟩ (.int .u16 V2) = n3 at *
        refine Calls.mono (number_calls cb 14 2 (some ⟨gb, ob, none⟩) bs HNB.out _ (HRB.out.below HP3.out) HBB.out (by omega) (by omega) (by omega)) ?_
        rintro e wq ⟨rfl, rfl⟩
        rw [HV3.out]
        have yw : IntKind.u16.wrap V3 = V3 := by have := HY3.out; rw [IntKind.wrap_u16]; omega
        have z0 : n3.cell? ⟨wr.heap.size, 3, none⟩ = some (.int .u16 0) := cellOf HE3.out rfl
        have zf : n3.frozen? ⟨wr.heap.size, 3, none⟩ = false := frozen_of_row _ _ _ _ _ HE3.out
        have HE4 : Hid ((n3.setCell ⟨wr.heap.size, 3, none⟩ (.int .u16 V3)).heap[wr.heap.size]? = some (.cells #[Value.int IntKind.i64 V0, Value.int IntKind.i64 V1, Value.int IntKind.u16 V2, Value.int IntKind.u16 V3, Value.int IntKind.u32 0, Value.int IntKind.u32 0, Value.int IntKind.u32 0, Value.int IntKind.u32 0, Value.int IntKind.u32 0, Value.int IntKind.u16 0, Value.int IntKind.u16 0, Value.int IntKind.u32 0, Value.int IntKind.u32 0] 40 (0, 0))) := hid (hs HE3.out)
        have HP4 := hid (HP3.out.setCell (show wr.heap.size ≤ (⟨wr.heap.size, 3, none⟩ : Addr).block from Nat.le_refl _) (.int .u16 V3))
        clear HE3 HP3
        go_wp2_with (go_at_call 56; refine hold ?_)
        refine hid ?_
        clear yw z0 zf
        generalize n3.setCell ⟨wr.heap.size, 3, none⟩ (.int .u16 V3) = n4 at *
        refine Calls.mono (number_calls cb 16 4 (some ⟨gb, ob, none⟩) bs HNB.out _ (HRB.out.below HP4.out) HBB.out (by omega) (by omega) (by omega)) ?_
        rintro e wq ⟨rfl, rfl⟩
        rw [HV4.out]
        have yw : IntKind.u32.wrap V4 = V4 := by have := HY4.out; rw [IntKind.wrap_u32]; omega
        have z0 : n4.cell? ⟨wr.heap.size, 4, none⟩ = some (.int .u32 0) := cellOf HE4.out rfl
        have zf : n4.frozen? ⟨wr.heap.size, 4, none⟩ = false := frozen_of_row _ _ _ _ _ HE4.out
        have HE5 : Hid ((n4.setCell ⟨wr.heap.size, 4, none⟩ (.int .u32 V4)).heap[wr.heap.size]? = some (.cells #[Value.int IntKind.i64 V0, Value.int IntKind.i64 V1, Value.int IntKind.u16 V2, Value.int IntKind.u16 V3, Value.int IntKind.u32 V4, Value.int IntKind.u32 0, Value.int IntKind.u32 0, Value.int IntKind.u32 0, Value.int IntKind.u32 0, Value.int IntKind.u16 0, Value.int IntKind.u16 0, Value.int IntKind.u32 0, Value.int IntKind.u32 0] 40 (0, 0))) := hid (hs HE4.out)
        have HP5 := hid (HP4.out.setCell (show wr.heap.size ≤ (⟨wr.heap.size, 4, none⟩ : Addr).block from Nat.le_refl _) (.int .u32 V4))
        clear HE4 HP4
        go_wp2_with (go_at_call 56; refine hold ?_)
        refine hid ?_
        clear yw z0 zf
        generalize n4.setCell ⟨wr.heap.size, 4, none⟩ (.int .u32 V4) = n5 at *
        refine Calls.mono (number_calls cb 20 4 (some ⟨gb, ob, none⟩) bs HNB.out _ (HRB.out.below HP5.out) HBB.out (by omega) (by omega) (by omega)) ?_
        rintro e wq ⟨rfl, rfl⟩
        rw [HV5.out]
        have yw : IntKind.u32.wrap V5 = V5 := by have := HY5.out; rw [IntKind.wrap_u32]; omega
        have z0 : n5.cell? ⟨wr.heap.size, 5, none⟩ = some (.int .u32 0) := cellOf HE5.out rfl
        have zf : n5.frozen? ⟨wr.heap.size, 5, none⟩ = false := frozen_of_row _ _ _ _ _ HE5.out
        have HE6 : Hid ((n5.setCell ⟨wr.heap.size, 5, none⟩ (.int .u32 V5)).heap[wr.heap.size]? = some (.cells #[Value.int IntKind.i64 V0, Value.int IntKind.i64 V1, Value.int IntKind.u16 V2, Value.int IntKind.u16 V3, Value.int IntKind.u32 V4, Value.int IntKind.u32 V5, Value.int IntKind.u32 0, Value.int IntKind.u32 0, Value.int IntKind.u32 0, Value.int IntKind.u16 0, Value.int IntKind.u16 0, Value.int IntKind.u32 0, Value.int IntKind.u32 0] 40 (0, 0))) := hid (hs HE5.out)
        have HP6 := hid (HP5.out.setCell (show wr.heap.size ≤ (⟨wr.heap.size, 5, none⟩ : Addr).block from Nat.le_refl _) (.int .u32 V5))
        clear HE5 HP5
        go_wp2_with (go_at_call 56; refine hold ?_)
        refine hid ?_
        clear yw z0 zf
        generalize n5.setCell ⟨wr.heap.size, 5, none⟩ (.int .u32 V5) = n6 at *
        refine Calls.mono (number_calls cb 24 4 (some ⟨gb, ob, none⟩) bs HNB.out _ (HRB.out.below HP6.out) HBB.out (by omega) (by omega) (by omega)) ?_
        rintro e wq ⟨rfl, rfl⟩
        rw [HV6.out]
        have yw : IntKind.u32.wrap V6 = V6 := by have := HY6.out; rw [IntKind.wrap_u32]; omega
        have z0 : n6.cell? ⟨wr.heap.size, 6, none⟩ = some (.int .u32 0) := cellOf HE6.out rfl
        have zf : n6.frozen? ⟨wr.heap.size, 6, none⟩ = false := frozen_of_row _ _ _ _ _ HE6.out
        have HE7 : Hid ((n6.setCell ⟨wr.heap.size, 6, none⟩ (.int .u32 V6)).heap[wr.heap.size]? = some (.cells #[Value.int IntKind.i64 V0, Value.int IntKind.i64 V1, Value.int IntKind.u16 V2, Value.int IntKind.u16 V3, Value.int IntKind.u32 V4, Value.int IntKind.u32 V5, Value.int IntKind.u32 V6, Value.int IntKind.u32 0, Value.int IntKind.u32 0, Value.int IntKind.u16 0, Value.int IntKind.u16 0, Value.int IntKind.u32 0, Value.int IntKind.u32 0] 40 (0, 0))) := hid (hs HE6.out)
        have HP7 := hid (HP6.out.setCell (show wr.heap.size ≤ (⟨wr.heap.size, 6, none⟩ : Addr).block from Nat.le_refl _) (.int .u32 V6))
        clear HE6 HP6
        go_wp2_with (go_at_call 56; refine hold ?_)
        refine hid ?_
        clear yw z0 zf
        generalize n6.setCell ⟨wr.heap.size, 6, none⟩ (.int .u32 V6) = n7 at *
        refine Calls.mono (number_calls cb 28 4 (some ⟨gb, ob, none⟩) bs HNB.out _ (HRB.out.below HP7.out) HBB.out (by omega) (by omega) (by omega)) ?_
        rintro e wq ⟨rfl, rfl⟩
        rw [HV7.out]
        have yw : IntKind.u32.wrap V7 = V7 := by have := HY7.out; rw [IntKind.wrap_u32]; omega
        have z0 : n7.cell? ⟨wr.heap.size, 7, none⟩ = some (.int .u32 0) := cellOf HE7.out rfl
        have zf : n7.frozen? ⟨wr.heap.size, 7, none⟩ = false := frozen_of_row _ _ _ _ _ HE7.out
        have HE8 : Hid ((n7.setCell ⟨wr.heap.size, 7, none⟩ (.int .u32 V7)).heap[wr.heap.size]? = some (.cells #[Value.int IntKind.i64 V0, Value.int IntKind.i64 V1, Value.int IntKind.u16 V2, Value.int IntKind.u16 V3, Value.int IntKind.u32 V4, Value.int IntKind.u32 V5, Value.int IntKind.u32 V6, Value.int IntKind.u32 V7, Value.int IntKind.u32 0, Value.int IntKind.u16 0, Value.int IntKind.u16 0, Value.int IntKind.u32 0, Value.int IntKind.u32 0] 40 (0, 0))) := hid (hs HE7.out)
        have HP8 := hid (HP7.out.setCell (show wr.heap.size ≤ (⟨wr.heap.size, 7, none⟩ : Addr).block from Nat.le_refl _) (.int .u32 V7))
        clear HE7 HP7
        go_wp2_with (go_at_call 56; refine hold ?_)
        refine hid ?_
        clear yw z0 zf
        generalize n7.setCell ⟨wr.heap.size, 7, none⟩ (.int .u32 V7) = n8 at *
        refine Calls.mono (number_calls cb 32 4 (some ⟨gb, ob, none⟩) bs HNB.out _ (HRB.out.below HP8.out) HBB.out (by omega) (by omega) (by omega)) ?_
        rintro e wq ⟨rfl, rfl⟩
        rw [HV8.out]
        have yw : IntKind.u32.wrap V8 = V8 := by have := HY8.out; rw [IntKind.wrap_u32]; omega
        have z0 : n8.cell? ⟨wr.heap.size, 8, none⟩ = some (.int .u32 0) := cellOf HE8.out rfl
        have zf : n8.frozen? ⟨wr.heap.size, 8, none⟩ = false := frozen_of_row _ _ _ _ _ HE8.out
        have HE9 : Hid ((n8.setCell ⟨wr.heap.size, 8, none⟩ (.int .u32 V8)).heap[wr.heap.size]? = some (.cells #[Value.int IntKind.i64 V0, Value.int IntKind.i64 V1, Value.int IntKind.u16 V2, Value.int IntKind.u16 V3, Value.int IntKind.u32 V4, Value.int IntKind.u32 V5, Value.int IntKind.u32 V6, Value.int IntKind.u32 V7, Value.int IntKind.u32 V8, Value.int IntKind.u16 0, Value.int IntKind.u16 0, Value.int IntKind.u32 0, Value.int IntKind.u32 0] 40 (0, 0))) := hid (hs HE8.out)
        have HP9 := hid (HP8.out.setCell (show wr.heap.size ≤ (⟨wr.heap.size, 8, none⟩ : Addr).block from Nat.le_refl _) (.int .u32 V8))
        clear HE8 HP8
        go_wp2_with (go_at_call 56; refine hold ?_)
        refine hid ?_
        clear yw z0 zf
        generalize n8.setCell ⟨wr.heap.size, 8, none⟩ (.int .u32 V8) = n9 at *
        refine Calls.mono (number_calls cb 36 2 (some ⟨gb, ob, none⟩) bs HNB.out _ (HRB.out.below HP9.out) HBB.out (by omega) (by omega) (by omega)) ?_
        rintro e wq ⟨rfl, rfl⟩
        rw [HV9.out]
        have yw : IntKind.u16.wrap V9 = V9 := by have := HY9.out; rw [IntKind.wrap_u16]; omega
        have z0 : n9.cell? ⟨wr.heap.size, 9, none⟩ = some (.int .u16 0) := cellOf HE9.out rfl
        have zf : n9.frozen? ⟨wr.heap.size, 9, none⟩ = false := frozen_of_row _ _ _ _ _ HE9.out
        have HE10 : Hid ((n9.setCell ⟨wr.heap.size, 9, none⟩ (.int .u16 V9)).heap[wr.heap.size]? = some (.cells #[Value.int IntKind.i64 V0, Value.int IntKind.i64 V1, Value.int IntKind.u16 V2, Value.int IntKind.u16 V3, Value.int IntKind.u32 V4, Value.int IntKind.u32 V5, Value.int IntKind.u32 V6, Value.int IntKind.u32 V7, Value.int IntKind.u32 V8, Value.int IntKind.u16 V9, Value.int IntKind.u16 0, Value.int IntKind.u32 0, Value.int IntKind.u32 0] 40 (0, 0))) := hid (hs HE9.out)
        have HP10 := hid (HP9.out.setCell (show wr.heap.size ≤ (⟨wr.heap.size, 9, none⟩ : Addr).block from Nat.le_refl _) (.int .u16 V9))
        clear HE9 HP9
        go_wp2_with (go_at_call 56; refine hold ?_)
        refine hid ?_
        clear yw z0 zf
        generalize n9.setCell ⟨wr.heap.size, 9, none⟩ (.int .u16 V9) = n10 at *
        refine Calls.mono (number_calls cb 38 2 (some ⟨gb, ob, none⟩) bs HNB.out _ (HRB.out.below HP10.out) HBB.out (by omega) (by omega) (by omega)) ?_
        rintro e wq ⟨rfl, rfl⟩
        rw [HV10.out]
        have yw : IntKind.u16.wrap V10 = V10 := by have := HY10.out; rw [IntKind.wrap_u16]; omega
        have z0 : n10.cell? ⟨wr.heap.size, 10, none⟩ = some (.int .u16 0) := cellOf HE10.out rfl
        have zf : n10.frozen? ⟨wr.heap.size, 10, none⟩ = false := frozen_of_row _ _ _ _ _ HE10.out
        have HE11 : Hid ((n10.setCell ⟨wr.heap.size, 10, none⟩ (.int .u16 V10)).heap[wr.heap.size]? = some (.cells #[Value.int IntKind.i64 V0, Value.int IntKind.i64 V1, Value.int IntKind.u16 V2, Value.int IntKind.u16 V3, Value.int IntKind.u32 V4, Value.int IntKind.u32 V5, Value.int IntKind.u32 V6, Value.int IntKind.u32 V7, Value.int IntKind.u32 V8, Value.int IntKind.u16 V9, Value.int IntKind.u16 V10, Value.int IntKind.u32 0, Value.int IntKind.u32 0] 40 (0, 0))) := hid (hs HE10.out)
        have HP11 := hid (HP10.out.setCell (show wr.heap.size ≤ (⟨wr.heap.size, 10, none⟩ : Addr).block from Nat.le_refl _) (.int .u16 V10))
        clear HE10 HP10
        go_wp2_with (go_at_call 56; refine hold ?_)
        refine hid ?_
        clear yw z0 zf
        generalize n10.setCell ⟨wr.heap.size, 10, none⟩ (.int .u16 V10) = n11 at *
        refine Calls.mono (number_calls cb 40 4 (some ⟨gb, ob, none⟩) bs HNB.out _ (HRB.out.below HP11.out) HBB.out (by omega) (by omega) (by omega)) ?_
        rintro e wq ⟨rfl, rfl⟩
        rw [HV11.out]
        have yw : IntKind.u32.wrap V11 = V11 := by have := HY11.out; rw [IntKind.wrap_u32]; omega
        have z0 : n11.cell? ⟨wr.heap.size, 11, none⟩ = some (.int .u32 0) := cellOf HE11.out rfl
        have zf : n11.frozen? ⟨wr.heap.size, 11, none⟩ = false := frozen_of_row _ _ _ _ _ HE11.out
        have HE12 : Hid ((n11.setCell ⟨wr.heap.size, 11, none⟩ (.int .u32 V11)).heap[wr.heap.size]? = some (.cells #[Value.int IntKind.i64 V0, Value.int IntKind.i64 V1, Value.int IntKind.u16 V2, Value.int IntKind.u16 V3, Value.int IntKind.u32 V4, Value.int IntKind.u32 V5, Value.int IntKind.u32 V6, Value.int IntKind.u32 V7, Value.int IntKind.u32 V8, Value.int IntKind.u16 V9, Value.int IntKind.u16 V10, Value.int IntKind.u32 V11, Value.int IntKind.u32 0] 40 (0, 0))) := hid (hs HE11.out)
        have HP12 := hid (HP11.out.setCell (show wr.heap.size ≤ (⟨wr.heap.size, 11, none⟩ : Addr).block from Nat.le_refl _) (.int .u32 V11))
        clear HE11 HP11
        go_wp2_with (go_at_call 56; refine hold ?_)
        refine hid ?_
        clear yw z0 zf
        generalize n11.setCell ⟨wr.heap.size, 11, none⟩ (.int .u32 V11) = n12 at *
        refine Calls.mono (number_calls cb 44 4 (some ⟨gb, ob, none⟩) bs HNB.out _ (HRB.out.below HP12.out) HBB.out (by omega) (by omega) (by omega)) ?_
        rintro e wq ⟨rfl, rfl⟩
        rw [HV12.out]
        have yw : IntKind.u32.wrap V12 = V12 := by have := HY12.out; rw [IntKind.wrap_u32]; omega
        have z0 : n12.cell? ⟨wr.heap.size, 12, none⟩ = some (.int .u32 0) := cellOf HE12.out rfl
        have zf : n12.frozen? ⟨wr.heap.size, 12, none⟩ = false := frozen_of_row _ _ _ _ _ HE12.out
        have HE13 : Hid ((n12.setCell ⟨wr.heap.size, 12, none⟩ (.int .u32 V12)).heap[wr.heap.size]? = some (.cells #[Value.int IntKind.i64 V0, Value.int IntKind.i64 V1, Value.int IntKind.u16 V2, Value.int IntKind.u16 V3, Value.int IntKind.u32 V4, Value.int IntKind.u32 V5, Value.int IntKind.u32 V6, Value.int IntKind.u32 V7, Value.int IntKind.u32 V8, Value.int IntKind.u16 V9, Value.int IntKind.u16 V10, Value.int IntKind.u32 V11, Value.int IntKind.u32 V12] 40 (0, 0))) := hid (hs HE12.out)
        have HP13 := hid (HP12.out.setCell (show wr.heap.size ≤ (⟨wr.heap.size, 12, none⟩ : Addr).block from Nat.le_refl _) (.int .u32 V12))
        clear HE12 HP12
        go_wp2_with (with_reducible refine hold_op (o := ⟨some 133, _, _, _, _, _⟩) ?_)
        refine hid ?_
        clear yw z0 zf
        generalize n12.setCell ⟨wr.heap.size, 12, none⟩ (.int .u32 V12) = n13 at *
        have x0 : n13.cell? ⟨wr.heap.size, 0, none⟩ = some (.int .i64 V0) := cellOf HE13.out rfl
        have x1 : n13.cell? ⟨wr.heap.size, 1, none⟩ = some (.int .i64 V1) := cellOf HE13.out rfl
        have HRo := hid ((HP13.out.block _ (lt_of_block HRN.out)).trans HRN.out)
        have HBo := hid (below_then HBG.out HP13.out)
        by_cases hst : now < V0 ∨ V0 + V1 < now
        · have HCO : Box (rkOpen L bs now = (Ck.none, 8)) := ⟨by
            unfold rkOpen
            rw [if_neg HA.out, if_neg (by rw [HNB.out]; simp), if_neg HM1.out, if_neg (by rw [HV13.out]; simp), if_neg (by rw [HV0.out, HV1.out]; exact HLIM.out), if_pos (by rw [HV0.out, HV1.out]; exact hst)]⟩
          by_cases hs0 : now < V0
          · clear hst
            go_wp2_with (with_reducible refine hold_op (o := ⟨none, _, _, _, _, _⟩) ?_)
            refine hid ?_
            refine wpList_store_row rfl 40 (.tmp 6) (.tmp 144) rfl w.heap.size #[Value.int IntKind.i64 0, Value.int IntKind.i64 0, Value.int IntKind.u16 0, Value.int IntKind.u16 0, Value.int IntKind.u32 0, Value.int IntKind.u32 0, Value.int IntKind.u32 0, Value.int IntKind.u32 0, Value.int IntKind.u32 0, Value.int IntKind.u16 0, Value.int IntKind.u16 0, Value.int IntKind.u32 0, Value.int IntKind.u32 0] rfl rfl 40 _ HRo.out (by kernel_rfl) rfl (by kernel_rfl) ?_
            rw [setRow_self n13 w.heap.size #[Value.int IntKind.i64 0, Value.int IntKind.i64 0, Value.int IntKind.u16 0, Value.int IntKind.u16 0, Value.int IntKind.u32 0, Value.int IntKind.u32 0, Value.int IntKind.u32 0, Value.int IntKind.u32 0, Value.int IntKind.u32 0, Value.int IntKind.u16 0, Value.int IntKind.u16 0, Value.int IntKind.u32 0, Value.int IntKind.u32 0] 40 (0, 0) HRo.out]
            go_wp2
            refine bodyPost_ret (v := .tuple #[.agg #[Value.int IntKind.i64 0, Value.int IntKind.i64 0, Value.int IntKind.u16 0, Value.int IntKind.u16 0, Value.int IntKind.u32 0, Value.int IntKind.u32 0, Value.int IntKind.u32 0, Value.int IntKind.u32 0, Value.int IntKind.u32 0, Value.int IntKind.u16 0, Value.int IntKind.u16 0, Value.int IntKind.u32 0, Value.int IntKind.u32 0], .int .i64 8]) ?_ rfl ⟨by rw [HCO.out]; rfl, HBo.out⟩
            exact results_cell_tmp (p := 6) (q := 7) rfl _ n13 w.heap.size 40 #[Value.int IntKind.i64 0, Value.int IntKind.i64 0, Value.int IntKind.u16 0, Value.int IntKind.u16 0, Value.int IntKind.u32 0, Value.int IntKind.u32 0, Value.int IntKind.u32 0, Value.int IntKind.u32 0, Value.int IntKind.u32 0, Value.int IntKind.u16 0, Value.int IntKind.u16 0, Value.int IntKind.u32 0, Value.int IntKind.u32 0] (0, 0) _ rfl HRo.out _ rfl Tryd.underlying40 rfl (by kernel_rfl)
          · have hs1 : V1 < now - V0 := by omega
            clear hst
            go_wp2_with (with_reducible refine hold_op (o := ⟨none, _, _, _, _, _⟩) ?_)
            refine hid ?_
            refine wpList_store_row rfl 40 (.tmp 6) (.tmp 144) rfl w.heap.size #[Value.int IntKind.i64 0, Value.int IntKind.i64 0, Value.int IntKind.u16 0, Value.int IntKind.u16 0, Value.int IntKind.u32 0, Value.int IntKind.u32 0, Value.int IntKind.u32 0, Value.int IntKind.u32 0, Value.int IntKind.u32 0, Value.int IntKind.u16 0, Value.int IntKind.u16 0, Value.int IntKind.u32 0, Value.int IntKind.u32 0] rfl rfl 40 _ HRo.out (by kernel_rfl) rfl (by kernel_rfl) ?_
            rw [setRow_self n13 w.heap.size #[Value.int IntKind.i64 0, Value.int IntKind.i64 0, Value.int IntKind.u16 0, Value.int IntKind.u16 0, Value.int IntKind.u32 0, Value.int IntKind.u32 0, Value.int IntKind.u32 0, Value.int IntKind.u32 0, Value.int IntKind.u32 0, Value.int IntKind.u16 0, Value.int IntKind.u16 0, Value.int IntKind.u32 0, Value.int IntKind.u32 0] 40 (0, 0) HRo.out]
            go_wp2
            refine bodyPost_ret (v := .tuple #[.agg #[Value.int IntKind.i64 0, Value.int IntKind.i64 0, Value.int IntKind.u16 0, Value.int IntKind.u16 0, Value.int IntKind.u32 0, Value.int IntKind.u32 0, Value.int IntKind.u32 0, Value.int IntKind.u32 0, Value.int IntKind.u32 0, Value.int IntKind.u16 0, Value.int IntKind.u16 0, Value.int IntKind.u32 0, Value.int IntKind.u32 0], .int .i64 8]) ?_ rfl ⟨by rw [HCO.out]; rfl, HBo.out⟩
            exact results_cell_tmp (p := 6) (q := 7) rfl _ n13 w.heap.size 40 #[Value.int IntKind.i64 0, Value.int IntKind.i64 0, Value.int IntKind.u16 0, Value.int IntKind.u16 0, Value.int IntKind.u32 0, Value.int IntKind.u32 0, Value.int IntKind.u32 0, Value.int IntKind.u32 0, Value.int IntKind.u32 0, Value.int IntKind.u16 0, Value.int IntKind.u16 0, Value.int IntKind.u32 0, Value.int IntKind.u32 0] (0, 0) _ rfl HRo.out _ rfl Tryd.underlying40 rfl (by kernel_rfl)
        have HCO : Box (rkOpen L bs now = (Ck.mk V0 V1 V2 V3 V4 V5 V6 V7 V8 V9 V10 V11 V12, 0)) := ⟨by
          unfold rkOpen
          rw [if_neg HA.out, if_neg (by rw [HNB.out]; simp), if_neg HM1.out, if_neg (by rw [HV13.out]; simp), if_neg (by rw [HV0.out, HV1.out]; exact HLIM.out), if_neg (by rw [HV0.out, HV1.out]; exact hst), HCK.out]⟩
        have hs0 : ¬ now < V0 := fun h => hst (.inl h)
        have hs1 : ¬ V1 < now - V0 := fun h => hst (.inr (by omega))
        clear hst
        go_wp2_with (with_reducible refine hold_op (o := ⟨some 145, _, _, _, _, _⟩) ?_)
        refine hid ?_
        clear x0 x1
        refine wpList_load_row rfl 40 (.tmp 11) rfl wr.heap.size rfl 40 _ (0, 0) _ HE13.out Tryd.underlying40 rfl (by kernel_rfl) ?_
        refine wpList_store_row rfl 40 (.tmp 6) (.tmp 145) rfl w.heap.size (Ck.mk V0 V1 V2 V3 V4 V5 V6 V7 V8 V9 V10 V11 V12).cells rfl rfl 40 _ HRo.out (by kernel_rfl) rfl (by simp [Ck.cells, Value.oneCell']) ?_
        have HZ := hid (setRow_heap n13 w.heap.size _ (Ck.mk V0 V1 V2 V3 V4 V5 V6 V7 V8 V9 V10 V11 V12).cells 40 _ HRo.out)
        have HBz := hid (below_setRow HBo.out (Nat.le_refl _) (Ck.mk V0 V1 V2 V3 V4 V5 V6 V7 V8 V9 V10 V11 V12).cells)
        clear HRo HBo HE13
        generalize n13.setRow w.heap.size (Ck.mk V0 V1 V2 V3 V4 V5 V6 V7 V8 V9 V10 V11 V12).cells = n16 at *
        dsimp only [Act.put]
        go_wp2
        refine bodyPost_ret (v := .tuple #[.agg (Ck.mk V0 V1 V2 V3 V4 V5 V6 V7 V8 V9 V10 V11 V12).cells, .int .i64 0]) ?_ rfl ⟨by rw [HCO.out], HBz.out⟩
        exact results_cell_tmp (p := 6) (q := 7) rfl _ n16 w.heap.size 40 (Ck.mk V0 V1 V2 V3 V4 V5 V6 V7 V8 V9 V10 V11 V12).cells (0, 0) _ rfl HZ.out _ rfl Tryd.underlying40 rfl (by kernel_rfl)

end Go.Proofs.YtaieajfgcnaedaaDoor
