/-
  LAYER 6, WALKS: the law's deeds on a pair of keys: Open of what was sealed last, of what another secret seals; do.
-/
import Derived.Test.YtaieajfgcnaedaaDoorRefJ
set_option linter.unusedVariables false
set_option linter.unusedSimpArgs false
namespace Go.Proofs.YtaieajfgcnaedaaDoor
open Go.RowKit

set_option maxHeartbeats 12800000 in
set_option maxRecDepth 100000 in
theorem pdo3 (p gx gy : Nat) (d : Dd) (D : Array Value) (A : Option Addr) (c : Nat) (hD : DCells D d A c) (hk : d.k = 3) (sec frm : List Int) (two : Bool) (L : List (List Int)) (last : List Int) (w : World) (hT : Tab w) (hP : PSt w p gx gy sec frm two L last) (hL : L.length ≤ 999) (hd : DOk w d A c) :
    Calls Tryd.prog 32 #[.pointer (some ⟨p, 0, none⟩), .agg D] w (Done p gx gy L.length w) := by
  obtain ⟨k, bs, ck, now, at_, by_, back⟩ := d
  simp only at hk
  subst hk
  have HP := hid hP; have HL := hid hL; have HT := hid hT
  have hB1 : Below w.heap.size w (w.alloc (.cells D 64)) := (Below.refl _ _).alloc (Nat.le_refl _) _
  have HD := hid (DBlk.new hD w 64); have HO := hid (hd.below hB1); have HB1 := hid hB1
  have y0 := HD.out.c0
  simp only at y0
  have hbl : bs.length ≤ 140737488351232 := Nat.le_trans hd.lc hd.cm
  have hlc : bs.length ≤ c := hd.lc
  have hcm : c ≤ 140737488351232 := hd.cm
  obtain ⟨A0', c0', k0, hRl, hAl⟩ := hP.blk
  have HK0 := hid k0; have HNE := hid hP.ne; have HRL := hid hRl; have HAL := hid hAl; have HNI := hid hP.noInt
  have y2 : ((w.alloc (.cells D 64)).alloc (.cells #[] 5)).cell? ⟨p, 2, none⟩ = some (.slice A0' last.length c0') :=
    ((hB1.trans ((Below.refl _ _).alloc (by simp) _)).cell (p := ⟨p, 2, none⟩) (lt_of_block k0)).trans (cellOf k0 rfl)
  have HBL := hid hP.bl
  have hll := hP.ll
  have hs1 : (w.alloc (.cells D 64)).heap.size = w.heap.size + 1 := by simp
  have HS1 := hid hs1
  have hca : (0 : Int) ≤ at_ := hd.at_.1
  have hcb : at_ < 256 := hd.at_.2
  have hby0 := hd.bb.1
  clear hP hL hd hD k0 hB1 hRl hAl hT hs1
  go_enter Tryd.func32, Tryd.ntmps32
  go_wp2_with (at_builtin; refine hold ?_)
  refine hid ?_
  generalize w.alloc (.cells D 64) = w1 at *
  rw [← HS1.out]
  refine wpList_app2 rfl (.tmp 99) (.tmp 103) 22 5 .u8 1 rfl elemB w1.heap.size (.slice (some ⟨w1.heap.size, 0, none⟩) 0 0) [] rfl (Own.lit w1 5 .u8 w1.heap.size (Nat.le_refl _) [] #[] 0 rfl rfl (by decide)) A0' c0' last.length last rfl rfl HAL.out ((HRL.out.below HB1.out).below ((Below.refl _ _).alloc (Nat.le_refl _) _)) (by simp; omega) (by simp [maxLen]; omega) (by simp) ?_
  intro v3 w3 ho3 hg3 hat3
  rw [List.nil_append] at ho3
  have hb3 : Below w1.heap.size w1 w3 := ((Below.refl w1.heap.size w1).alloc (Nat.le_refl _) _).grown hg3 (by simp) (fun q hq => Nat.le_of_eq (Option.some.inj hq))
  obtain ⟨A3, c3, rfl, hA3, hR3, hz3⟩ := ho3.rd (by omega)
  have HO3 := hid ho3; have HR3 := hid hR3; have HA3 := hid hA3; have HZ3 := hid hz3
  have HB3 := hid (below_then HB1.out hb3)
  have HD3 := hid (HD.out.below hb3)
  have HCP := hid ho3.caps
  clear ho3 hg3 hat3 hR3 hA3 hz3 y0 y2 HD HO
  by_cases hl0 : last.length = 0
  · have hz : ¬ (0 : Int) < (last.length : Int) := by omega
    have y5 := HD3.out.c15
    simp only at y5
    clear hl0
    go_wp2_with (go_at_call 49; refine hold ?_)
    refine hid ?_
    clear y5 hz
    refine Calls.mono (popen_calls p gx gy last.length c3 A3 last sec frm two L last now w3 (HT.out.below HB3.out) (HP.out.below HB3.out) (by have := HL.out; omega) rfl HR3.out HA3.out HBL.out HCP.out.1 HCP.out.2 (by omega)) ?_
    rintro e w4 ⟨rfl, hb⟩
    have HB4 := hid (below_then HB3.out hb)
    clear hb
    go_wp2
    go_ret
    exact ⟨rfl, ⟨_, _, _, _, _, HP.out.below HB4.out, by omega⟩, Kept3.of_below HB4.out⟩
  · have hz : (0 : Int) < (last.length : Int) := by omega
    have hnz : ¬ (last.length : Int) = 0 := by omega
    have hm0 := Int.emod_nonneg at_ hnz
    have hm1 := Int.emod_lt_of_pos at_ hz
    obtain ⟨j, hj⟩ := Int.eq_ofNat_of_zero_le hm0
    rw [hj] at hm0 hm1
    have hjn : j < last.length := by omega
    have ht : at_.tmod (last.length : Int) = (j : Int) := by rw [Int.tmod_eq_emod_of_nonneg hca]; exact hj
    have hjw : IntKind.i64.wrap (j : Int) = (j : Int) := IntWalk.i64_in _ (by omega)
    obtain ⟨q, oq, rfl, hql⟩ := HR3.out.form j hjn
    obtain rfl : oq = 0 := (HZ3.out q oq rfl).2
    have hqb := (HZ3.out q 0 rfl).1
    have cx := HO3.out.cell j hjn
    have fx := HO3.out.free j
    obtain ⟨b, hb⟩ := Int.eq_ofNat_of_zero_le hby0
    subst hb
    have hx16 : bits .xor .u8 (last.getD j 0) (b : Int) = xorI (last.getD j 0) (b : Int) := xorI_eq _ b (HBL.out.at_ j).1
    have hst := HO3.out.set j hjn (xorI (last.getD j 0) (b : Int))
    have hBs : Below w1.heap.size w1 (w3.setCell ⟨q, j, none⟩ (.int .u8 (xorI (last.getD j 0) (b : Int)))) := hb3.setCell hqb _
    have HST := hid hst
    have HBS := hid (below_then HB1.out hBs)
    have HBY := hid (bytes_set HBL.out j (xor_byte (last.getD j 0) (b : Int)))
    have hsl : (last.set j (xorI (last.getD j 0) (b : Int))).length = last.length := List.length_set
    have HSL := hid hsl
    have h16 := HD3.out.c16
    have h17 := HD3.out.c17
    simp only at h16 h17
    have hd3 : ∀ W : World, W.heap[w.heap.size]? = w3.heap[w.heap.size]? → w3.heap.size ≤ W.heap.size → W.cell? ⟨w.heap.size, 15, none⟩ = some (.int .i64 now) := fun W h1 h2 => (HD3.out.keep h2 h1).c15
    have hdq : (w3.setCell ⟨q, j, none⟩ (.int .u8 (xorI (last.getD j 0) (b : Int)))).heap[w.heap.size]? = w3.heap[w.heap.size]? := Below.heap_setCell _ _ _ _ (show w.heap.size ≠ q by have := HS1.out; omega)
    have h15 := hd3 _ hdq (by simp [World.setCell])
    have H15 := hid h15
    have hwa : IntKind.i64.wrap at_ = at_ := IntWalk.i64_in _ (by omega)
    clear hst hBs hsl hd3 hdq hca hcb hb3 hql hqb h15
    generalize last.set j (xorI (last.getD j 0) (b : Int)) = ys at *
    generalize last.getD j 0 = x at *
    clear hl0
    generalize hnl : last.length = n at *
    clear hnl
    have hn0 : ¬ n = 0 := by omega
    go_wp2_with fail
    refine wp_region_still_tail 13 (by kernel_rfl) (by kernel_rfl) ?_
    simp only [List.take_succ_cons, List.take_zero, List.drop_succ_cons, List.drop_zero]
    change wpStill _ _ w3.drew _ _ _
    repeat still_step
    refine wpStill_nil ?_
    have y15 : (w3.setCell ⟨q, j, none⟩ (.int .u8 (xorI x (b : Int)))).drew.cell? ⟨w.heap.size, 15, none⟩ = some (.int .i64 now) := H15.out
    go_wp2_with (go_at_call 49; refine hold ?_)
    refine hid ?_
    clear h16 h17 cx fx hx16 hwa ht hjw y15 H15
    have HR4 := hid (HST.out.rd' (by rw [HSL.out]; omega))
    have HBD : Hid (Below w.heap.size w (w3.setCell ⟨q, j, none⟩ (.int .u8 (xorI x (b : Int)))).drew) := hid HBS.out.drew
    have HR5 : Hid (Rd (w3.setCell ⟨q, j, none⟩ (.int .u8 (xorI x (b : Int)))).drew .u8 (some ⟨q, 0, none⟩) ys) := hid (HR4.out.below (Below.refl _ _).drew)
    generalize (w3.setCell ⟨q, j, none⟩ (.int .u8 (xorI x (b : Int)))).drew = w4 at *
    refine Calls.mono (popen_calls p gx gy n c3 (some ⟨q, 0, none⟩) ys sec frm two L last now w4 (HT.out.below HBD.out) (HP.out.below HBD.out) (by have := HL.out; omega) HSL.out HR5.out (fun h => by simp at h) HBY.out HCP.out.1 HCP.out.2 (by omega)) ?_
    rintro e w5 ⟨rfl, hb⟩
    have HB5 := hid (below_then HBD.out hb)
    clear hb
    go_wp2
    go_ret
    exact ⟨rfl, ⟨_, _, _, _, _, HP.out.below HB5.out, by omega⟩, Kept3.of_below HB5.out⟩
set_option maxHeartbeats 12800000 in
set_option maxRecDepth 100000 in
theorem pdo4 (p gx gy : Nat) (d : Dd) (D : Array Value) (A : Option Addr) (c : Nat) (hD : DCells D d A c) (hk : ¬ d.k = 0 ∧ ¬ d.k = 1 ∧ ¬ d.k = 2 ∧ ¬ d.k = 3) (sec frm : List Int) (two : Bool) (L : List (List Int)) (last : List Int) (w : World) (hT : Tab w) (hP : PSt w p gx gy sec frm two L last) (hL : L.length ≤ 999) (hd : DOk w d A c) :
    Calls Tryd.prog 32 #[.pointer (some ⟨p, 0, none⟩), .agg D] w (Done p gx gy L.length w) := by
  obtain ⟨k, bs, ck, now, at_, by_, back⟩ := d
  simp only at hk
  obtain ⟨z0, z1, z2, z3⟩ := hk
  have HP := hid hP; have HL := hid hL; have HT := hid hT
  have hB1 : Below w.heap.size w (w.alloc (.cells D 64)) := (Below.refl _ _).alloc (Nat.le_refl _) _
  have HD := hid (DBlk.new hD w 64); have HO := hid (hd.below hB1); have HB1 := hid hB1
  have y0 := HD.out.c0
  simp only at y0
  have hbl : bs.length ≤ 140737488351232 := Nat.le_trans hd.lc hd.cm
  have hlc : bs.length ≤ c := hd.lc
  have hcm : c ≤ 140737488351232 := hd.cm
  obtain ⟨A0', c0', k0, hRl, hAl⟩ := hP.blk
  have HK0 := hid k0; have HNE := hid hP.ne; have HRL := hid hRl; have HAL := hid hAl; have HNI := hid hP.noInt
  have hbk0 := hd.bk.1
  have hbk1 := hd.bk.2
  simp only at hbk0 hbk1
  have hxl : gx < w.heap.size := hP.kx.lt
  have hyl : gy < w.heap.size := hP.ky.lt
  have HCKO := hid HO.out.ck
  have HKY := hid (hP.ky.below hB1)
  obtain ⟨v, row, base, k1, k2, k3⟩ := HKY.out.ex
  obtain ⟨A1, c1, rfl, hA1, hV1, hz1⟩ := k2.rd
  have hrl := Sls.len k3
  obtain ⟨m, hm⟩ : ∃ m, m = L.length := ⟨_, rfl⟩
  rw [← hm] at hrl
  rw [hrl] at k1
  obtain ⟨M0, hM0⟩ := hP.lk.last
  have hm1 : 1 ≤ m := by rw [hm, hM0]; simp
  have hm9 : m ≤ 999 := by rw [hm]; exact HL.out
  have hnz : ¬ (m : Int) = 0 := by omega
  have hq0 := Int.emod_nonneg back hnz
  have hq1 := Int.emod_lt_of_pos back (show (0 : Int) < (m : Int) by omega)
  obtain ⟨j, hj⟩ := Int.eq_ofNat_of_zero_le hq0
  rw [hj] at hq0 hq1
  have ht : back.tmod (m : Int) = (j : Int) := by rw [Int.tmod_eq_emod_of_nonneg hbk0]; exact hj
  obtain ⟨i, hi⟩ : ∃ i : Nat, (i : Int) = (m : Int) - 1 - (j : Int) := ⟨m - 1 - j, by omega⟩
  have him : i < m := by omega
  have hw1 : IntKind.i64.wrap ((m : Int) - 1) = (m : Int) - 1 := IntWalk.i64_in _ (by omega)
  have hw2 : IntKind.i64.wrap ((m : Int) - 1 - (j : Int)) = (i : Int) := by rw [hi]; exact IntWalk.i64_in _ (by omega)
  have hw3 : IntKind.i64.wrap back = back := IntWalk.i64_in _ (by omega)
  obtain ⟨u, hu, hsl⟩ := Sls.at_ k3 i (by rw [← hm]; exact him)
  obtain ⟨b1, o1, rfl, hb1, hcell⟩ := hV1.at_ i (by rw [hrl]; exact him)
  obtain rfl : o1 = 0 := (hz1 b1 o1 rfl).2
  rw [Nat.zero_add] at hcell
  have hcu : (w.alloc (.cells D 64)).cell? ⟨b1, i, none⟩ = some u := by
    rw [hcell]
    rw [List.getElem?_eq_getElem (by rw [hrl]; exact him)] at hu
    exact hu
  obtain ⟨Ax, cx, rfl, hRx, hAx, hBx, hlx⟩ := hsl
  generalize L[i]'(by rw [← hm]; exact him) = x at *
  have hckz : ck.cells.toList.length = 13 := by rw [Array.length_toList]; exact Ck.size ck
  have hs1 : (w.alloc (.cells D 64)).heap.size = w.heap.size + 1 := by simp
  have hS : ∀ W : World, Below (w.alloc (.cells D 64)).heap.size (w.alloc (.cells D 64)) W → W.cell? ⟨p, 1, none⟩ = some (.pointer (some ⟨gy, 0, none⟩)) ∧ W.cell? ⟨gy, 0, none⟩ = some (.slice (some ⟨b1, 0, none⟩) m c1) ∧ W.cell? ⟨b1, i, none⟩ = some (.slice Ax x.length cx) ∧ W.rangeAt w.heap.size 2 ck.cells.toList ∧ W.cell? ⟨w.heap.size, 6 + 12, none⟩ = some (.int .u8 back) := fun W h => by
    have hW := below_then hB1 h
    have hp : W.heap[p]? = _ := (hW.block p (lt_of_block HK0.out)).trans HK0.out
    have hg : W.heap[gy]? = _ := (h.block gy (lt_of_block k1)).trans k1
    exact ⟨cellOf hp rfl, cellOf hg rfl, (h.cell (p := ⟨b1, i, none⟩) hb1).trans hcu, (HD.out.below h).ck, (HD.out.below h).c18⟩
  have HSS := hid hS
  have hx0 := hS _ (Below.refl _ _)
  have hYS : Box (∀ W g, RSt W g [x] → Calls Tryd.prog 48 #[.pointer (some ⟨g, 0, none⟩), .agg ck.cells] W (Sealed (sealB ck x) (sealE ck) W)) := ⟨fun W g h2 => yseal_any g ck HCKO.out [] x (by simp) W h2⟩
  have hbl2 := sealB_len ck x
  have HSB := hid (sealB_bytes ck x)
  generalize sealB ck x = B at *
  generalize sealE ck = E at *
  have HRX := hid hRx; have HAX := hid hAx; have HBX := hid hBx; have HLX := hid hlx
  generalize ck.cells = R at *
  have hi0 : (0 : Int) ≤ (i : Int) := by omega
  have hmn : ¬ m = 0 := by omega
  have hi1 : (i : Int) < (m : Int) := by omega
  clear hP hL hd hD k0 hRl hAl hT hS k1 k2 k3 hA1 hV1 hz1 hrl hcell hcu hb1 hu hm hM0 hRx hAx hBx hlx hq0 hq1 hj hi
  go_enter Tryd.func32, Tryd.ntmps32
  go_wp2_with fail
  generalize w.alloc (.cells D 64) = w1 at *
  refine wp_region_held_drew (S := fun W => W.cell? ⟨p, 1, none⟩ = some (.pointer (some ⟨gy, 0, none⟩)) ∧ W.cell? ⟨gy, 0, none⟩ = some (.slice (some ⟨b1, 0, none⟩) m c1) ∧ W.cell? ⟨b1, i, none⟩ = some (.slice Ax x.length cx) ∧ W.rangeAt w.heap.size 2 R.toList ∧ W.cell? ⟨w.heap.size, 6 + 12, none⟩ = some (.int .u8 back)) (by kernel_rfl) hx0 (fun hHeld => ?_)
  refine wpAnyH_take (i := 0) (oi := { dst := some 126, op := Op.move (Operand.tmp 0), type := 51, pos := "law.go:71", after := #[], guard := none }) (v := ?_) rfl (by kernel_rfl) (by kernel_rfl) (by kernel_rfl) (fun _ _ _ h => h) (Or.inl ⟨by rfl, ?_⟩) hHeld ?_
  rotate_left
  · (intro w hSw; (try dsimp only at hSw); go_simp; try with_reducible rfl)
  try simp only [Act.put, List.setIfInBounds_toArray, List.set_cons_succ, List.set_cons_zero]
  refine wpAnyH_take (i := 1) (oi := { dst := some 127, op := Op.nilCheck (Operand.tmp 126), type := 0, pos := "law.go:71", after := #[{ on := 0, ground := Ground.data }], guard := none }) (v := ?_) rfl (by kernel_rfl) (by kernel_rfl) (by kernel_rfl) (fun _ _ _ h => h) (Or.inl ⟨by rfl, ?_⟩) hHeld ?_
  rotate_left
  · (intro w hSw; (try dsimp only at hSw); go_simp; try with_reducible rfl)
  try simp only [Act.put, List.setIfInBounds_toArray, List.set_cons_succ, List.set_cons_zero]
  refine wpAnyH_take (i := 2) (oi := { dst := some 128, op := Op.fieldAddr 59 (Operand.tmp 127) 1, type := 0, pos := "law.go:71", after := #[{ on := 1, ground := Ground.data }], guard := none }) (v := ?_) rfl (by kernel_rfl) (by kernel_rfl) (by kernel_rfl) (fun _ _ _ h => h) (Or.inl ⟨by rfl, ?_⟩) hHeld ?_
  rotate_left
  · (intro w hSw; (try dsimp only at hSw); go_simp; try with_reducible rfl)
  try simp only [Act.put, List.setIfInBounds_toArray, List.set_cons_succ, List.set_cons_zero]
  refine wpAnyH_take (i := 3) (oi := { dst := some 129, op := Op.load 57 (Operand.tmp 128), type := 57, pos := "law.go:71", after := #[{ on := 2, ground := Ground.data }], guard := none }) (v := ?_) rfl (by kernel_rfl) (by kernel_rfl) (by kernel_rfl) (fun _ _ _ h => h) (Or.inl ⟨by rfl, ?_⟩) hHeld ?_
  rotate_left
  · (intro w hSw; (try dsimp only at hSw); go_simp; try with_reducible rfl)
  try simp only [Act.put, List.setIfInBounds_toArray, List.set_cons_succ, List.set_cons_zero]
  refine wpAnyH_take (i := 4) (oi := { dst := some 130, op := Op.nilCheck (Operand.tmp 129), type := 0, pos := "law.go:71", after := #[{ on := 3, ground := Ground.data }], guard := none }) (v := ?_) rfl (by kernel_rfl) (by kernel_rfl) (by kernel_rfl) (fun _ _ _ h => h) (Or.inl ⟨by rfl, ?_⟩) hHeld ?_
  rotate_left
  · (intro w hSw; (try dsimp only at hSw); go_simp; try with_reducible rfl)
  try simp only [Act.put, List.setIfInBounds_toArray, List.set_cons_succ, List.set_cons_zero]
  refine wpAnyH_take (i := 5) (oi := { dst := some 131, op := Op.fieldAddr 86 (Operand.tmp 130) 0, type := 0, pos := "law.go:71", after := #[{ on := 4, ground := Ground.data }], guard := none }) (v := ?_) rfl (by kernel_rfl) (by kernel_rfl) (by kernel_rfl) (fun _ _ _ h => h) (Or.inl ⟨by rfl, ?_⟩) hHeld ?_
  rotate_left
  · (intro w hSw; (try dsimp only at hSw); go_simp; try with_reducible rfl)
  try simp only [Act.put, List.setIfInBounds_toArray, List.set_cons_succ, List.set_cons_zero]
  refine wpAnyH_take (i := 6) (oi := { dst := some 132, op := Op.load 84 (Operand.tmp 131), type := 84, pos := "law.go:71", after := #[{ on := 5, ground := Ground.data }], guard := none }) (v := ?_) rfl (by kernel_rfl) (by kernel_rfl) (by kernel_rfl) (fun _ _ _ h => h) (Or.inl ⟨by rfl, ?_⟩) hHeld ?_
  rotate_left
  · (intro w hSw; (try dsimp only at hSw); go_simp; try with_reducible rfl)
  try simp only [Act.put, List.setIfInBounds_toArray, List.set_cons_succ, List.set_cons_zero]
  refine wpAnyH_take (i := 7) (oi := { dst := some 133, op := Op.call { callee := Callee.builtin Builtin.len, args := #[Operand.tmp 132], argTypes := #[84] }, type := 3, pos := "law.go:71", after := #[{ on := 6, ground := Ground.data }], guard := none }) (v := ?_) rfl (by kernel_rfl) (by kernel_rfl) (by kernel_rfl) (fun _ _ _ h => h) (Or.inl ⟨by rfl, ?_⟩) hHeld ?_
  rotate_left
  · (intro w hSw; (try dsimp only at hSw); go_simp; try with_reducible rfl)
  try simp only [Act.put, List.setIfInBounds_toArray, List.set_cons_succ, List.set_cons_zero]
  refine wpAnyH_take (i := 8) (oi := { dst := some 134, op := Op.binOp BinOp.sub 3 (Operand.tmp 133) (Operand.const (Value.int IntKind.i64 1)) 3, type := 3, pos := "law.go:71", after := #[{ on := 7, ground := Ground.data }], guard := none }) (v := ?_) rfl (by kernel_rfl) (by kernel_rfl) (by kernel_rfl) (fun _ _ _ h => h) (Or.inl ⟨by rfl, ?_⟩) hHeld ?_
  rotate_left
  · (intro w hSw; (try dsimp only at hSw); go_simp; try with_reducible rfl)
  try simp only [Act.put, List.setIfInBounds_toArray, List.set_cons_succ, List.set_cons_zero]
  refine wpAnyH_take (i := 9) (oi := { dst := some 135, op := Op.fieldAddr 64 (Operand.tmp 3) 6, type := 0, pos := "law.go:71", after := #[], guard := none }) (v := ?_) rfl (by kernel_rfl) (by kernel_rfl) (by kernel_rfl) (fun _ _ _ h => h) (Or.inl ⟨by rfl, ?_⟩) hHeld ?_
  rotate_left
  · (intro w hSw; (try dsimp only at hSw); go_simp; try with_reducible rfl)
  try simp only [Act.put, List.setIfInBounds_toArray, List.set_cons_succ, List.set_cons_zero]
  refine wpAnyH_take (i := 10) (oi := { dst := some 136, op := Op.load 5 (Operand.tmp 135), type := 5, pos := "law.go:71", after := #[{ on := 9, ground := Ground.data }], guard := none }) (v := ?_) rfl (by kernel_rfl) (by kernel_rfl) (by kernel_rfl) (fun _ _ _ h => h) (Or.inl ⟨by rfl, ?_⟩) hHeld ?_
  rotate_left
  · (intro w hSw; (try dsimp only at hSw); go_simp; try with_reducible rfl)
  try simp only [Act.put, List.setIfInBounds_toArray, List.set_cons_succ, List.set_cons_zero]
  refine wpAnyH_take (i := 11) (oi := { dst := some 137, op := Op.convert 5 3 (Operand.tmp 136), type := 3, pos := "law.go:71", after := #[{ on := 10, ground := Ground.data }], guard := none }) (v := ?_) rfl (by kernel_rfl) (by kernel_rfl) (by kernel_rfl) (fun _ _ _ h => h) (Or.inl ⟨by rfl, ?_⟩) hHeld ?_
  rotate_left
  · (intro w hSw; (try dsimp only at hSw); go_simp; try with_reducible rfl)
  try simp only [Act.put, List.setIfInBounds_toArray, List.set_cons_succ, List.set_cons_zero]
  refine wpAnyH_take (i := 12) (oi := { dst := some 138, op := Op.move (Operand.tmp 0), type := 51, pos := "law.go:71", after := #[], guard := none }) (v := ?_) rfl (by kernel_rfl) (by kernel_rfl) (by kernel_rfl) (fun _ _ _ h => h) (Or.inl ⟨by rfl, ?_⟩) hHeld ?_
  rotate_left
  · (intro w hSw; (try dsimp only at hSw); go_simp; try with_reducible rfl)
  try simp only [Act.put, List.setIfInBounds_toArray, List.set_cons_succ, List.set_cons_zero]
  refine wpAnyH_take (i := 13) (oi := { dst := some 139, op := Op.nilCheck (Operand.tmp 138), type := 0, pos := "law.go:71", after := #[{ on := 12, ground := Ground.data }], guard := none }) (v := ?_) rfl (by kernel_rfl) (by kernel_rfl) (by kernel_rfl) (fun _ _ _ h => h) (Or.inl ⟨by rfl, ?_⟩) hHeld ?_
  rotate_left
  · (intro w hSw; (try dsimp only at hSw); go_simp; try with_reducible rfl)
  try simp only [Act.put, List.setIfInBounds_toArray, List.set_cons_succ, List.set_cons_zero]
  refine wpAnyH_take (i := 14) (oi := { dst := some 140, op := Op.fieldAddr 59 (Operand.tmp 139) 1, type := 0, pos := "law.go:71", after := #[{ on := 13, ground := Ground.data }], guard := none }) (v := ?_) rfl (by kernel_rfl) (by kernel_rfl) (by kernel_rfl) (fun _ _ _ h => h) (Or.inl ⟨by rfl, ?_⟩) hHeld ?_
  rotate_left
  · (intro w hSw; (try dsimp only at hSw); go_simp; try with_reducible rfl)
  try simp only [Act.put, List.setIfInBounds_toArray, List.set_cons_succ, List.set_cons_zero]
  refine wpAnyH_take (i := 15) (oi := { dst := some 141, op := Op.load 57 (Operand.tmp 140), type := 57, pos := "law.go:71", after := #[{ on := 14, ground := Ground.data }], guard := none }) (v := ?_) rfl (by kernel_rfl) (by kernel_rfl) (by kernel_rfl) (fun _ _ _ h => h) (Or.inl ⟨by rfl, ?_⟩) hHeld ?_
  rotate_left
  · (intro w hSw; (try dsimp only at hSw); go_simp; try with_reducible rfl)
  try simp only [Act.put, List.setIfInBounds_toArray, List.set_cons_succ, List.set_cons_zero]
  refine wpAnyH_take (i := 16) (oi := { dst := some 142, op := Op.nilCheck (Operand.tmp 141), type := 0, pos := "law.go:71", after := #[{ on := 15, ground := Ground.data }], guard := none }) (v := ?_) rfl (by kernel_rfl) (by kernel_rfl) (by kernel_rfl) (fun _ _ _ h => h) (Or.inl ⟨by rfl, ?_⟩) hHeld ?_
  rotate_left
  · (intro w hSw; (try dsimp only at hSw); go_simp; try with_reducible rfl)
  try simp only [Act.put, List.setIfInBounds_toArray, List.set_cons_succ, List.set_cons_zero]
  refine wpAnyH_take (i := 17) (oi := { dst := some 143, op := Op.fieldAddr 86 (Operand.tmp 142) 0, type := 0, pos := "law.go:71", after := #[{ on := 16, ground := Ground.data }], guard := none }) (v := ?_) rfl (by kernel_rfl) (by kernel_rfl) (by kernel_rfl) (fun _ _ _ h => h) (Or.inl ⟨by rfl, ?_⟩) hHeld ?_
  rotate_left
  · (intro w hSw; (try dsimp only at hSw); go_simp; try with_reducible rfl)
  try simp only [Act.put, List.setIfInBounds_toArray, List.set_cons_succ, List.set_cons_zero]
  refine wpAnyH_take (i := 18) (oi := { dst := some 144, op := Op.load 84 (Operand.tmp 143), type := 84, pos := "law.go:71", after := #[{ on := 17, ground := Ground.data }], guard := none }) (v := ?_) rfl (by kernel_rfl) (by kernel_rfl) (by kernel_rfl) (fun _ _ _ h => h) (Or.inl ⟨by rfl, ?_⟩) hHeld ?_
  rotate_left
  · (intro w hSw; (try dsimp only at hSw); go_simp; try with_reducible rfl)
  try simp only [Act.put, List.setIfInBounds_toArray, List.set_cons_succ, List.set_cons_zero]
  refine wpAnyH_take (i := 19) (oi := { dst := some 145, op := Op.call { callee := Callee.builtin Builtin.len, args := #[Operand.tmp 144], argTypes := #[84] }, type := 3, pos := "law.go:71", after := #[{ on := 18, ground := Ground.data }], guard := none }) (v := ?_) rfl (by kernel_rfl) (by kernel_rfl) (by kernel_rfl) (fun _ _ _ h => h) (Or.inl ⟨by rfl, ?_⟩) hHeld ?_
  rotate_left
  · (intro w hSw; (try dsimp only at hSw); go_simp; try with_reducible rfl)
  try simp only [Act.put, List.setIfInBounds_toArray, List.set_cons_succ, List.set_cons_zero]
  refine wpAnyH_take (i := 20) (oi := { dst := some 146, op := Op.binOp BinOp.rem 3 (Operand.tmp 137) (Operand.tmp 145) 3, type := 3, pos := "law.go:71", after := #[{ on := 11, ground := Ground.data }, { on := 19, ground := Ground.data }], guard := none }) (v := ?_) rfl (by kernel_rfl) (by kernel_rfl) (by kernel_rfl) (fun _ _ _ h => h) (Or.inl ⟨by rfl, ?_⟩) hHeld ?_
  rotate_left
  · (intro w hSw; (try dsimp only at hSw); go_simp; try with_reducible rfl)
  try simp only [Act.put, List.setIfInBounds_toArray, List.set_cons_succ, List.set_cons_zero]
  refine wpAnyH_take (i := 21) (oi := { dst := some 147, op := Op.binOp BinOp.sub 3 (Operand.tmp 134) (Operand.tmp 146) 3, type := 3, pos := "law.go:71", after := #[{ on := 8, ground := Ground.data }, { on := 20, ground := Ground.data }], guard := none }) (v := ?_) rfl (by kernel_rfl) (by kernel_rfl) (by kernel_rfl) (fun _ _ _ h => h) (Or.inl ⟨by rfl, ?_⟩) hHeld ?_
  rotate_left
  · (intro w hSw; (try dsimp only at hSw); go_simp; try with_reducible rfl)
  try simp only [Act.put, List.setIfInBounds_toArray, List.set_cons_succ, List.set_cons_zero]
  refine wpAnyH_ready (rs := [22]) (by kernel_rfl) (by simp) ?_
  refine AllReadyH.cons (o := _) rfl (fun K hK => ?_) AllReadyH.nil
  go_simp
  refine hK.out _ _ (by assumption) (fun hHeld => ?_)
  clear hK K
  try simp only [Act.put, List.setIfInBounds_toArray, List.set_cons_succ, List.set_cons_zero]
  refine wpAnyH_done (by kernel_rfl) ?_ _
  clear hHeld
  have hx1 := HSS.out w1.drew (Below.refl _ _).drew
  go_wp2_with fail
  refine wp_region_held_drew (S := fun W => W.cell? ⟨p, 1, none⟩ = some (.pointer (some ⟨gy, 0, none⟩)) ∧ W.cell? ⟨gy, 0, none⟩ = some (.slice (some ⟨b1, 0, none⟩) m c1) ∧ W.cell? ⟨b1, i, none⟩ = some (.slice Ax x.length cx) ∧ W.rangeAt w.heap.size 2 R.toList ∧ W.cell? ⟨w.heap.size, 6 + 12, none⟩ = some (.int .u8 back)) (by kernel_rfl) hx1 (fun hHeld => ?_)
  refine wpAnyH_take (i := 0) (oi := { dst := some 149, op := Op.move (Operand.tmp 0), type := 51, pos := "law.go:72", after := #[], guard := none }) (v := ?_) rfl (by kernel_rfl) (by kernel_rfl) (by kernel_rfl) (fun _ _ _ h => h) (Or.inl ⟨by rfl, ?_⟩) hHeld ?_
  rotate_left
  · (intro w hSw; (try dsimp only at hSw); go_simp; try with_reducible rfl)
  try simp only [Act.put, List.setIfInBounds_toArray, List.set_cons_succ, List.set_cons_zero]
  refine wpAnyH_take (i := 1) (oi := { dst := some 150, op := Op.nilCheck (Operand.tmp 149), type := 0, pos := "law.go:72", after := #[{ on := 0, ground := Ground.data }], guard := none }) (v := ?_) rfl (by kernel_rfl) (by kernel_rfl) (by kernel_rfl) (fun _ _ _ h => h) (Or.inl ⟨by rfl, ?_⟩) hHeld ?_
  rotate_left
  · (intro w hSw; (try dsimp only at hSw); go_simp; try with_reducible rfl)
  try simp only [Act.put, List.setIfInBounds_toArray, List.set_cons_succ, List.set_cons_zero]
  refine wpAnyH_take (i := 2) (oi := { dst := some 151, op := Op.fieldAddr 59 (Operand.tmp 150) 1, type := 0, pos := "law.go:72", after := #[{ on := 1, ground := Ground.data }], guard := none }) (v := ?_) rfl (by kernel_rfl) (by kernel_rfl) (by kernel_rfl) (fun _ _ _ h => h) (Or.inl ⟨by rfl, ?_⟩) hHeld ?_
  rotate_left
  · (intro w hSw; (try dsimp only at hSw); go_simp; try with_reducible rfl)
  try simp only [Act.put, List.setIfInBounds_toArray, List.set_cons_succ, List.set_cons_zero]
  refine wpAnyH_take (i := 3) (oi := { dst := some 152, op := Op.load 57 (Operand.tmp 151), type := 57, pos := "law.go:72", after := #[{ on := 2, ground := Ground.data }], guard := none }) (v := ?_) rfl (by kernel_rfl) (by kernel_rfl) (by kernel_rfl) (fun _ _ _ h => h) (Or.inl ⟨by rfl, ?_⟩) hHeld ?_
  rotate_left
  · (intro w hSw; (try dsimp only at hSw); go_simp; try with_reducible rfl)
  try simp only [Act.put, List.setIfInBounds_toArray, List.set_cons_succ, List.set_cons_zero]
  refine wpAnyH_take (i := 4) (oi := { dst := some 153, op := Op.nilCheck (Operand.tmp 152), type := 0, pos := "law.go:72", after := #[{ on := 3, ground := Ground.data }], guard := none }) (v := ?_) rfl (by kernel_rfl) (by kernel_rfl) (by kernel_rfl) (fun _ _ _ h => h) (Or.inl ⟨by rfl, ?_⟩) hHeld ?_
  rotate_left
  · (intro w hSw; (try dsimp only at hSw); go_simp; try with_reducible rfl)
  try simp only [Act.put, List.setIfInBounds_toArray, List.set_cons_succ, List.set_cons_zero]
  refine wpAnyH_take (i := 5) (oi := { dst := some 154, op := Op.fieldAddr 86 (Operand.tmp 153) 0, type := 0, pos := "law.go:72", after := #[{ on := 4, ground := Ground.data }], guard := none }) (v := ?_) rfl (by kernel_rfl) (by kernel_rfl) (by kernel_rfl) (fun _ _ _ h => h) (Or.inl ⟨by rfl, ?_⟩) hHeld ?_
  rotate_left
  · (intro w hSw; (try dsimp only at hSw); go_simp; try with_reducible rfl)
  try simp only [Act.put, List.setIfInBounds_toArray, List.set_cons_succ, List.set_cons_zero]
  refine wpAnyH_take (i := 6) (oi := { dst := some 155, op := Op.load 84 (Operand.tmp 154), type := 84, pos := "law.go:72", after := #[{ on := 5, ground := Ground.data }], guard := none }) (v := ?_) rfl (by kernel_rfl) (by kernel_rfl) (by kernel_rfl) (fun _ _ _ h => h) (Or.inl ⟨by rfl, ?_⟩) hHeld ?_
  rotate_left
  · (intro w hSw; (try dsimp only at hSw); go_simp; try with_reducible rfl)
  try simp only [Act.put, List.setIfInBounds_toArray, List.set_cons_succ, List.set_cons_zero]
  refine wpAnyH_take (i := 7) (oi := { dst := some 156, op := Op.move (Operand.tmp 13), type := 3, pos := "law.go:72", after := #[], guard := none }) (v := ?_) rfl (by kernel_rfl) (by kernel_rfl) (by kernel_rfl) (fun _ _ _ h => h) (Or.inl ⟨by rfl, ?_⟩) hHeld ?_
  rotate_left
  · (intro w hSw; (try dsimp only at hSw); go_simp; try with_reducible rfl)
  try simp only [Act.put, List.setIfInBounds_toArray, List.set_cons_succ, List.set_cons_zero]
  refine wpAnyH_take (i := 8) (oi := { dst := some 157, op := Op.indexAddr 84 (Operand.tmp 155) (Operand.tmp 156), type := 0, pos := "law.go:72", after := #[{ on := 6, ground := Ground.data }, { on := 7, ground := Ground.data }], guard := none }) (v := ?_) rfl (by kernel_rfl) (by kernel_rfl) (by kernel_rfl) (fun _ _ _ h => h) (Or.inl ⟨by rfl, ?_⟩) hHeld ?_
  rotate_left
  · (intro w hSw; (try dsimp only at hSw); go_simp; try with_reducible rfl)
  try simp only [Act.put, List.setIfInBounds_toArray, List.set_cons_succ, List.set_cons_zero]
  refine wpAnyH_take (i := 9) (oi := { dst := some 158, op := Op.load 22 (Operand.tmp 157), type := 22, pos := "law.go:72", after := #[{ on := 8, ground := Ground.data }], guard := none }) (v := ?_) rfl (by kernel_rfl) (by kernel_rfl) (by kernel_rfl) (fun _ _ _ h => h) (Or.inl ⟨by rfl, ?_⟩) hHeld ?_
  rotate_left
  · (intro w hSw; (try dsimp only at hSw); go_simp; try with_reducible rfl)
  try simp only [Act.put, List.setIfInBounds_toArray, List.set_cons_succ, List.set_cons_zero]
  refine wpAnyH_take (i := 11) (oi := { dst := some 160, op := Op.fieldAddr 64 (Operand.tmp 3) 2, type := 0, pos := "law.go:72", after := #[], guard := none }) (v := ?_) rfl (by kernel_rfl) (by kernel_rfl) (by kernel_rfl) (fun _ _ _ h => h) (Or.inl ⟨by rfl, ?_⟩) hHeld ?_
  rotate_left
  · (intro w hSw; (try dsimp only at hSw); go_simp; try with_reducible rfl)
  try simp only [Act.put, List.setIfInBounds_toArray, List.set_cons_succ, List.set_cons_zero]
  refine wpAnyH_take (i := 12) (oi := { dst := some 161, op := Op.load 40 (Operand.tmp 160), type := 40, pos := "law.go:72", after := #[{ on := 11, ground := Ground.data }], guard := none }) (v := .agg R) rfl (by kernel_rfl) (by kernel_rfl) (by kernel_rfl) (fun _ _ _ h => h) (yieldsIf_load_mid (by rfl) 40 (.tmp 160) rfl w.heap.size 2 rfl R.toList _ (fun W hW => hW.2.2.2.1) Tryd.underlying40 rfl (by rw [hckz]; kernel_rfl)) hHeld ?_
  try simp only [Act.put, List.setIfInBounds_toArray, List.set_cons_succ, List.set_cons_zero]
  refine wpAnyH_ready (rs := [10]) (by kernel_rfl) (by simp) ?_
  refine AllReadyH.cons (o := _) rfl (fun K hK => ?_) AllReadyH.nil
  go_simp
  go_at_call 46
  have hdd : Below w1.heap.size w1 w1.drew.drew := (Below.refl _ _).drew.drew
  refine Calls.mono (rknew_calls cx x.length Ax x rfl w1.drew.drew (HRX.out.below hdd) HAX.out HBX.out HLX.out) ?_
  rintro e w3 ⟨g, rfl, hg, hRg, hb3⟩
  have hb3' : Below w1.heap.size w1 w3 := below_then hdd hb3
  have HRG := hid hRg; have HB3 := hid hb3'
  refine hK.out _ _ (HSS.out w3 hb3') (fun hHeld => ?_)
  clear hK K hb3 hb3' hRg hdd
  try simp only [Act.put, List.setIfInBounds_toArray, List.set_cons_succ, List.set_cons_zero]
  refine wpAnyH_ready (rs := [13]) (by kernel_rfl) (by simp) ?_
  refine AllReadyH.cons (o := _) rfl (fun K hK => ?_) AllReadyH.nil
  go_simp
  go_at_call 48
  refine Calls.mono (hYS.out w3 g HRG.out) ?_
  rintro e w5 ⟨A5, c5, rfl, hR5, hA5, hl5, hm5, hb5⟩
  have HR5 := hid hR5; have HB5 := hid (below_then HB3.out hb5)
  refine hK.out _ _ (HSS.out w5 HB5.out) (fun hHeld => ?_)
  clear hK K hb5 hR5 HRG hx0 hx1
  try simp only [Act.put, List.setIfInBounds_toArray, List.set_cons_succ, List.set_cons_zero]
  refine wpAnyH_take (i := 14) (oi := { dst := some 148, op := Op.move (Operand.tmp 162), type := 43, pos := "law.go:72", after := #[{ on := 13, ground := Ground.data }], guard := none }) (v := ?_) rfl (by kernel_rfl) (by kernel_rfl) (by kernel_rfl) (fun _ _ _ h => h) (Or.inl ⟨by rfl, ?_⟩) hHeld ?_
  rotate_left
  · (intro w hSw; (try dsimp only at hSw); go_simp; try with_reducible rfl)
  try simp only [Act.put, List.setIfInBounds_toArray, List.set_cons_succ, List.set_cons_zero]
  refine wpAnyH_take (i := 15) (oi := { dst := some 163, op := Op.extract (Operand.tmp 148) 0, type := 22, pos := "law.go:72", after := #[{ on := 14, ground := Ground.data }], guard := none }) (v := ?_) rfl (by kernel_rfl) (by kernel_rfl) (by kernel_rfl) (fun _ _ _ h => h) (Or.inl ⟨by rfl, ?_⟩) hHeld ?_
  rotate_left
  · (intro w hSw; (try dsimp only at hSw); go_simp; try with_reducible rfl)
  try simp only [Act.put, List.setIfInBounds_toArray, List.set_cons_succ, List.set_cons_zero]
  refine wpAnyH_take (i := 16) (oi := { dst := some 164, op := Op.extract (Operand.tmp 148) 1, type := 33, pos := "law.go:72", after := #[{ on := 14, ground := Ground.data }, { on := 17, ground := Ground.gcOnly Departure.lateStores }], guard := none }) (v := ?_) rfl (by kernel_rfl) (by kernel_rfl) (by kernel_rfl) (fun _ _ _ h => h) (Or.inl ⟨by rfl, ?_⟩) hHeld ?_
  rotate_left
  · (intro w hSw; (try dsimp only at hSw); go_simp; try with_reducible rfl)
  try simp only [Act.put, List.setIfInBounds_toArray, List.set_cons_succ, List.set_cons_zero]
  refine wpAnyH_ready (rs := [17]) (by kernel_rfl) (by simp) ?_
  refine AllReadyH.cons (o := _) rfl (fun K hK => ?_) AllReadyH.nil
  go_simp
  refine hK.out _ _ (by assumption) (fun hHeld => ?_)
  clear hK K
  try simp only [Act.put, List.setIfInBounds_toArray, List.set_cons_succ, List.set_cons_zero]
  refine wpAnyH_ready (rs := [18]) (by kernel_rfl) (by simp) ?_
  refine AllReadyH.cons (o := _) rfl (fun K hK => ?_) AllReadyH.nil
  go_simp
  refine hK.out _ _ (by assumption) (fun hHeld => ?_)
  clear hK K
  try simp only [Act.put, List.setIfInBounds_toArray, List.set_cons_succ, List.set_cons_zero]
  refine wpAnyH_done (by kernel_rfl) ?_ _
  have y15 := (HD.out.below HB5.out).c15
  simp only at y15
  have HBW := hid (below_then HB1.out HB5.out)
  clear hHeld hYS HSS
  go_wp2_with (go_at_call 49; refine hold ?_)
  refine hid ?_
  clear y0 y15
  refine Calls.mono (popen_calls p gx gy B.length c5 A5 B sec frm two L last now w5 (HT.out.below HBW.out) (HP.out.below HBW.out) (by have := HL.out; omega) rfl HR5.out hA5 HSB.out hl5 hm5 (by omega)) ?_
  rintro e w6 ⟨rfl, hb⟩
  have HB6 := hid (below_then HBW.out hb)
  clear hb
  go_wp2
  go_ret
  exact ⟨rfl, ⟨_, _, _, _, _, HP.out.below HB6.out, by omega⟩, Kept3.of_below HB6.out⟩
/-- A deed, whatever it is. -/
theorem pdo_calls (p gx gy : Nat) (d : Dd) (D : Array Value) (A : Option Addr) (c : Nat) (hD : DCells D d A c) (sec frm : List Int) (two : Bool) (L : List (List Int)) (last : List Int) (w : World) (hT : Tab w) (hP : PSt w p gx gy sec frm two L last) (hL : L.length ≤ 999) (hd : DOk w d A c) :
    Calls Tryd.prog 32 #[.pointer (some ⟨p, 0, none⟩), .agg D] w (Done p gx gy L.length w) := by
  by_cases h0 : d.k = 0
  · exact pdo0 p gx gy d D A c hD h0 sec frm two L last w hP hL hd
  by_cases h1 : d.k = 1
  · exact pdo1 p gx gy d D A c hD h1 sec frm two L last w hT hP hL hd
  by_cases h2 : d.k = 2
  · exact pdo2 p gx gy d D A c hD h2 sec frm two L last w hT hP hL hd
  by_cases h3 : d.k = 3
  · exact pdo3 p gx gy d D A c hD h3 sec frm two L last w hT hP hL hd
  exact pdo4 p gx gy d D A c hD ⟨h0, h1, h2, h3⟩ sec frm two L last w hT hP hL hd

end Go.Proofs.YtaieajfgcnaedaaDoor
