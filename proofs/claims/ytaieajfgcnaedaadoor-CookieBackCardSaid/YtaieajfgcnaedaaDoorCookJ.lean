/-
  LAYER 6, WALKS: what was sealed is opened as it was, behind one Turn too.
-/
import Derived.Test.YtaieajfgcnaedaaDoorCookI
import Derived.Test.YtaieajfgcnaedaaDoorCookH
import Derived.BigQuiet
set_option linter.unusedVariables false
set_option linter.unusedSimpArgs false
namespace Go.Proofs.YtaieajfgcnaedaaDoor
open Go.RowKit

theorem open_seal2 (sec frm : List Int) (c : Ck) (hm : c.may) (hk : c.Ok) (now : Int) : ckOpen sec frm true (c.seal frm) now = if now < 0 ∨ 1099511627776 < now then (Ck.none, 2) else if now < c.made ∨ c.made + c.life < now then (Ck.none, 8) else (c, 0) := by
  obtain ⟨h1, h2⟩ := num_seal c hm hk (mac frm c.plain)
  have t : (c.seal frm).take 52 = c.plain := by unfold Ck.seal; exact List.take_left' (Ck.plain_len c)
  have d : (c.seal frm).drop 52 = mac frm c.plain := by unfold Ck.seal; rw [← Ck.plain_len c]; exact List.drop_left
  have hmade : numAt (c.plain ++ mac frm c.plain) 0 8 = c.made := congrArg Ck.made h1
  have hlife : numAt (c.plain ++ mac frm c.plain) 8 4 = c.life := congrArg Ck.life h1
  unfold ckOpen
  rw [t, d, Ck.seal_len]
  show (if now < 0 ∨ 1099511627776 < now then (Ck.none, 2) else if 84 ≠ 84 then (Ck.none, 4) else if ¬ (mac sec c.plain = mac frm c.plain ∨ (mac frm c.plain = mac frm c.plain ∧ true = true)) then (Ck.none, 5) else if numAt (c.plain ++ mac frm c.plain) 48 4 ≠ 0 then (Ck.none, 4) else if 1099511627776 < numAt (c.plain ++ mac frm c.plain) 0 8 ∨ 600 < numAt (c.plain ++ mac frm c.plain) 8 4 then (Ck.none, 6) else if now < numAt (c.plain ++ mac frm c.plain) 0 8 ∨ numAt (c.plain ++ mac frm c.plain) 0 8 + numAt (c.plain ++ mac frm c.plain) 8 4 < now then (Ck.none, 8) else (ckOf (c.plain ++ mac frm c.plain), 0)) = _
  rw [h1, h2, hmade, hlife]
  obtain ⟨a1, a2, a3, a4⟩ := hm
  have g1 : ¬ (1099511627776 < c.made ∨ 600 < c.life) := by omega
  simp [g1]
/-- The blocks of the two arguments' boxes, and what stood ahead. -/
structure Bk (w w2 W : World) (a b : Value) (R : Array Value) : Prop where
  bel : Below w2.heap.size w2 W
  all : Below w.heap.size w W
  e : W.heap[w.heap.size]? = some (.cells #[a, b] 55 (0, 0))
  c : W.heap[w.heap.size + 1]? = some (.cells R 40 (0, 0))
theorem Bk.below {w w2 W W' : World} {a b : Value} {R : Array Value} (h : Bk w w2 W a b R) (hb : Below W.heap.size W W') : Bk w w2 W' a b R :=
  ⟨below_then h.bel hb, below_then h.all hb, (hb.block _ (lt_of_block h.e)).trans h.e, (hb.block _ (lt_of_block h.c)).trans h.c⟩
theorem Bk.grown {w w2 W W' : World} {a b : Value} {R : Array Value} (h : Bk w w2 W a b R) {g : Nat} (hg : W.grownBy W' (some g)) (h2 : w2.heap.size ≤ g) (hw : w.heap.size ≤ w2.heap.size) (h1 : w.heap.size + 1 < w2.heap.size) : Bk w w2 W' a b R :=
  ⟨h.bel.grown hg h.bel.size (fun k e => by injection e with e; omega), h.all.grown hg h.all.size (fun k e => by injection e with e; omega),
   (hg.block _ (lt_of_block h.e) (fun e => by injection e with e; omega)).trans h.e, (hg.block _ (lt_of_block h.c) (fun e => by injection e with e; omega)).trans h.c⟩
set_option maxHeartbeats 12800000 in
set_option maxRecDepth 100000 in
theorem CookieBack_calls (w : World) (hT : Tab w) (A0 A1 : Option Addr) (n0 c0 n1 c1 : Nat) (xs0 xs1 : List Int) (hn0 : xs0.length = n0) (hn1 : xs1.length = n1) (hR0 : Rd w .u8 A0 xs0) (hR1 : Rd w .u8 A1 xs1) (hb0 : Bytes xs0) (hb1 : Bytes xs1) (hA0 : A0 = none → c0 = 0) (hA1 : A1 = none → c1 = 0) (hl0 : n0 ≤ 140737488351232) (hl1 : n1 ≤ 140737488351232)
    (ck : Ck) (hok : ck.Ok) (lived : Int) (hlv : 0 ≤ lived ∧ lived < 65536) :
    Calls Tryd.prog 11 #[.agg #[.slice A0 n0 c0, .slice A1 n1 c1], .agg ck.cells, .int .u16 lived] w fun e w' => e = .returned (.bool true) ∧ Below w.heap.size w w' := by
  have HT := hid hT; have HN0 := hid hn0; have HN1 := hid hn1; have HR0 := hid hR0; have HR1 := hid hR1; have HB0 := hid hb0; have HB1 := hid hb1; have HA0 := hid hA0; have HA1 := hid hA1; have HOK := hid hok
  clear hT hn0 hn1 hR0 hR1 hb0 hb1 hA0 hA1 hok
  obtain ⟨R, hR⟩ : ∃ R, R = ck.cells := ⟨_, rfl⟩
  rw [← hR]
  have HR := hid hR; clear hR
  go_enter Tryd.func11, Tryd.ntmps11
  go_wp2_with (go_at_call 23; refine hold ?_)
  refine hid ?_
  have hS1 : (w.alloc (.cells #[.slice A0 n0 c0, .slice A1 n1 c1] 55)).heap.size = w.heap.size + 1 := by simp
  have hE : (w.alloc (.cells #[.slice A0 n0 c0, .slice A1 n1 c1] 55)).heap[w.heap.size]? = some (.cells #[.slice A0 n0 c0, .slice A1 n1 c1] 55 (0, 0)) := heap_alloc_new _ _
  have hB : Below w.heap.size w (w.alloc (.cells #[.slice A0 n0 c0, .slice A1 n1 c1] 55)) := (Below.refl _ _).alloc (Nat.le_refl _) _
  generalize w.alloc (.cells #[.slice A0 n0 c0, .slice A1 n1 c1] 55) = w1 at *
  have hC : (w1.alloc (.cells R 40)).heap[w1.heap.size]? = some (.cells R 40 (0, 0)) := heap_alloc_new _ _
  have hB2 : Below w1.heap.size w1 (w1.alloc (.cells R 40)) := (Below.refl _ _).alloc (Nat.le_refl _) _
  have hS2 : (w1.alloc (.cells R 40)).heap.size = w1.heap.size + 1 := by simp
  generalize w1.alloc (.cells R 40) = w2 at *
  rw [hS1] at hC hS2
  have K0 : Hid (Bk w w2 w2 (.slice A0 n0 c0) (.slice A1 n1 c1) R) := hid ⟨Below.refl _ _, below_then hB hB2, (hB2.block _ (lt_of_block hE)).trans hE, hC⟩
  have HS := hid hS2
  clear hS1 hE hB hC hB2 hS2
  refine Calls.mono (cnew_calls c0 n0 A0 xs0 HN0.out w2 (HR0.out.below K0.out.all) HA0.out HB0.out hl0) ?_
  rintro e w100 ⟨g, rfl, hg, hK, hb⟩
  have HG := hid hg; have HK := hid hK; have K1 := hid (K0.out.below hb)
  clear hg hK hb
  go_wp2_with (with_reducible refine hold_op (o := ⟨some 23, _, _, _, _, _⟩) ?_)
  refine hid ?_
  refine wpList_load_row rfl 40 (.tmp 4) rfl (w.heap.size + 1) rfl 40 R (0, 0) _ K1.out.c Tryd.underlying40 rfl (by rw [HR.out]; kernel_rfl) ?_
  simp only [Act.put, List.setIfInBounds_toArray, List.set_cons_succ, List.set_cons_zero]
  go_wp2_with (go_at_call 24; refine hold ?_)
  refine hid ?_
  rw [HR.out]
  by_cases hm : ck.may
  rotate_left
  · have HD : Hid (decide ck.may = false) := hid (decide_eq_false hm)
    refine Calls.mono (seal_may g ck hm w100) ?_
    rintro e w200 ⟨rfl, hb⟩
    rw [← HR.out]
    have K2 := hid (K1.out.below hb)
    clear hb hm
    go_wp2_with (with_reducible refine hold_op (o := ⟨some 27, _, _, _, _, _⟩) ?_)
    refine hid ?_
    refine wpList_load_row rfl 40 (.tmp 4) rfl (w.heap.size + 1) rfl 40 R (0, 0) _ K2.out.c Tryd.underlying40 rfl (by rw [HR.out]; kernel_rfl) ?_
    simp only [Act.put, List.setIfInBounds_toArray, List.set_cons_succ, List.set_cons_zero]
    go_wp2_with (go_at_call 27; refine hold ?_)
    refine hid ?_
    rw [HR.out]
    refine Calls.mono (rmay_calls ck w200) ?_
    rw [HD.out]
    rw [← HR.out]
    rintro e w300 ⟨rfl, hb⟩
    have K3 := hid (K2.out.below hb)
    have HZ3 := hid hb
    clear hb
    go_wp2_with (go_at_call 25; refine hold ?_)
    refine hid ?_
    refine Calls.mono (clive_calls w300 (HT.out.below K3.out.all)) ?_
    rintro e w400 ⟨rfl, hb⟩
    have K4 := hid (K3.out.below hb)
    have hbx := hid hb
    clear hb
    go_wp2_with (with_reducible refine hold_op (o := ⟨some 39, _, _, _, _, _⟩) ?_)
    refine hid ?_
    refine BigFrame.wpList_want rfl fun K hK => wp_load_row 40 (.tmp 4) rfl (w.heap.size + 1) rfl 40 R (0, 0) _ K4.out.c Tryd.underlying40 rfl (by rw [HR.out]; kernel_rfl) (hK _ _ ?_)
    simp only [Act.put, List.setIfInBounds_toArray, List.set_cons_succ, List.set_cons_zero]
    go_wp2_with (go_at_call 27; refine hold ?_)
    refine hid ?_
    rw [HR.out]
    refine Calls.mono (rmay_calls ck w400) ?_
    rw [HD.out]
    rw [← HR.out]
    rintro e w500 ⟨rfl, hb⟩
    have K5 := hid (K4.out.below hb)
    have HZ3 := hid hb
    clear hb
    go_wp2
    go_ret
    exact ⟨rfl, K5.out.all⟩
  have HD : Hid (decide ck.may = true) := hid (decide_eq_true hm)
  refine Calls.mono (seal_calls g ck hm HOK.out xs0 [] false w100 (HT.out.below K1.out.all) HK.out) ?_
  rintro e w200 ⟨v, rfl, ho, hb⟩
  rw [← HR.out]
  obtain ⟨A2, c2, rfl, hA2, hR2, hB2⟩ := ho.rd (by rw [Ck.seal_len]; omega)
  rw [Ck.seal_len] at ho ⊢
  have hcaps := ho.caps
  have hbS := Ck.seal_bytes xs0 ck
  have hlS := Ck.seal_len xs0 ck
  have HCP := hid hcaps; have HBS := hid hbS; have HLS := hid hlS; have HM := hid hm; have HRS := hid hR2; have HB2 := hid hB2
  have HK2 := hid (HK.out.below hb); have K2 := hid (K1.out.below hb); have HGL := hid HK.out.lt; have HW2 := hid hb.size
  clear hA2 ho hcaps hbS hlS hm hb hR2 hB2
  have HZ2 := hid (Below.refl w200.heap.size w200)
  go_wp2_with (with_reducible refine hold_op (o := ⟨some 27, _, _, _, _, _⟩) ?_)
  refine hid ?_
  refine wpList_load_row rfl 40 (.tmp 4) rfl (w.heap.size + 1) rfl 40 R (0, 0) _ K2.out.c Tryd.underlying40 rfl (by rw [HR.out]; kernel_rfl) ?_
  simp only [Act.put, List.setIfInBounds_toArray, List.set_cons_succ, List.set_cons_zero]
  go_wp2_with (go_at_call 27; refine hold ?_)
  refine hid ?_
  rw [HR.out]
  refine Calls.mono (rmay_calls ck w200) ?_
  rw [HD.out]
  rw [← HR.out]
  rintro e w300 ⟨rfl, hb⟩
  have K3 := hid (K2.out.below hb)
  have HZ3 := hid hb
  clear hb
  have x0 : w300.cell? ⟨w.heap.size + 1, 0, none⟩ = some (.int .i64 ck.made) := cellOf K3.out.c (by rw [HR.out]; rfl)
  have x1 : w300.cell? ⟨w.heap.size + 1, 1, none⟩ = some (.int .i64 ck.life) := cellOf K3.out.c (by rw [HR.out]; rfl)
  by_cases hq : 1099511627176 < ck.made
  · have HQ := hid hq
    go_wp2_with (go_at_call 25; refine hold ?_)
    refine hid ?_
    refine Calls.mono (clive_calls w300 (HT.out.below K3.out.all)) ?_
    rintro e w400 ⟨rfl, hb⟩
    have K4 := hid (K3.out.below hb)
    have hbx := hid hb
    clear hb
    clear x0 x1 hq
    go_wp2_with (with_reducible refine hold_op (o := ⟨some 39, _, _, _, _, _⟩) ?_)
    refine hid ?_
    refine BigFrame.wpList_want rfl fun K hK => wp_load_row 40 (.tmp 4) rfl (w.heap.size + 1) rfl 40 R (0, 0) _ K4.out.c Tryd.underlying40 rfl (by rw [HR.out]; kernel_rfl) (hK _ _ ?_)
    simp only [Act.put, List.setIfInBounds_toArray, List.set_cons_succ, List.set_cons_zero]
    go_wp2_with (go_at_call 27; refine hold ?_)
    refine hid ?_
    rw [HR.out]
    refine Calls.mono (rmay_calls ck w400) ?_
    rw [HD.out]
    rw [← HR.out]
    rintro e w500 ⟨rfl, hb⟩
    have K5 := hid (K4.out.below hb)
    have HZ3 := hid hb
    clear hb
    go_wp2
    go_ret
    exact ⟨rfl, K5.out.all⟩
  obtain ⟨m1, m2, m3, m4⟩ := HM.out
  have hw1 : IntKind.i64.wrap (ck.life + 1) = ck.life + 1 := IntWalk.i64_in _ (by omega)
  have hz : (ck.life + 1 == 0) = false := beq_eq_false_iff_ne.2 (by omega)
  have hz2 : ¬ (ck.life + 1 = 0) := by omega
  go_wp2_with fail
  go_quiet (fail)
  obtain ⟨now, hnow⟩ : ∃ now, now = ck.made + lived % (ck.life + 1) := ⟨_, rfl⟩
  have hr1 : 0 ≤ lived % (ck.life + 1) := Int.emod_nonneg _ (by omega)
  have hr2 : lived % (ck.life + 1) < ck.life + 1 := Int.emod_lt_of_pos _ (by omega)
  have hw2 : wrap64 (ck.made + lived % (ck.life + 1)) = now := by rw [hnow]; exact IntWalk.wrap64_in _ (by omega)
  rw [hw2]
  have HNOW := hid (show ck.made ≤ now ∧ now ≤ ck.made + ck.life ∧ 0 ≤ now ∧ now ≤ 1099511627776 from ⟨by omega, by omega, by omega, by omega⟩)
  clear hnow hr1 hr2 hw2 hw1 hz hz2 m1 m2 m3 m4 hq x0 x1
  have K4 := hid (K3.out.below (below_drewN (Below.refl _ _) nq))
  have HZ4 := hid (below_then HZ3.out (below_drewN (Below.refl _ _) nq))
  generalize w300.drewN nq = w400 at *
  clear K3 HZ3
  go_wp2_with (go_at_call 26; refine hold ?_)
  refine hid ?_
  have hres : ckOpen xs0 [] false (ck.seal xs0) now = (ck, 0) := by
    obtain ⟨p1, p2, p3, p4⟩ := HNOW.out
    rw [open_seal xs0 [] false ck HM.out HOK.out now, if_neg (by omega), if_neg (by omega)]
  have HRES := hid hres; clear hres
  refine Calls.mono (open_calls g 84 c2 A2 (ck.seal xs0) xs0 [] false now w400 (HT.out.below K4.out.all) (HK2.out.below HZ4.out) HLS.out (HRS.out.below HZ4.out) HBS.out HCP.out.1 HCP.out.2) ?_
  rw [HRES.out]
  rintro e w500 ⟨rfl, hb⟩
  simp only
  rw [← HR.out]
  have K5 := hid (K4.out.below hb); have HZ5 := hid (below_then HZ4.out hb)
  clear hb HRES K4 HZ4
  go_wp2_with (with_reducible refine hold_op (o := ⟨none, _, _, _, _, _⟩) ?_)
  refine hid ?_
  have hO : (w500.alloc (.cells #[Value.int IntKind.i64 0, Value.int IntKind.i64 0, Value.int IntKind.u16 0, Value.int IntKind.u16 0, Value.int IntKind.u32 0, Value.int IntKind.u32 0, Value.int IntKind.u32 0, Value.int IntKind.u32 0, Value.int IntKind.u32 0, Value.int IntKind.u16 0, Value.int IntKind.u16 0, Value.int IntKind.u32 0, Value.int IntKind.u32 0] 40)).heap[w500.heap.size]? = some (.cells #[Value.int IntKind.i64 0, Value.int IntKind.i64 0, Value.int IntKind.u16 0, Value.int IntKind.u16 0, Value.int IntKind.u32 0, Value.int IntKind.u32 0, Value.int IntKind.u32 0, Value.int IntKind.u32 0, Value.int IntKind.u32 0, Value.int IntKind.u16 0, Value.int IntKind.u16 0, Value.int IntKind.u32 0, Value.int IntKind.u32 0] 40 (0, 0)) := heap_alloc_new _ _
  have hA : Below w500.heap.size w500 (w500.alloc (.cells #[Value.int IntKind.i64 0, Value.int IntKind.i64 0, Value.int IntKind.u16 0, Value.int IntKind.u16 0, Value.int IntKind.u32 0, Value.int IntKind.u32 0, Value.int IntKind.u32 0, Value.int IntKind.u32 0, Value.int IntKind.u32 0, Value.int IntKind.u16 0, Value.int IntKind.u16 0, Value.int IntKind.u32 0, Value.int IntKind.u32 0] 40)) := (Below.refl _ _).alloc (Nat.le_refl _) _
  generalize w500.alloc (.cells #[Value.int IntKind.i64 0, Value.int IntKind.i64 0, Value.int IntKind.u16 0, Value.int IntKind.u16 0, Value.int IntKind.u32 0, Value.int IntKind.u32 0, Value.int IntKind.u32 0, Value.int IntKind.u32 0, Value.int IntKind.u32 0, Value.int IntKind.u16 0, Value.int IntKind.u16 0, Value.int IntKind.u32 0, Value.int IntKind.u32 0] 40) = wz at *
  have HO := hid hO; have HA := hid hA
  clear hO hA
  refine wpList_store_row rfl 40 (.tmp 11) (.tmp 57) rfl w500.heap.size R rfl rfl 40 _ HO.out (by rw [HR.out]; kernel_rfl) (by rw [HR.out]; rfl) (by rw [HR.out]; exact Ck.one _) ?_
  have D6 := hid (setRow_heap wz w500.heap.size _ R 40 _ HO.out)
  have hV := below_setRow HA.out (Nat.le_refl _) R
  generalize wz.setRow w500.heap.size R = w600 at *
  have K6 := hid (K5.out.below hV); have HZK6 := hid (below_then HZ5.out hV)
  clear hV HO HA
  simp only [Act.put, List.setIfInBounds_toArray, List.set_cons_succ, List.set_cons_zero]
  have y1 : w600.cell? ⟨w.heap.size, 1, none⟩ = some (.slice A1 n1 c1) := cellOf K6.out.e rfl
  go_wp2_with (go_at_call 29; refine hold ?_)
  refine hid ?_
  clear y1
  refine Calls.mono (turn_calls g c1 n1 A1 xs1 xs0 [] false HN1.out w600 (HK2.out.below HZK6.out) (HR1.out.below K6.out.all) HA1.out HB1.out hl1) ?_
  rintro e w700 ⟨rfl, hK, hg⟩
  have K7 := hid (K6.out.grown hg HG.out (by have := HS.out; omega) (by have := HS.out; omega))
  have HK7 := hid hK
  have hgl := HGL.out
  have hz1 := HZ5.out.size
  have D7 := hid ((hg.block _ (lt_of_block D6.out) (fun e => by injection e with e; have := HW2.out; omega)).trans D6.out)
  have S7 := hid ((HRS.out.below HZK6.out).kept hg (fun b o e e2 => by
    injection e2 with e2
    have := HB2.out b o e
    omega))
  clear hK hg hgl hz1 K6 HZK6 HZ5 D6
  go_wp2_with (go_at_call 26; refine hold ?_)
  refine hid ?_
  have hres : ckOpen xs1 xs0 true (ck.seal xs0) now = (ck, 0) := by
    obtain ⟨p1, p2, p3, p4⟩ := HNOW.out
    rw [open_seal2 xs1 xs0 ck HM.out HOK.out now, if_neg (by omega), if_neg (by omega)]
  have HRES := hid hres; clear hres
  refine Calls.mono (open_calls g 84 c2 A2 (ck.seal xs0) xs1 xs0 true now w700 (HT.out.below K7.out.all) HK7.out HLS.out S7.out HBS.out HCP.out.1 HCP.out.2) ?_
  rw [HRES.out]
  rintro e w800 ⟨rfl, hb⟩
  simp only
  rw [← HR.out]
  have K8 := hid (K7.out.below hb); have D8 := hid ((hb.block _ (lt_of_block D7.out)).trans D7.out); have HZ8 := hid (Below.refl w800.heap.size w800)
  clear hb HRES K7 HK7 S7 D7
  go_wp2_with (with_reducible refine hold_op (o := ⟨none, _, _, _, _, _⟩) ?_)
  refine hid ?_
  have hO : (w800.alloc (.cells #[Value.int IntKind.i64 0, Value.int IntKind.i64 0, Value.int IntKind.u16 0, Value.int IntKind.u16 0, Value.int IntKind.u32 0, Value.int IntKind.u32 0, Value.int IntKind.u32 0, Value.int IntKind.u32 0, Value.int IntKind.u32 0, Value.int IntKind.u16 0, Value.int IntKind.u16 0, Value.int IntKind.u32 0, Value.int IntKind.u32 0] 40)).heap[w800.heap.size]? = some (.cells #[Value.int IntKind.i64 0, Value.int IntKind.i64 0, Value.int IntKind.u16 0, Value.int IntKind.u16 0, Value.int IntKind.u32 0, Value.int IntKind.u32 0, Value.int IntKind.u32 0, Value.int IntKind.u32 0, Value.int IntKind.u32 0, Value.int IntKind.u16 0, Value.int IntKind.u16 0, Value.int IntKind.u32 0, Value.int IntKind.u32 0] 40 (0, 0)) := heap_alloc_new _ _
  have hA : Below w800.heap.size w800 (w800.alloc (.cells #[Value.int IntKind.i64 0, Value.int IntKind.i64 0, Value.int IntKind.u16 0, Value.int IntKind.u16 0, Value.int IntKind.u32 0, Value.int IntKind.u32 0, Value.int IntKind.u32 0, Value.int IntKind.u32 0, Value.int IntKind.u32 0, Value.int IntKind.u16 0, Value.int IntKind.u16 0, Value.int IntKind.u32 0, Value.int IntKind.u32 0] 40)) := (Below.refl _ _).alloc (Nat.le_refl _) _
  generalize w800.alloc (.cells #[Value.int IntKind.i64 0, Value.int IntKind.i64 0, Value.int IntKind.u16 0, Value.int IntKind.u16 0, Value.int IntKind.u32 0, Value.int IntKind.u32 0, Value.int IntKind.u32 0, Value.int IntKind.u32 0, Value.int IntKind.u32 0, Value.int IntKind.u16 0, Value.int IntKind.u16 0, Value.int IntKind.u32 0, Value.int IntKind.u32 0] 40) = wz at *
  have HO := hid hO; have HA := hid hA
  clear hO hA
  refine wpList_store_row rfl 40 (.tmp 14) (.tmp 68) rfl w800.heap.size R rfl rfl 40 _ HO.out (by rw [HR.out]; kernel_rfl) (by rw [HR.out]; rfl) (by rw [HR.out]; exact Ck.one _) ?_
  have E9 := hid (setRow_heap wz w800.heap.size _ R 40 _ HO.out)
  have hV := below_setRow HA.out (Nat.le_refl _) R
  generalize wz.setRow w800.heap.size R = w900 at *
  have K9 := hid (K8.out.below hV); have HZK9 := hid (below_then HZ8.out hV)
  clear hV HO HA
  simp only [Act.put, List.setIfInBounds_toArray, List.set_cons_succ, List.set_cons_zero]
  have D9 := hid ((HZK9.out.block _ (lt_of_block D8.out)).trans D8.out)
  clear D8
  go_wp2_with (go_at_call 25; refine hold ?_)
  refine hid ?_
  refine Calls.mono (clive_calls w900 (HT.out.below K9.out.all)) ?_
  rintro e wA ⟨rfl, hb⟩
  have KA := hid (K9.out.below hb)
  have hbx := hid hb
  clear hb
  have DA := hid ((hbx.out.block _ (lt_of_block D9.out)).trans D9.out)
  have EA := hid ((hbx.out.block _ (lt_of_block E9.out)).trans E9.out)
  clear hbx D9 E9
  go_wp2_with (with_reducible refine hold_op (o := ⟨some 88, _, _, _, _, _⟩) ?_)
  refine hid ?_
  refine BigFrame.wpList_want rfl fun K hK => wp_load_row 40 (.tmp 11) rfl (w500.heap.size) rfl 40 R (0, 0) _ DA.out Tryd.underlying40 rfl (by rw [HR.out]; kernel_rfl) (hK _ _ ?_)
  simp only [Act.put, List.setIfInBounds_toArray, List.set_cons_succ, List.set_cons_zero]
  go_wp2_with (with_reducible refine hold_op (o := ⟨some 89, _, _, _, _, _⟩) ?_)
  refine hid ?_
  refine BigFrame.wpList_want rfl fun K hK => wp_load_row 40 (.tmp 4) rfl (w.heap.size + 1) rfl 40 R (0, 0) _ KA.out.c Tryd.underlying40 rfl (by rw [HR.out]; kernel_rfl) (hK _ _ ?_)
  simp only [Act.put, List.setIfInBounds_toArray, List.set_cons_succ, List.set_cons_zero]
  go_wp2_with (with_reducible refine hold_op (o := ⟨some 90, _, _, _, _, _⟩) ?_)
  refine hid ?_
  refine BigFrame.wpList_want rfl fun K hK => wp_eqagg 40 _ _ rfl _ _ rfl rfl Tryd.eqGuardType40 true (eqckR wA ck R HR.out) (hK _ _ ?_)
  simp only [Act.put, List.setIfInBounds_toArray, List.set_cons_succ, List.set_cons_zero]
  go_wp2_with (with_reducible refine hold_op (o := ⟨some 93, _, _, _, _, _⟩) ?_)
  refine hid ?_
  refine BigFrame.wpList_want rfl fun K hK => wp_load_row 40 (.tmp 14) rfl (w800.heap.size) rfl 40 R (0, 0) _ EA.out Tryd.underlying40 rfl (by rw [HR.out]; kernel_rfl) (hK _ _ ?_)
  simp only [Act.put, List.setIfInBounds_toArray, List.set_cons_succ, List.set_cons_zero]
  go_wp2_with (with_reducible refine hold_op (o := ⟨some 94, _, _, _, _, _⟩) ?_)
  refine hid ?_
  refine BigFrame.wpList_want rfl fun K hK => wp_load_row 40 (.tmp 4) rfl (w.heap.size + 1) rfl 40 R (0, 0) _ KA.out.c Tryd.underlying40 rfl (by rw [HR.out]; kernel_rfl) (hK _ _ ?_)
  simp only [Act.put, List.setIfInBounds_toArray, List.set_cons_succ, List.set_cons_zero]
  go_wp2_with (with_reducible refine hold_op (o := ⟨some 95, _, _, _, _, _⟩) ?_)
  refine hid ?_
  refine BigFrame.wpList_want rfl fun K hK => wp_eqagg 40 _ _ rfl _ _ rfl rfl Tryd.eqGuardType40 true (eqckR wA ck R HR.out) (hK _ _ ?_)
  simp only [Act.put, List.setIfInBounds_toArray, List.set_cons_succ, List.set_cons_zero]
  go_wp2
  go_ret
  exact ⟨rfl, KA.out.all⟩
end Go.Proofs.YtaieajfgcnaedaaDoor
