/-
  LAYER 6, WALKS: a cookie lives from when it is made for its life.
-/
import Derived.Test.YtaieajfgcnaedaaDoorCookF
set_option linter.unusedVariables false
set_option linter.unusedSimpArgs false
namespace Go.Proofs.YtaieajfgcnaedaaDoor
open Go.RowKit

theorem eqckR (W : World) (c : Ck) (R : Array Value) (h : R = c.cells) : (binOp .eql 40 (.agg R) (.agg R)).run Tryd.prog W = .ok (.bool true) W := by rw [h]; exact eqck W c
theorem wp_eqagg {P : Program} {w : World} {o : Oper} {a : Act} {K : Act → World → Prop} {Q : Exit → Act → World → Prop} (t : TypeId) (x y : Operand) (ho : o.op = .binOp .eql t x y t)
    (vx vy : Array Value) (hx : a.eval x = .agg vx) (hy : a.eval y = .agg vy) (hm : P.eqGuardType P.depth t = false) (b : Bool) (hr : (binOp .eql t (.agg vx) (.agg vy)).run P w = .ok (.bool b) w) (h : K (a.put o.dst (.bool b)) w) : o.wp P a w K Q := by
  unfold Oper.wp
  have hg : (eqGuard .eql t x y (.agg vx) (.agg vy)).run P w = .ok () w := run_eqGuard_agg w .eql t x y vx vy hm
  simp [execOp, ho, hx, hy, hr, hg, Result.andThen]
  exact h
set_option maxHeartbeats 12800000 in
set_option maxRecDepth 100000 in
theorem CookieLife_calls (w : World) (hT : Tab w) (c n : Nat) (A : Option Addr) (xs : List Int) (hn : xs.length = n) (hR : Rd w .u8 A xs) (hb : Bytes xs) (hA : A = none → c = 0) (hl : n ≤ 140737488351232) (ck : Ck) (hok : ck.Ok) (now : Int) (hnow : -9223372036854775808 ≤ now ∧ now ≤ 9223372036854775807) :
    Calls Tryd.prog 8 #[.slice A n c, .agg ck.cells, .int .i64 now] w fun e w' => e = .returned (.bool true) ∧ Below w.heap.size w w' := by
  have HT := hid hT; have HN := hid hn; have HRx := hid hR; have HBx := hid hb; have HAx := hid hA; have HOK := hid hok; have HB := hid (Below.refl w.heap.size w)
  clear hT hn hR hb hA hok
  obtain ⟨R, hR⟩ : ∃ R, R = ck.cells := ⟨_, rfl⟩
  rw [← hR]
  have HR := hid hR; clear hR
  go_enter Tryd.func8, Tryd.ntmps8
  go_wp2_with (go_at_call 23; refine hold ?_)
  refine hid ?_
  have hO : (w.alloc (.cells R 40)).heap[w.heap.size]? = some (.cells R 40 (0, 0)) := heap_alloc_new _ _
  have hA : Below w.heap.size w (w.alloc (.cells R 40)) := (Below.refl _ _).alloc (Nat.le_refl _) _
  have hO' := hid hO; have hA' := hid hA
  clear hO hA
  generalize w.alloc (.cells R 40) = w1 at *
  have T_2 := hid (HT.out.below hA'.out)
  have RX_3 := hid (HRx.out.below hA'.out)
  have B_4 := hid (below_then HB.out hA'.out)
  clear HT HRx HB
  have C_5 := hid hO'.out
  clear hO' hA'
  refine Calls.mono (cnew_calls c n A xs HN.out w1 RX_3.out HAx.out HBx.out hl) ?_
  rintro e w100 ⟨g, rfl, hg, hK, hb⟩
  clear hg
  have T_6 := hid (T_2.out.below hb)
  have RX_7 := hid (RX_3.out.below hb)
  have B_8 := hid (below_then B_4.out hb)
  have C_9 := hid ((hb.block _ (lt_of_block C_5.out)).trans C_5.out)
  clear T_2 RX_3 B_4 C_5
  clear hb
  have HK := hid hK; clear hK
  clear RX_7
  go_wp2_with (with_reducible refine hold_op (o := ⟨some 18, _, _, _, _, _⟩) ?_)
  refine hid ?_
  refine wpList_load_row rfl 40 (.tmp 4) rfl (w.heap.size) rfl 40 R (0, 0) _ C_9.out Tryd.underlying40 rfl (by rw [HR.out]; kernel_rfl) ?_
  simp only [Act.put, List.setIfInBounds_toArray, List.set_cons_succ, List.set_cons_zero]
  go_wp2_with (go_at_call 24; refine hold ?_)
  refine hid ?_
  rw [HR.out]
  by_cases hm : ck.may
  rotate_left
  · refine Calls.mono (seal_may g ck hm w100) ?_
    rintro e w200 ⟨rfl, hb⟩
    rw [← HR.out]
    have T_10 := hid (T_6.out.below hb)
    have B_11 := hid (below_then B_8.out hb)
    have C_12 := hid ((hb.block _ (lt_of_block C_9.out)).trans C_9.out)
    have K_13 := hid (HK.out.below hb)
    clear T_6 B_8 C_9 HK
    clear hb hm hnow
    go_wp2_with (go_at_call 25; refine hold ?_)
    refine hid ?_
    refine Calls.mono (clive_calls w200 T_10.out) ?_
    rintro e w300 ⟨rfl, hb⟩
    have T_14 := hid (T_10.out.below hb)
    have B_15 := hid (below_then B_11.out hb)
    have C_16 := hid ((hb.block _ (lt_of_block C_12.out)).trans C_12.out)
    have K_17 := hid (K_13.out.below hb)
    clear T_10 B_11 C_12 K_13
    clear hb
    go_wp2
    go_ret
    exact ⟨rfl, B_15.out⟩
  refine Calls.mono (seal_calls g ck hm HOK.out xs [] false w100 T_6.out HK.out) ?_
  rintro e w200 ⟨v, rfl, ho, hb⟩
  rw [← HR.out]
  obtain ⟨A2, c2, rfl, hA2, hR2, _⟩ := ho.rd (by rw [Ck.seal_len]; omega)
  rw [Ck.seal_len] at ho ⊢
  have hcaps := ho.caps
  have hos := open_seal xs [] false ck hm HOK.out now
  have hbS := Ck.seal_bytes xs ck
  have hlS := Ck.seal_len xs ck
  generalize ck.seal xs = S at *
  have HCP := hid hcaps; have HBS := hid hbS; have HLS := hid hlS; have HM := hid hm
  clear hA2 ho hcaps hbS hlS hm
  have T_10 := hid (T_6.out.below hb)
  have B_11 := hid (below_then B_8.out hb)
  have C_12 := hid ((hb.block _ (lt_of_block C_9.out)).trans C_9.out)
  have K_13 := hid (HK.out.below hb)
  clear T_6 B_8 C_9 HK
  clear hb
  have HRS := hid hR2; clear hR2
  have HOS := hid hos; clear hos
  by_cases ha : now < 0 ∨ 1099511627776 < now
  · by_cases ha0 : now < 0
    · clear ha
      have hres : ckOpen xs [] false S now = (Ck.none, 2) := by rw [HOS.out]; rw [if_pos (.inl ha0)]
      have HRES := hid hres; clear hres HOS
      go_wp2_with (go_at_call 26; refine hold ?_)
      refine hid ?_
      refine Calls.mono (open_calls g 84 c2 A2 S xs [] false now w200 T_10.out K_13.out HLS.out HRS.out HBS.out HCP.out.1 HCP.out.2) ?_
      rw [HRES.out]
      rintro e w400 ⟨rfl, hb⟩
      simp only
      clear K_13
      clear HRS
      have T_14 := hid (T_10.out.below hb)
      have B_15 := hid (below_then B_11.out hb)
      have C_16 := hid ((hb.block _ (lt_of_block C_12.out)).trans C_12.out)
      clear T_10 B_11 C_12
      clear hb
      obtain ⟨R2, hR2⟩ : ∃ R2, R2 = Ck.none.cells := ⟨_, rfl⟩
      rw [← hR2]
      have HR2 := hid hR2; clear hR2
      go_wp2_with (with_reducible refine hold_op (o := ⟨none, _, _, _, _, _⟩) ?_)
      refine hid ?_
      have hO : (w400.alloc (.cells #[Value.int IntKind.i64 0, Value.int IntKind.i64 0, Value.int IntKind.u16 0, Value.int IntKind.u16 0, Value.int IntKind.u32 0, Value.int IntKind.u32 0, Value.int IntKind.u32 0, Value.int IntKind.u32 0, Value.int IntKind.u32 0, Value.int IntKind.u16 0, Value.int IntKind.u16 0, Value.int IntKind.u32 0, Value.int IntKind.u32 0] 40)).heap[w400.heap.size]? = some (.cells #[Value.int IntKind.i64 0, Value.int IntKind.i64 0, Value.int IntKind.u16 0, Value.int IntKind.u16 0, Value.int IntKind.u32 0, Value.int IntKind.u32 0, Value.int IntKind.u32 0, Value.int IntKind.u32 0, Value.int IntKind.u32 0, Value.int IntKind.u16 0, Value.int IntKind.u16 0, Value.int IntKind.u32 0, Value.int IntKind.u32 0] 40 (0, 0)) := heap_alloc_new _ _
      have hA : Below w400.heap.size w400 (w400.alloc (.cells #[Value.int IntKind.i64 0, Value.int IntKind.i64 0, Value.int IntKind.u16 0, Value.int IntKind.u16 0, Value.int IntKind.u32 0, Value.int IntKind.u32 0, Value.int IntKind.u32 0, Value.int IntKind.u32 0, Value.int IntKind.u32 0, Value.int IntKind.u16 0, Value.int IntKind.u16 0, Value.int IntKind.u32 0, Value.int IntKind.u32 0] 40)) := (Below.refl _ _).alloc (Nat.le_refl _) _
      have hO' := hid hO; have hA' := hid hA
      clear hO hA
      generalize w400.alloc (.cells #[Value.int IntKind.i64 0, Value.int IntKind.i64 0, Value.int IntKind.u16 0, Value.int IntKind.u16 0, Value.int IntKind.u32 0, Value.int IntKind.u32 0, Value.int IntKind.u32 0, Value.int IntKind.u32 0, Value.int IntKind.u32 0, Value.int IntKind.u16 0, Value.int IntKind.u16 0, Value.int IntKind.u32 0, Value.int IntKind.u32 0] 40) = w17 at *
      refine wpList_store_row rfl 40 (.tmp 10) (.tmp 35) rfl w400.heap.size R2 rfl rfl 40 _ hO'.out (by rw [HR2.out]; kernel_rfl) (by rw [HR2.out]; rfl) (by rw [HR2.out]; exact Ck.one _) ?_
      have hW := hid (setRow_heap w17 w400.heap.size _ R2 40 _ hO'.out)
      have hV := hid (below_setRow hA'.out (Nat.le_refl _) R2)
      clear hO' hA'
      generalize w17.setRow w400.heap.size R2 = w18 at *
      have T_19 := hid (T_14.out.below hV.out)
      have B_20 := hid (below_then B_15.out hV.out)
      have C_21 := hid ((hV.out.block _ (lt_of_block C_16.out)).trans C_16.out)
      clear T_14 B_15 C_16
      have D_22 := hid hW.out
      clear hW hV
      simp only [Act.put, List.setIfInBounds_toArray, List.set_cons_succ, List.set_cons_zero]
      go_wp2_with (go_at_call 25; refine hold ?_)
      refine hid ?_
      refine Calls.mono (clive_calls w18 T_19.out) ?_
      rintro e w500 ⟨rfl, hb⟩
      have T_23 := hid (T_19.out.below hb)
      have B_24 := hid (below_then B_20.out hb)
      have C_25 := hid ((hb.block _ (lt_of_block C_21.out)).trans C_21.out)
      have D_26 := hid ((hb.block _ (lt_of_block D_22.out)).trans D_22.out)
      clear T_19 B_20 C_21 D_22
      clear hb
      go_wp2
      go_ret
      exact ⟨rfl, B_24.out⟩
    · have ha1 : 1099511627776 < now := by omega
      clear ha
      have hres : ckOpen xs [] false S now = (Ck.none, 2) := by rw [HOS.out]; rw [if_pos (.inr ha1)]
      have HRES := hid hres; clear hres HOS
      go_wp2_with (go_at_call 26; refine hold ?_)
      refine hid ?_
      refine Calls.mono (open_calls g 84 c2 A2 S xs [] false now w200 T_10.out K_13.out HLS.out HRS.out HBS.out HCP.out.1 HCP.out.2) ?_
      rw [HRES.out]
      rintro e w400 ⟨rfl, hb⟩
      simp only
      clear K_13
      clear HRS
      have T_14 := hid (T_10.out.below hb)
      have B_15 := hid (below_then B_11.out hb)
      have C_16 := hid ((hb.block _ (lt_of_block C_12.out)).trans C_12.out)
      clear T_10 B_11 C_12
      clear hb
      obtain ⟨R2, hR2⟩ : ∃ R2, R2 = Ck.none.cells := ⟨_, rfl⟩
      rw [← hR2]
      have HR2 := hid hR2; clear hR2
      go_wp2_with (with_reducible refine hold_op (o := ⟨none, _, _, _, _, _⟩) ?_)
      refine hid ?_
      have hO : (w400.alloc (.cells #[Value.int IntKind.i64 0, Value.int IntKind.i64 0, Value.int IntKind.u16 0, Value.int IntKind.u16 0, Value.int IntKind.u32 0, Value.int IntKind.u32 0, Value.int IntKind.u32 0, Value.int IntKind.u32 0, Value.int IntKind.u32 0, Value.int IntKind.u16 0, Value.int IntKind.u16 0, Value.int IntKind.u32 0, Value.int IntKind.u32 0] 40)).heap[w400.heap.size]? = some (.cells #[Value.int IntKind.i64 0, Value.int IntKind.i64 0, Value.int IntKind.u16 0, Value.int IntKind.u16 0, Value.int IntKind.u32 0, Value.int IntKind.u32 0, Value.int IntKind.u32 0, Value.int IntKind.u32 0, Value.int IntKind.u32 0, Value.int IntKind.u16 0, Value.int IntKind.u16 0, Value.int IntKind.u32 0, Value.int IntKind.u32 0] 40 (0, 0)) := heap_alloc_new _ _
      have hA : Below w400.heap.size w400 (w400.alloc (.cells #[Value.int IntKind.i64 0, Value.int IntKind.i64 0, Value.int IntKind.u16 0, Value.int IntKind.u16 0, Value.int IntKind.u32 0, Value.int IntKind.u32 0, Value.int IntKind.u32 0, Value.int IntKind.u32 0, Value.int IntKind.u32 0, Value.int IntKind.u16 0, Value.int IntKind.u16 0, Value.int IntKind.u32 0, Value.int IntKind.u32 0] 40)) := (Below.refl _ _).alloc (Nat.le_refl _) _
      have hO' := hid hO; have hA' := hid hA
      clear hO hA
      generalize w400.alloc (.cells #[Value.int IntKind.i64 0, Value.int IntKind.i64 0, Value.int IntKind.u16 0, Value.int IntKind.u16 0, Value.int IntKind.u32 0, Value.int IntKind.u32 0, Value.int IntKind.u32 0, Value.int IntKind.u32 0, Value.int IntKind.u32 0, Value.int IntKind.u16 0, Value.int IntKind.u16 0, Value.int IntKind.u32 0, Value.int IntKind.u32 0] 40) = w17 at *
      refine wpList_store_row rfl 40 (.tmp 10) (.tmp 35) rfl w400.heap.size R2 rfl rfl 40 _ hO'.out (by rw [HR2.out]; kernel_rfl) (by rw [HR2.out]; rfl) (by rw [HR2.out]; exact Ck.one _) ?_
      have hW := hid (setRow_heap w17 w400.heap.size _ R2 40 _ hO'.out)
      have hV := hid (below_setRow hA'.out (Nat.le_refl _) R2)
      clear hO' hA'
      generalize w17.setRow w400.heap.size R2 = w18 at *
      have T_19 := hid (T_14.out.below hV.out)
      have B_20 := hid (below_then B_15.out hV.out)
      have C_21 := hid ((hV.out.block _ (lt_of_block C_16.out)).trans C_16.out)
      clear T_14 B_15 C_16
      have D_22 := hid hW.out
      clear hW hV
      simp only [Act.put, List.setIfInBounds_toArray, List.set_cons_succ, List.set_cons_zero]
      go_wp2_with (go_at_call 25; refine hold ?_)
      refine hid ?_
      refine Calls.mono (clive_calls w18 T_19.out) ?_
      rintro e w500 ⟨rfl, hb⟩
      have T_23 := hid (T_19.out.below hb)
      have B_24 := hid (below_then B_20.out hb)
      have C_25 := hid ((hb.block _ (lt_of_block C_21.out)).trans C_21.out)
      have D_26 := hid ((hb.block _ (lt_of_block D_22.out)).trans D_22.out)
      clear T_19 B_20 C_21 D_22
      clear hb
      go_wp2
      go_ret
      exact ⟨rfl, B_24.out⟩
  have ha0 : ¬ now < 0 := fun h => ha (.inl h)
  have ha1 : ¬ 1099511627776 < now := fun h => ha (.inr h)
  clear ha
  have hmm := HM.out
  obtain ⟨m1, m2, m3, m4⟩ := hmm
  obtain ⟨D, hD⟩ : ∃ D, D = now - ck.made := ⟨_, rfl⟩
  have hw1 : IntKind.i64.wrap (now - ck.made) = D := (IntWalk.i64_in _ (by omega)).trans hD.symm
  have HD := hid hD
  clear hD m1 m2 m3 m4 hnow
  by_cases hs : now < ck.made ∨ ck.made + ck.life < now
  · by_cases hs0 : now < ck.made
    · clear hs
      have hres : ckOpen xs [] false S now = (Ck.none, 8) := by rw [HOS.out]; rw [if_neg (by omega), if_pos (.inl hs0)]
      have HRES := hid hres; clear hres HOS
      go_wp2_with (go_at_call 26; refine hold ?_)
      refine hid ?_
      refine Calls.mono (open_calls g 84 c2 A2 S xs [] false now w200 T_10.out K_13.out HLS.out HRS.out HBS.out HCP.out.1 HCP.out.2) ?_
      rw [HRES.out]
      rintro e w400 ⟨rfl, hb⟩
      simp only
      clear K_13
      clear HRS
      have T_14 := hid (T_10.out.below hb)
      have B_15 := hid (below_then B_11.out hb)
      have C_16 := hid ((hb.block _ (lt_of_block C_12.out)).trans C_12.out)
      clear T_10 B_11 C_12
      clear hb
      obtain ⟨R2, hR2⟩ : ∃ R2, R2 = Ck.none.cells := ⟨_, rfl⟩
      rw [← hR2]
      have HR2 := hid hR2; clear hR2
      go_wp2_with (with_reducible refine hold_op (o := ⟨none, _, _, _, _, _⟩) ?_)
      refine hid ?_
      have hO : (w400.alloc (.cells #[Value.int IntKind.i64 0, Value.int IntKind.i64 0, Value.int IntKind.u16 0, Value.int IntKind.u16 0, Value.int IntKind.u32 0, Value.int IntKind.u32 0, Value.int IntKind.u32 0, Value.int IntKind.u32 0, Value.int IntKind.u32 0, Value.int IntKind.u16 0, Value.int IntKind.u16 0, Value.int IntKind.u32 0, Value.int IntKind.u32 0] 40)).heap[w400.heap.size]? = some (.cells #[Value.int IntKind.i64 0, Value.int IntKind.i64 0, Value.int IntKind.u16 0, Value.int IntKind.u16 0, Value.int IntKind.u32 0, Value.int IntKind.u32 0, Value.int IntKind.u32 0, Value.int IntKind.u32 0, Value.int IntKind.u32 0, Value.int IntKind.u16 0, Value.int IntKind.u16 0, Value.int IntKind.u32 0, Value.int IntKind.u32 0] 40 (0, 0)) := heap_alloc_new _ _
      have hA : Below w400.heap.size w400 (w400.alloc (.cells #[Value.int IntKind.i64 0, Value.int IntKind.i64 0, Value.int IntKind.u16 0, Value.int IntKind.u16 0, Value.int IntKind.u32 0, Value.int IntKind.u32 0, Value.int IntKind.u32 0, Value.int IntKind.u32 0, Value.int IntKind.u32 0, Value.int IntKind.u16 0, Value.int IntKind.u16 0, Value.int IntKind.u32 0, Value.int IntKind.u32 0] 40)) := (Below.refl _ _).alloc (Nat.le_refl _) _
      have hO' := hid hO; have hA' := hid hA
      clear hO hA
      generalize w400.alloc (.cells #[Value.int IntKind.i64 0, Value.int IntKind.i64 0, Value.int IntKind.u16 0, Value.int IntKind.u16 0, Value.int IntKind.u32 0, Value.int IntKind.u32 0, Value.int IntKind.u32 0, Value.int IntKind.u32 0, Value.int IntKind.u32 0, Value.int IntKind.u16 0, Value.int IntKind.u16 0, Value.int IntKind.u32 0, Value.int IntKind.u32 0] 40) = w17 at *
      refine wpList_store_row rfl 40 (.tmp 10) (.tmp 35) rfl w400.heap.size R2 rfl rfl 40 _ hO'.out (by rw [HR2.out]; kernel_rfl) (by rw [HR2.out]; rfl) (by rw [HR2.out]; exact Ck.one _) ?_
      have hW := hid (setRow_heap w17 w400.heap.size _ R2 40 _ hO'.out)
      have hV := hid (below_setRow hA'.out (Nat.le_refl _) R2)
      clear hO' hA'
      generalize w17.setRow w400.heap.size R2 = w18 at *
      have T_19 := hid (T_14.out.below hV.out)
      have B_20 := hid (below_then B_15.out hV.out)
      have C_21 := hid ((hV.out.block _ (lt_of_block C_16.out)).trans C_16.out)
      clear T_14 B_15 C_16
      have D_22 := hid hW.out
      clear hW hV
      simp only [Act.put, List.setIfInBounds_toArray, List.set_cons_succ, List.set_cons_zero]
      have x0 : w18.cell? ⟨w.heap.size, 0, none⟩ = some (.int .i64 ck.made) := cellOf C_21.out (by rw [HR.out]; rfl)
      have x1 : w18.cell? ⟨w.heap.size, 1, none⟩ = some (.int .i64 ck.life) := cellOf C_21.out (by rw [HR.out]; rfl)
      go_wp2_with (go_at_call 25; refine hold ?_)
      refine hid ?_
      refine Calls.mono (clive_calls w18 T_19.out) ?_
      rintro e w500 ⟨rfl, hb⟩
      have T_23 := hid (T_19.out.below hb)
      have B_24 := hid (below_then B_20.out hb)
      have C_25 := hid ((hb.block _ (lt_of_block C_21.out)).trans C_21.out)
      have D_26 := hid ((hb.block _ (lt_of_block D_22.out)).trans D_22.out)
      clear T_19 B_20 C_21 D_22
      clear hb
      clear x0 x1 hw1
      go_wp2_with (with_reducible refine hold_op (o := ⟨some 69, _, _, _, _, _⟩) ?_)
      refine hid ?_
      refine BigFrame.wpList_want rfl fun K hK => wp_load_row 40 (.tmp 10) rfl (w400.heap.size) rfl 40 R2 (0, 0) _ D_26.out Tryd.underlying40 rfl (by rw [HR2.out]; kernel_rfl) (hK _ _ ?_)
      simp only [Act.put, List.setIfInBounds_toArray, List.set_cons_succ, List.set_cons_zero]
      have he := eqck w500 Ck.none
      rw [← HR2.out] at he
      have hz : R2 = #[Value.int IntKind.i64 0, Value.int IntKind.i64 0, Value.int IntKind.u16 0, Value.int IntKind.u16 0, Value.int IntKind.u32 0, Value.int IntKind.u32 0, Value.int IntKind.u32 0, Value.int IntKind.u32 0, Value.int IntKind.u32 0, Value.int IntKind.u16 0, Value.int IntKind.u16 0, Value.int IntKind.u32 0, Value.int IntKind.u32 0] := HR2.out
      rw [hz] at he ⊢
      clear hz
      go_wp2
      go_ret
      exact ⟨rfl, B_24.out⟩
    · have hs1 : ck.life < D := by rw [HD.out]; omega
      clear hs
      have hres : ckOpen xs [] false S now = (Ck.none, 8) := by rw [HOS.out]; rw [if_neg (by omega), if_pos (by rw [HD.out] at hs1; omega)]
      have HRES := hid hres; clear hres HOS
      go_wp2_with (go_at_call 26; refine hold ?_)
      refine hid ?_
      refine Calls.mono (open_calls g 84 c2 A2 S xs [] false now w200 T_10.out K_13.out HLS.out HRS.out HBS.out HCP.out.1 HCP.out.2) ?_
      rw [HRES.out]
      rintro e w400 ⟨rfl, hb⟩
      simp only
      clear K_13
      clear HRS
      have T_14 := hid (T_10.out.below hb)
      have B_15 := hid (below_then B_11.out hb)
      have C_16 := hid ((hb.block _ (lt_of_block C_12.out)).trans C_12.out)
      clear T_10 B_11 C_12
      clear hb
      obtain ⟨R2, hR2⟩ : ∃ R2, R2 = Ck.none.cells := ⟨_, rfl⟩
      rw [← hR2]
      have HR2 := hid hR2; clear hR2
      go_wp2_with (with_reducible refine hold_op (o := ⟨none, _, _, _, _, _⟩) ?_)
      refine hid ?_
      have hO : (w400.alloc (.cells #[Value.int IntKind.i64 0, Value.int IntKind.i64 0, Value.int IntKind.u16 0, Value.int IntKind.u16 0, Value.int IntKind.u32 0, Value.int IntKind.u32 0, Value.int IntKind.u32 0, Value.int IntKind.u32 0, Value.int IntKind.u32 0, Value.int IntKind.u16 0, Value.int IntKind.u16 0, Value.int IntKind.u32 0, Value.int IntKind.u32 0] 40)).heap[w400.heap.size]? = some (.cells #[Value.int IntKind.i64 0, Value.int IntKind.i64 0, Value.int IntKind.u16 0, Value.int IntKind.u16 0, Value.int IntKind.u32 0, Value.int IntKind.u32 0, Value.int IntKind.u32 0, Value.int IntKind.u32 0, Value.int IntKind.u32 0, Value.int IntKind.u16 0, Value.int IntKind.u16 0, Value.int IntKind.u32 0, Value.int IntKind.u32 0] 40 (0, 0)) := heap_alloc_new _ _
      have hA : Below w400.heap.size w400 (w400.alloc (.cells #[Value.int IntKind.i64 0, Value.int IntKind.i64 0, Value.int IntKind.u16 0, Value.int IntKind.u16 0, Value.int IntKind.u32 0, Value.int IntKind.u32 0, Value.int IntKind.u32 0, Value.int IntKind.u32 0, Value.int IntKind.u32 0, Value.int IntKind.u16 0, Value.int IntKind.u16 0, Value.int IntKind.u32 0, Value.int IntKind.u32 0] 40)) := (Below.refl _ _).alloc (Nat.le_refl _) _
      have hO' := hid hO; have hA' := hid hA
      clear hO hA
      generalize w400.alloc (.cells #[Value.int IntKind.i64 0, Value.int IntKind.i64 0, Value.int IntKind.u16 0, Value.int IntKind.u16 0, Value.int IntKind.u32 0, Value.int IntKind.u32 0, Value.int IntKind.u32 0, Value.int IntKind.u32 0, Value.int IntKind.u32 0, Value.int IntKind.u16 0, Value.int IntKind.u16 0, Value.int IntKind.u32 0, Value.int IntKind.u32 0] 40) = w17 at *
      refine wpList_store_row rfl 40 (.tmp 10) (.tmp 35) rfl w400.heap.size R2 rfl rfl 40 _ hO'.out (by rw [HR2.out]; kernel_rfl) (by rw [HR2.out]; rfl) (by rw [HR2.out]; exact Ck.one _) ?_
      have hW := hid (setRow_heap w17 w400.heap.size _ R2 40 _ hO'.out)
      have hV := hid (below_setRow hA'.out (Nat.le_refl _) R2)
      clear hO' hA'
      generalize w17.setRow w400.heap.size R2 = w18 at *
      have T_19 := hid (T_14.out.below hV.out)
      have B_20 := hid (below_then B_15.out hV.out)
      have C_21 := hid ((hV.out.block _ (lt_of_block C_16.out)).trans C_16.out)
      clear T_14 B_15 C_16
      have D_22 := hid hW.out
      clear hW hV
      simp only [Act.put, List.setIfInBounds_toArray, List.set_cons_succ, List.set_cons_zero]
      have x0 : w18.cell? ⟨w.heap.size, 0, none⟩ = some (.int .i64 ck.made) := cellOf C_21.out (by rw [HR.out]; rfl)
      have x1 : w18.cell? ⟨w.heap.size, 1, none⟩ = some (.int .i64 ck.life) := cellOf C_21.out (by rw [HR.out]; rfl)
      go_wp2_with (go_at_call 25; refine hold ?_)
      refine hid ?_
      refine Calls.mono (clive_calls w18 T_19.out) ?_
      rintro e w500 ⟨rfl, hb⟩
      have T_23 := hid (T_19.out.below hb)
      have B_24 := hid (below_then B_20.out hb)
      have C_25 := hid ((hb.block _ (lt_of_block C_21.out)).trans C_21.out)
      have D_26 := hid ((hb.block _ (lt_of_block D_22.out)).trans D_22.out)
      clear T_19 B_20 C_21 D_22
      clear hb
      clear x0 x1 hw1
      go_wp2_with (with_reducible refine hold_op (o := ⟨some 69, _, _, _, _, _⟩) ?_)
      refine hid ?_
      refine BigFrame.wpList_want rfl fun K hK => wp_load_row 40 (.tmp 10) rfl (w400.heap.size) rfl 40 R2 (0, 0) _ D_26.out Tryd.underlying40 rfl (by rw [HR2.out]; kernel_rfl) (hK _ _ ?_)
      simp only [Act.put, List.setIfInBounds_toArray, List.set_cons_succ, List.set_cons_zero]
      have he := eqck w500 Ck.none
      rw [← HR2.out] at he
      have hz : R2 = #[Value.int IntKind.i64 0, Value.int IntKind.i64 0, Value.int IntKind.u16 0, Value.int IntKind.u16 0, Value.int IntKind.u32 0, Value.int IntKind.u32 0, Value.int IntKind.u32 0, Value.int IntKind.u32 0, Value.int IntKind.u32 0, Value.int IntKind.u16 0, Value.int IntKind.u16 0, Value.int IntKind.u32 0, Value.int IntKind.u32 0] := HR2.out
      rw [hz] at he ⊢
      clear hz
      go_wp2
      go_ret
      exact ⟨rfl, B_24.out⟩
  have hs0 : ¬ now < ck.made := fun h => hs (.inl h)
  have hs1 : ¬ ck.life < D := fun h => hs (.inr (by rw [HD.out] at h; omega))
  clear hs
  have hres : ckOpen xs [] false S now = (ck, 0) := by rw [HOS.out]; rw [if_neg (by omega), if_neg (by rw [HD.out] at hs1; omega)]
  have HRES := hid hres; clear hres HOS
  go_wp2_with (go_at_call 26; refine hold ?_)
  refine hid ?_
  refine Calls.mono (open_calls g 84 c2 A2 S xs [] false now w200 T_10.out K_13.out HLS.out HRS.out HBS.out HCP.out.1 HCP.out.2) ?_
  rw [HRES.out]
  rintro e w400 ⟨rfl, hb⟩
  simp only
  clear K_13
  clear HRS
  have T_14 := hid (T_10.out.below hb)
  have B_15 := hid (below_then B_11.out hb)
  have C_16 := hid ((hb.block _ (lt_of_block C_12.out)).trans C_12.out)
  clear T_10 B_11 C_12
  clear hb
  rw [← HR.out]
  go_wp2_with (with_reducible refine hold_op (o := ⟨none, _, _, _, _, _⟩) ?_)
  refine hid ?_
  have hO : (w400.alloc (.cells #[Value.int IntKind.i64 0, Value.int IntKind.i64 0, Value.int IntKind.u16 0, Value.int IntKind.u16 0, Value.int IntKind.u32 0, Value.int IntKind.u32 0, Value.int IntKind.u32 0, Value.int IntKind.u32 0, Value.int IntKind.u32 0, Value.int IntKind.u16 0, Value.int IntKind.u16 0, Value.int IntKind.u32 0, Value.int IntKind.u32 0] 40)).heap[w400.heap.size]? = some (.cells #[Value.int IntKind.i64 0, Value.int IntKind.i64 0, Value.int IntKind.u16 0, Value.int IntKind.u16 0, Value.int IntKind.u32 0, Value.int IntKind.u32 0, Value.int IntKind.u32 0, Value.int IntKind.u32 0, Value.int IntKind.u32 0, Value.int IntKind.u16 0, Value.int IntKind.u16 0, Value.int IntKind.u32 0, Value.int IntKind.u32 0] 40 (0, 0)) := heap_alloc_new _ _
  have hA : Below w400.heap.size w400 (w400.alloc (.cells #[Value.int IntKind.i64 0, Value.int IntKind.i64 0, Value.int IntKind.u16 0, Value.int IntKind.u16 0, Value.int IntKind.u32 0, Value.int IntKind.u32 0, Value.int IntKind.u32 0, Value.int IntKind.u32 0, Value.int IntKind.u32 0, Value.int IntKind.u16 0, Value.int IntKind.u16 0, Value.int IntKind.u32 0, Value.int IntKind.u32 0] 40)) := (Below.refl _ _).alloc (Nat.le_refl _) _
  have hO' := hid hO; have hA' := hid hA
  clear hO hA
  generalize w400.alloc (.cells #[Value.int IntKind.i64 0, Value.int IntKind.i64 0, Value.int IntKind.u16 0, Value.int IntKind.u16 0, Value.int IntKind.u32 0, Value.int IntKind.u32 0, Value.int IntKind.u32 0, Value.int IntKind.u32 0, Value.int IntKind.u32 0, Value.int IntKind.u16 0, Value.int IntKind.u16 0, Value.int IntKind.u32 0, Value.int IntKind.u32 0] 40) = w17 at *
  refine wpList_store_row rfl 40 (.tmp 10) (.tmp 35) rfl w400.heap.size R rfl rfl 40 _ hO'.out (by rw [HR.out]; kernel_rfl) (by rw [HR.out]; rfl) (by rw [HR.out]; exact Ck.one _) ?_
  have hW := hid (setRow_heap w17 w400.heap.size _ R 40 _ hO'.out)
  have hV := hid (below_setRow hA'.out (Nat.le_refl _) R)
  clear hO' hA'
  generalize w17.setRow w400.heap.size R = w18 at *
  have T_19 := hid (T_14.out.below hV.out)
  have B_20 := hid (below_then B_15.out hV.out)
  have C_21 := hid ((hV.out.block _ (lt_of_block C_16.out)).trans C_16.out)
  clear T_14 B_15 C_16
  have D_22 := hid hW.out
  clear hW hV
  simp only [Act.put, List.setIfInBounds_toArray, List.set_cons_succ, List.set_cons_zero]
  have x0 : w18.cell? ⟨w.heap.size, 0, none⟩ = some (.int .i64 ck.made) := cellOf C_21.out (by rw [HR.out]; rfl)
  have x1 : w18.cell? ⟨w.heap.size, 1, none⟩ = some (.int .i64 ck.life) := cellOf C_21.out (by rw [HR.out]; rfl)
  go_wp2_with (go_at_call 25; refine hold ?_)
  refine hid ?_
  refine Calls.mono (clive_calls w18 T_19.out) ?_
  rintro e w500 ⟨rfl, hb⟩
  have T_23 := hid (T_19.out.below hb)
  have B_24 := hid (below_then B_20.out hb)
  have C_25 := hid ((hb.block _ (lt_of_block C_21.out)).trans C_21.out)
  have D_26 := hid ((hb.block _ (lt_of_block D_22.out)).trans D_22.out)
  clear T_19 B_20 C_21 D_22
  clear hb
  clear x0 x1 hw1 hs0 hs1
  go_wp2_with (with_reducible refine hold_op (o := ⟨some 79, _, _, _, _, _⟩) ?_)
  refine hid ?_
  refine BigFrame.wpList_want rfl fun K hK => wp_load_row 40 (.tmp 10) rfl (w400.heap.size) rfl 40 R (0, 0) _ D_26.out Tryd.underlying40 rfl (by rw [HR.out]; kernel_rfl) (hK _ _ ?_)
  simp only [Act.put, List.setIfInBounds_toArray, List.set_cons_succ, List.set_cons_zero]
  go_wp2_with (with_reducible refine hold_op (o := ⟨some 80, _, _, _, _, _⟩) ?_)
  refine hid ?_
  refine BigFrame.wpList_want rfl fun K hK => wp_load_row 40 (.tmp 4) rfl (w.heap.size) rfl 40 R (0, 0) _ C_25.out Tryd.underlying40 rfl (by rw [HR.out]; kernel_rfl) (hK _ _ ?_)
  simp only [Act.put, List.setIfInBounds_toArray, List.set_cons_succ, List.set_cons_zero]
  go_wp2_with (with_reducible refine hold_op (o := ⟨some 81, _, _, _, _, _⟩) ?_)
  refine hid ?_
  refine BigFrame.wpList_want rfl fun K hK => wp_eqagg 40 _ _ rfl _ _ rfl rfl Tryd.eqGuardType40 true (eqckR w500 ck R HR.out) (hK _ _ ?_)
  simp only [Act.put, List.setIfInBounds_toArray, List.set_cons_succ, List.set_cons_zero]
  go_wp2
  go_ret
  exact ⟨rfl, B_24.out⟩
end Go.Proofs.YtaieajfgcnaedaaDoor
