/-
  LAYER 6, WALKS: live; Turn and Fork of nil; two cookies that are the same.
-/
import Derived.Test.YtaieajfgcnaedaaDoorCookC
import Derived.Test.YtaieajfgcnaedaaDoorCookE
import Derived.Test.YtaieajfgcnaedaaDoorCookP
set_option linter.unusedVariables false
set_option linter.unusedSimpArgs false
namespace Go.Proofs.YtaieajfgcnaedaaDoor
open Go.RowKit

theorem turn_nil (w : World) (A : Option Addr) (n c : Nat) : Calls Tryd.prog 29 #[.pointer none, .slice A n c] w fun e w' => e = .returned (.int .i64 1) ∧ w = w' := by
  go_enter Tryd.func29, Tryd.ntmps29
  go_wp2
  go_ret
  exact ⟨rfl, rfl⟩
theorem cfork_nil (w : World) : Calls Tryd.prog 30 #[.pointer none] w fun e w' => e = .returned (.pointer none) ∧ w = w' := by
  go_enter Tryd.func30, Tryd.ntmps30
  go_wp2
  go_ret
  exact ⟨rfl, rfl⟩
theorem ck_stood : Tryd.prog.stoodInHeld 40 = false := by kernel_rfl
set_option maxHeartbeats 1000000 in
theorem eqck0 (W : World) (c : Ck) (d : Nat) : (Op.equalIn (d + 1 + 1) 40 (.agg c.cells) (.agg c.cells)).run Tryd.prog W = .ok true W := by
  have p0 : ∀ (W : World) (x0 x1 x2 x3 x4 x5 x6 x7 x8 x9 x10 x11 x12 : Value), (part 3 #[x0, x1, x2, x3, x4, x5, x6, x7, x8, x9, x10, x11, x12] 0).run Tryd.prog W = .ok x0 W := fun _ _ _ _ _ _ _ _ _ _ _ _ _ _  => by kernel_rfl
  have p1 : ∀ (W : World) (x0 x1 x2 x3 x4 x5 x6 x7 x8 x9 x10 x11 x12 : Value), (part 3 #[x0, x1, x2, x3, x4, x5, x6, x7, x8, x9, x10, x11, x12] 1).run Tryd.prog W = .ok x1 W := fun _ _ _ _ _ _ _ _ _ _ _ _ _ _  => by kernel_rfl
  have p2 : ∀ (W : World) (x0 x1 x2 x3 x4 x5 x6 x7 x8 x9 x10 x11 x12 : Value), (part 37 #[x0, x1, x2, x3, x4, x5, x6, x7, x8, x9, x10, x11, x12] 2).run Tryd.prog W = .ok x2 W := fun _ _ _ _ _ _ _ _ _ _ _ _ _ _  => by kernel_rfl
  have p3 : ∀ (W : World) (x0 x1 x2 x3 x4 x5 x6 x7 x8 x9 x10 x11 x12 : Value), (part 37 #[x0, x1, x2, x3, x4, x5, x6, x7, x8, x9, x10, x11, x12] 3).run Tryd.prog W = .ok x3 W := fun _ _ _ _ _ _ _ _ _ _ _ _ _ _  => by kernel_rfl
  have p4 : ∀ (W : World) (x0 x1 x2 x3 x4 x5 x6 x7 x8 x9 x10 x11 x12 : Value), (part 38 #[x0, x1, x2, x3, x4, x5, x6, x7, x8, x9, x10, x11, x12] 4).run Tryd.prog W = .ok x4 W := fun _ _ _ _ _ _ _ _ _ _ _ _ _ _  => by kernel_rfl
  have p5 : ∀ (W : World) (x0 x1 x2 x3 x4 x5 x6 x7 x8 x9 x10 x11 x12 : Value), (part 38 #[x0, x1, x2, x3, x4, x5, x6, x7, x8, x9, x10, x11, x12] 5).run Tryd.prog W = .ok x5 W := fun _ _ _ _ _ _ _ _ _ _ _ _ _ _  => by kernel_rfl
  have p6 : ∀ (W : World) (x0 x1 x2 x3 x4 x5 x6 x7 x8 x9 x10 x11 x12 : Value), (part 38 #[x0, x1, x2, x3, x4, x5, x6, x7, x8, x9, x10, x11, x12] 6).run Tryd.prog W = .ok x6 W := fun _ _ _ _ _ _ _ _ _ _ _ _ _ _  => by kernel_rfl
  have p7 : ∀ (W : World) (x0 x1 x2 x3 x4 x5 x6 x7 x8 x9 x10 x11 x12 : Value), (part 38 #[x0, x1, x2, x3, x4, x5, x6, x7, x8, x9, x10, x11, x12] 7).run Tryd.prog W = .ok x7 W := fun _ _ _ _ _ _ _ _ _ _ _ _ _ _  => by kernel_rfl
  have p8 : ∀ (W : World) (x0 x1 x2 x3 x4 x5 x6 x7 x8 x9 x10 x11 x12 : Value), (part 38 #[x0, x1, x2, x3, x4, x5, x6, x7, x8, x9, x10, x11, x12] 8).run Tryd.prog W = .ok x8 W := fun _ _ _ _ _ _ _ _ _ _ _ _ _ _  => by kernel_rfl
  have p9 : ∀ (W : World) (x0 x1 x2 x3 x4 x5 x6 x7 x8 x9 x10 x11 x12 : Value), (part 37 #[x0, x1, x2, x3, x4, x5, x6, x7, x8, x9, x10, x11, x12] 9).run Tryd.prog W = .ok x9 W := fun _ _ _ _ _ _ _ _ _ _ _ _ _ _  => by kernel_rfl
  have p10 : ∀ (W : World) (x0 x1 x2 x3 x4 x5 x6 x7 x8 x9 x10 x11 x12 : Value), (part 37 #[x0, x1, x2, x3, x4, x5, x6, x7, x8, x9, x10, x11, x12] 10).run Tryd.prog W = .ok x10 W := fun _ _ _ _ _ _ _ _ _ _ _ _ _ _  => by kernel_rfl
  have p11 : ∀ (W : World) (x0 x1 x2 x3 x4 x5 x6 x7 x8 x9 x10 x11 x12 : Value), (part 38 #[x0, x1, x2, x3, x4, x5, x6, x7, x8, x9, x10, x11, x12] 11).run Tryd.prog W = .ok x11 W := fun _ _ _ _ _ _ _ _ _ _ _ _ _ _  => by kernel_rfl
  have p12 : ∀ (W : World) (x0 x1 x2 x3 x4 x5 x6 x7 x8 x9 x10 x11 x12 : Value), (part 38 #[x0, x1, x2, x3, x4, x5, x6, x7, x8, x9, x10, x11, x12] 12).run Tryd.prog W = .ok x12 W := fun _ _ _ _ _ _ _ _ _ _ _ _ _ _  => by kernel_rfl
  have hi := fun (W : World) (a : Int) => run_equalIn_int (P := Tryd.prog) W d 3 .i64 .i64 a a Tryd.underlying3
  have hj := fun (W : World) (a : Int) => run_equalIn_int (P := Tryd.prog) W d 37 .u16 .u16 a a Tryd.underlying37
  have hk := fun (W : World) (a : Int) => run_equalIn_int (P := Tryd.prog) W d 38 .u32 .u32 a a Tryd.underlying38
  simp only [beq_self_eq_true] at hi hj hk
  unfold Ck.cells
  rw [Op.equalIn]
  simp [run_underlying Tryd.underlying40, ck_stood, hi, hj, hk, p0, p1, p2, p3, p4, p5, p6, p7, p8, p9, p10, p11, p12]
theorem eqck (W : World) (c : Ck) : (binOp .eql 40 (.agg c.cells) (.agg c.cells)).run Tryd.prog W = .ok (.bool true) W := by
  simp only [binOp]
  simp [Op.equal, Op.maxDepth, eqck0 W c 9998]
theorem Own.caps {w : World} {base : Nat} {e : TypeId} {k : IntKind} {A : Option Addr} {n c : Nat} {xs : List Int} (h : Own w base e k (.slice A n c) xs) : n ≤ c ∧ c ≤ 9223372036854775807 := by
  rcases h.2 with ⟨h', h0⟩ | ⟨g', c', cur, h', _, _, h1, h2, _⟩
  · injection h' with a b c
    subst b; subst c; exact ⟨Nat.le_refl _, by omega⟩
  · injection h' with a b c
    subst c; subst b
    exact ⟨h1, h2⟩
def liveC : Ck := ⟨5, 9, 0, 0, 7, 0, 0, 0, 0, 0, 0, 0, 0⟩
theorem liveC_may : liveC.may := by decide
theorem liveC_ok : liveC.Ok := by constructor <;> exact ⟨by decide, by decide⟩
theorem liveC_14 : ckOpen [115] [] false (liveC.seal [115]) 14 = (liveC, 0) := by rw [open_seal _ _ _ _ liveC_may liveC_ok]; rfl
theorem liveC_15 : ckOpen [115] [] false (liveC.seal [115]) 15 = (Ck.none, 8) := by rw [open_seal _ _ _ _ liveC_may liveC_ok]; rfl
theorem Ck.one (c : Ck) : c.cells.all (·.oneCell') = true := by simp [Ck.cells, Value.oneCell']
theorem Ck.size (c : Ck) : c.cells.size = 13 := rfl
theorem none_cells' : Ck.none.cells = #[Value.int IntKind.i64 0, Value.int IntKind.i64 0, Value.int IntKind.u16 0, Value.int IntKind.u16 0, Value.int IntKind.u32 0, Value.int IntKind.u32 0, Value.int IntKind.u32 0, Value.int IntKind.u32 0, Value.int IntKind.u32 0, Value.int IntKind.u16 0, Value.int IntKind.u16 0, Value.int IntKind.u32 0, Value.int IntKind.u32 0] := rfl
set_option maxHeartbeats 6400000 in
set_option maxRecDepth 100000 in
theorem clive_calls (w : World) (hT : Tab w) :
    Calls Tryd.prog 25 #[] w fun e w' => e = .returned (.bool true) ∧ Below w.heap.size w w' := by
  have HT := hid hT
  clear hT
  have c0 := Lib.run_convert_bytes_const (P := Tryd.prog) w 22 5 #[.int .u8 115] 1 1 Tryd.underlying22 Tryd.underlying5
  simp only [List.size_toArray, List.length_cons, List.length_nil, Nat.zero_add, Nat.reduceAdd] at c0
  go_enter Tryd.func25, Tryd.ntmps25
  go_wp2_with (go_at_call 23; refine hold ?_)
  have hR0 : Rd (w.alloc (.cells #[.int .u8 115] 5 (1, 2))) .u8 (some ⟨w.heap.size, 0, none⟩) [115] := Rd.lit rfl (by simp)
  have hB0 : Below w.heap.size w (w.alloc (.cells #[.int .u8 115] 5 (1, 2))) := (Below.refl _ _).alloc (Nat.le_refl _) _
  have HR0 := hid hR0; have HB0 := hid hB0
  clear hR0 hB0 c0
  generalize w.alloc (.cells #[.int .u8 115] 5 (1, 2)) = w1 at *
  refine hid ?_
  refine Calls.mono (cnew_calls 1 1 _ [115] rfl w1 HR0.out (fun h => by simp at h) (by intro x hx; simp at hx; omega) (by omega)) ?_
  rintro e w2 ⟨g, rfl, hg, hK, hB2⟩
  have HB2 := hid (below_then HB0.out hB2); have HK := hid hK
  clear hB2 hK hg HR0 HB0
  go_wp2_with (go_at_call 24; refine hold ?_)
  refine hid ?_
  refine Calls.mono (seal_calls g liveC liveC_may liveC_ok [115] [] false w2 (HT.out.below HB2.out) HK.out) ?_
  rintro e w3 ⟨v, rfl, ho, hb3⟩
  obtain ⟨A, c, rfl, hA, hR, _⟩ := ho.rd (by rw [Ck.seal_len]; omega)
  rw [Ck.seal_len] at ho ⊢
  have hcaps := ho.caps
  have HB3 := hid (below_then HB2.out hb3); have HK3 := hid (HK.out.below hb3)
  have hbS := Ck.seal_bytes [115] liveC
  have hlS := Ck.seal_len [115] liveC
  have e14 := liveC_14
  have e15 := liveC_15
  generalize liveC.seal [115] = S at *
  have HR3 := hid hR; have HBS := hid hbS; have HLS := hid hlS; have HE4 := hid e14; have HE5 := hid e15; have HCP := hid hcaps
  clear hb3 HB2 HK hA ho hR hbS hlS e14 e15 hcaps
  go_wp2_with (go_at_call 26; refine hold ?_)
  refine hid ?_
  refine Calls.mono (open_calls g 84 c A S [115] [] false 14 w3 (HT.out.below HB3.out) HK3.out HLS.out HR3.out HBS.out HCP.out.1 HCP.out.2) ?_
  rw [HE4.out]
  rintro e w4 ⟨rfl, hb1⟩
  have HX1 := hid (below_then HB3.out hb1)
  obtain ⟨R1, hr1⟩ : ∃ R, R = liveC.cells := ⟨_, rfl⟩
  simp only
  rw [← hr1]
  have HQ1 := hid hr1
  have HKa1 := hid (HK3.out.below hb1); have HRa1 := hid (HR3.out.below hb1)
  clear hr1 hb1 HB3 HK3 HR3
  go_wp2_with (with_reducible refine hold_op (o := ⟨none, _, _, _, _, _⟩) ?_)
  have hO1 : (w4.alloc (.cells #[Value.int IntKind.i64 0, Value.int IntKind.i64 0, Value.int IntKind.u16 0, Value.int IntKind.u16 0, Value.int IntKind.u32 0, Value.int IntKind.u32 0, Value.int IntKind.u32 0, Value.int IntKind.u32 0, Value.int IntKind.u32 0, Value.int IntKind.u16 0, Value.int IntKind.u16 0, Value.int IntKind.u32 0, Value.int IntKind.u32 0] 40)).heap[w4.heap.size]? = some (.cells #[Value.int IntKind.i64 0, Value.int IntKind.i64 0, Value.int IntKind.u16 0, Value.int IntKind.u16 0, Value.int IntKind.u32 0, Value.int IntKind.u32 0, Value.int IntKind.u32 0, Value.int IntKind.u32 0, Value.int IntKind.u32 0, Value.int IntKind.u16 0, Value.int IntKind.u16 0, Value.int IntKind.u32 0, Value.int IntKind.u32 0] 40 (0, 0)) := heap_alloc_new _ _
  have hA1 : Below w4.heap.size w4 (w4.alloc (.cells #[Value.int IntKind.i64 0, Value.int IntKind.i64 0, Value.int IntKind.u16 0, Value.int IntKind.u16 0, Value.int IntKind.u32 0, Value.int IntKind.u32 0, Value.int IntKind.u32 0, Value.int IntKind.u32 0, Value.int IntKind.u32 0, Value.int IntKind.u16 0, Value.int IntKind.u16 0, Value.int IntKind.u32 0, Value.int IntKind.u32 0] 40)) := (Below.refl _ _).alloc (Nat.le_refl _) _
  have HO1 := hid hO1; have HA1 := hid hA1
  clear hO1 hA1
  generalize w4.alloc (.cells #[Value.int IntKind.i64 0, Value.int IntKind.i64 0, Value.int IntKind.u16 0, Value.int IntKind.u16 0, Value.int IntKind.u32 0, Value.int IntKind.u32 0, Value.int IntKind.u32 0, Value.int IntKind.u32 0, Value.int IntKind.u32 0, Value.int IntKind.u16 0, Value.int IntKind.u16 0, Value.int IntKind.u32 0, Value.int IntKind.u32 0] 40) = w5 at *
  refine hid ?_
  refine wpList_store_row rfl 40 (.tmp 4) (.tmp 21) rfl w4.heap.size R1 rfl rfl 40 _ HO1.out (by rw [HQ1.out]; kernel_rfl) (by rw [HQ1.out]; rfl) (by rw [HQ1.out]; exact Ck.one _) ?_
  have HW1 := hid (setRow_heap w5 w4.heap.size _ R1 40 _ HO1.out)
  have HV1 := hid (below_setRow HA1.out (Nat.le_refl _) R1)
  clear HO1 HA1
  generalize w5.setRow w4.heap.size R1 = w6 at *
  have HB6 := hid (below_then HX1.out HV1.out); have HK6 := hid (HKa1.out.below HV1.out); have HR6 := hid (HRa1.out.below HV1.out)
  clear HX1 HV1 HKa1 HRa1
  dsimp only [Act.put]
  go_wp2_with (go_at_call 26; refine hold ?_)
  refine hid ?_
  refine Calls.mono (open_calls g 84 c A S [115] [] false 15 w6 (HT.out.below HB6.out) HK6.out HLS.out HR6.out HBS.out HCP.out.1 HCP.out.2) ?_
  rw [HE5.out]
  rintro e w7 ⟨rfl, hb2⟩
  have HX2 := hid (below_then HB6.out hb2)
  have HWk0 := hid ((hb2.block _ (lt_of_block HW1.out)).trans HW1.out)
  clear HW1
  obtain ⟨R2, hr2⟩ : ∃ R, R = Ck.none.cells := ⟨_, rfl⟩
  simp only
  rw [← hr2]
  have HQ2 := hid hr2
  have HKa2 := hid (HK6.out.below hb2); have HRa2 := hid (HR6.out.below hb2)
  clear hr2 hb2 HB6 HK6 HR6
  go_wp2_with (with_reducible refine hold_op (o := ⟨none, _, _, _, _, _⟩) ?_)
  have hO2 : (w7.alloc (.cells #[Value.int IntKind.i64 0, Value.int IntKind.i64 0, Value.int IntKind.u16 0, Value.int IntKind.u16 0, Value.int IntKind.u32 0, Value.int IntKind.u32 0, Value.int IntKind.u32 0, Value.int IntKind.u32 0, Value.int IntKind.u32 0, Value.int IntKind.u16 0, Value.int IntKind.u16 0, Value.int IntKind.u32 0, Value.int IntKind.u32 0] 40)).heap[w7.heap.size]? = some (.cells #[Value.int IntKind.i64 0, Value.int IntKind.i64 0, Value.int IntKind.u16 0, Value.int IntKind.u16 0, Value.int IntKind.u32 0, Value.int IntKind.u32 0, Value.int IntKind.u32 0, Value.int IntKind.u32 0, Value.int IntKind.u32 0, Value.int IntKind.u16 0, Value.int IntKind.u16 0, Value.int IntKind.u32 0, Value.int IntKind.u32 0] 40 (0, 0)) := heap_alloc_new _ _
  have hA2 : Below w7.heap.size w7 (w7.alloc (.cells #[Value.int IntKind.i64 0, Value.int IntKind.i64 0, Value.int IntKind.u16 0, Value.int IntKind.u16 0, Value.int IntKind.u32 0, Value.int IntKind.u32 0, Value.int IntKind.u32 0, Value.int IntKind.u32 0, Value.int IntKind.u32 0, Value.int IntKind.u16 0, Value.int IntKind.u16 0, Value.int IntKind.u32 0, Value.int IntKind.u32 0] 40)) := (Below.refl _ _).alloc (Nat.le_refl _) _
  have HO2 := hid hO2; have HA2 := hid hA2
  clear hO2 hA2
  generalize w7.alloc (.cells #[Value.int IntKind.i64 0, Value.int IntKind.i64 0, Value.int IntKind.u16 0, Value.int IntKind.u16 0, Value.int IntKind.u32 0, Value.int IntKind.u32 0, Value.int IntKind.u32 0, Value.int IntKind.u32 0, Value.int IntKind.u32 0, Value.int IntKind.u16 0, Value.int IntKind.u16 0, Value.int IntKind.u32 0, Value.int IntKind.u32 0] 40) = w8 at *
  refine hid ?_
  refine wpList_store_row rfl 40 (.tmp 6) (.tmp 27) rfl w7.heap.size R2 rfl rfl 40 _ HO2.out (by rw [HQ2.out]; kernel_rfl) (by rw [HQ2.out]; rfl) (by rw [HQ2.out]; exact Ck.one _) ?_
  have HW2 := hid (setRow_heap w8 w7.heap.size _ R2 40 _ HO2.out)
  have HV2 := hid (below_setRow HA2.out (Nat.le_refl _) R2)
  clear HO2 HA2
  generalize w8.setRow w7.heap.size R2 = w9 at *
  have HB9 := hid (below_then HX2.out HV2.out); have HK9 := hid (HKa2.out.below HV2.out); have HR9 := hid (HRa2.out.below HV2.out)
  have HW3 := hid ((HV2.out.block _ (lt_of_block HWk0.out)).trans HWk0.out)
  clear HWk0
  clear HX2 HV2 HKa2 HRa2
  dsimp only [Act.put]
  rw [HQ1.out] at HW3
  have f0 : w9.cell? ⟨w4.heap.size, 0, none⟩ = some (.int .i64 5) := cellOf HW3.out rfl
  have f4 : w9.cell? ⟨w4.heap.size, 4, none⟩ = some (.int .u32 7) := cellOf HW3.out rfl
  clear HW3 HW2 HQ1 HQ2 HE4 HE5 HK9 HR9 HT HBS HLS HCP
  go_wp2
  go_ret
  exact ⟨rfl, HB9.out⟩
end Go.Proofs.YtaieajfgcnaedaaDoor
