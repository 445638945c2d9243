/-
  LAYER 6, WALKS: (*cookie.Keys).Seal.
-/
import Derived.Test.YtaieajfgcnaedaaDoorCookB
set_option linter.unusedVariables false
set_option linter.unusedSimpArgs false
namespace Go.Proofs.YtaieajfgcnaedaaDoor
open Go.RowKit

theorem own_low {w : World} {base base' : Nat} {e : TypeId} {k : IntKind} {v : Value} {xs : List Int} (h : Own w base e k v xs) (hb : base' ≤ base) : Own w base' e k v xs :=
  ⟨h.1, h.2.elim .inl (fun ⟨g, c, cur, a, b, r⟩ => .inr ⟨g, c, cur, a, Nat.le_trans hb b, r⟩)⟩
theorem own_none {w : World} {base : Nat} {e : TypeId} {k : IntKind} {A : Option Addr} {n c : Nat} {xs : List Int} (h : Own w base e k (.slice A n c) xs) : A = none → c = 0 := fun hA => by
  subst hA
  rcases h.2 with ⟨h', _⟩ | ⟨g', c', cur, h', _⟩
  · injection h' with a b c
  · injection h' with a; cases a
theorem layAll_bytes (n : Nat) (vs : List Int) : Bytes (layAll n vs) := fun x hx => by
  obtain ⟨v, _, h⟩ := List.mem_flatMap.1 hx
  exact be_bytes v n x h
theorem seal_bytes' (a b c d e f : List Int) : Bytes ([] ++ layAll 8 a ++ layAll 4 b ++ layAll 2 c ++ layAll 4 d ++ layAll 2 e ++ layAll 4 f) :=
  (((((Bytes.nil.append (layAll_bytes _ _)).append (layAll_bytes _ _)).append (layAll_bytes _ _)).append (layAll_bytes _ _)).append (layAll_bytes _ _)).append (layAll_bytes _ _)
theorem seal_nil (c : Ck) (w : World) : Calls Tryd.prog 24 #[.pointer none, .agg c.cells] w fun e w' => e = .returned (.tuple #[.slice none 0 0, .int .i64 1]) ∧ Below w.heap.size w w' := by
  obtain ⟨made, life, port, pport, tag, ptag, tsn, ptsn, room, outs, ins, addr, other⟩ := c
  unfold Ck.cells
  simp only
  go_enter Tryd.func24, Tryd.ntmps24
  go_wp2
  go_ret2
  exact ⟨rfl, (Below.refl _ _).alloc (Nat.le_refl _) _⟩
theorem seal_may (g : Nat) (c : Ck) (hm : ¬ c.may) (w : World) : Calls Tryd.prog 24 #[.pointer (some ⟨g, 0, none⟩), .agg c.cells] w fun e w' => e = .returned (.tuple #[.slice none 0 0, .int .i64 6]) ∧ Below w.heap.size w w' := by
  have hd : decide c.may = false := decide_eq_false hm
  have HM : Box (∀ w', Calls Tryd.prog 41 #[.agg c.cells] w' fun e w'' => e = .returned (.bool false) ∧ Below w'.heap.size w' w'') := ⟨fun w' => by rw [← hd]; exact may_calls c w'⟩
  clear hd hm
  obtain ⟨made, life, port, pport, tag, ptag, tsn, ptsn, room, outs, ins, addr, other⟩ := c
  have HB := HM.out (w.alloc (.cells #[.int .i64 made, .int .i64 life, .int .u16 port, .int .u16 pport, .int .u32 tag, .int .u32 ptag, .int .u32 tsn, .int .u32 ptsn, .int .u32 room, .int .u16 outs, .int .u16 ins, .int .u32 addr, .int .u32 other] 40))
  unfold Ck.cells at HB ⊢
  have HC := hid HB
  clear HB HM
  go_enter Tryd.func24, Tryd.ntmps24
  go_wp2_with (go_at_call 41; refine hold ?_)
  refine hid ?_
  refine Calls.mono HC.out ?_
  rintro e w1 ⟨rfl, hB⟩
  go_wp2
  go_ret2
  exact ⟨rfl, below_then ((Below.refl _ _).alloc (Nat.le_refl _) _) hB⟩
set_option maxHeartbeats 12800000 in
set_option maxRecDepth 100000 in
theorem seal_calls (g : Nat) (c : Ck) (hm : c.may) (hok : c.Ok) (sec frm : List Int) (two : Bool) (w : World) (hT : Tab w) (hK : KSt w g sec frm two) :
    Calls Tryd.prog 24 #[.pointer (some ⟨g, 0, none⟩), .agg c.cells] w fun e w' => ∃ v, e = .returned (.tuple #[v, .int .i64 0]) ∧ Own w' w.heap.size 5 .u8 v (c.seal sec) ∧ Below w.heap.size w w' := by
  have hd : decide c.may = true := decide_eq_true hm
  have HM : Box (∀ w', Calls Tryd.prog 41 #[.agg c.cells] w' fun e w'' => e = .returned (.bool true) ∧ Below w'.heap.size w' w'') := ⟨fun w' => by rw [← hd]; exact may_calls c w'⟩
  have HSEAL : Box (c.seal sec = (([] ++ layAll 8 [c.made] ++ layAll 4 [c.life] ++ layAll 2 [c.port, c.pport] ++ layAll 4 [c.tag, c.ptag, c.tsn, c.ptsn, c.room] ++ layAll 2 [c.outs, c.ins] ++ layAll 4 [c.addr, c.other, 0]) ++ mac sec ([] ++ layAll 8 [c.made] ++ layAll 4 [c.life] ++ layAll 2 [c.port, c.pport] ++ layAll 4 [c.tag, c.ptag, c.tsn, c.ptsn, c.room] ++ layAll 2 [c.outs, c.ins] ++ layAll 4 [c.addr, c.other, 0]))) := ⟨by simp [Ck.seal, Ck.plain, layAll, List.append_assoc]⟩
  have HT := hid hT; have HK := hid hK
  have hcm := hm
  have hko := hok
  clear hd hm hok hT hK
  obtain ⟨made, life, port, pport, tag, ptag, tsn, ptsn, room, outs, ins, addr, other⟩ := c
  simp only at HSEAL
  have HCM := hid hcm; have HKO := hid hko
  have HB := HM.out (w.alloc (.cells #[.int .i64 made, .int .i64 life, .int .u16 port, .int .u16 pport, .int .u32 tag, .int .u32 ptag, .int .u32 tsn, .int .u32 ptsn, .int .u32 room, .int .u16 outs, .int .u16 ins, .int .u32 addr, .int .u32 other] 40))
  unfold Ck.cells at HB ⊢
  have HC := hid HB
  clear HB HM hcm hko
  go_enter Tryd.func24, Tryd.ntmps24
  go_wp2_with (go_at_call 41; refine hold ?_)
  refine hid ?_
  have hC0 : (w.alloc (.cells #[.int .i64 made, .int .i64 life, .int .u16 port, .int .u16 pport, .int .u32 tag, .int .u32 ptag, .int .u32 tsn, .int .u32 ptsn, .int .u32 room, .int .u16 outs, .int .u16 ins, .int .u32 addr, .int .u32 other] 40)).heap[w.heap.size]? = some (.cells #[.int .i64 made, .int .i64 life, .int .u16 port, .int .u16 pport, .int .u32 tag, .int .u32 ptag, .int .u32 tsn, .int .u32 ptsn, .int .u32 room, .int .u16 outs, .int .u16 ins, .int .u32 addr, .int .u32 other] 40 (0, 0)) := heap_alloc_new _ _
  have hB0 : Below w.heap.size w (w.alloc (.cells #[.int .i64 made, .int .i64 life, .int .u16 port, .int .u16 pport, .int .u32 tag, .int .u32 ptag, .int .u32 tsn, .int .u32 ptsn, .int .u32 room, .int .u16 outs, .int .u16 ins, .int .u32 addr, .int .u32 other] 40)) := (Below.refl _ _).alloc (Nat.le_refl _) _
  have HC0 := hid hC0; have HB0 := hid hB0
  clear hC0 hB0
  generalize w.alloc (.cells #[.int .i64 made, .int .i64 life, .int .u16 port, .int .u16 pport, .int .u32 tag, .int .u32 ptag, .int .u32 tsn, .int .u32 ptsn, .int .u32 room, .int .u16 outs, .int .u16 ins, .int .u32 addr, .int .u32 other] 40) = wa at *
  refine Calls.mono HC.out ?_
  rintro e w0 ⟨rfl, hB⟩
  have HG0 := hid ((hB.block _ (lt_of_block HC0.out)).trans HC0.out)
  have HW0 := hid (below_then HB0.out hB)
  have hla : w.heap.size < w0.heap.size := lt_of_block HG0.out
  clear hB HC0 HB0 HC
  have HOW0 : Hid (Own w0 w0.heap.size 5 .u8 (.slice none 0 0) []) := hid (Own.nil _ _ _ _)
  have HB0' : Hid (Below w0.heap.size w0 w0) := hid (Below.refl _ _)
  -- lay 0
  have x0 : w0.cell? ⟨w.heap.size, 0, none⟩ = some (.int .i64 made) := cellOf HG0.out rfl
  have y0 : IntKind.u64.wrap made = made := by rw [IntKind.wrap_u64]; have h1 := HCM.out; have h2 := HKO.out; obtain ⟨a1, a2, a3, a4⟩ := h1; obtain ⟨b1, b2, b3, b4, b5, b6, b7, b8, b9, b10, b11⟩ := h2; simp only at a1 a2 a3 a4 b1 b2 b3 b4 b5 b6 b7 b8 b9 b10 b11; omega
  go_wp2_with (go_at_call 42; refine hold ?_)
  refine hid ?_
  clear x0 y0
  have hR0 : Rd (w0.alloc (.cells #[.int .u64 made] 29)) .u64 (some ⟨w0.heap.size, 0, none⟩) [made] := Rd.lit rfl (by simp)
  have hBa0 : Below w0.heap.size w0 (w0.alloc (.cells #[.int .u64 made] 29)) := (Below.refl _ _).alloc (Nat.le_refl _) _
  have HR0 := hid hR0; have HBa0 := hid hBa0
  clear hR0 hBa0
  have hs0 : w0.heap.size ≤ w0.heap.size := HB0'.out.size
  have hz0 : ∀ x ∈ [made], 0 ≤ x ∧ x < 18446744073709551616 ∧ (8 < 8 → x < 256 ^ 8) := fun x hx => by
    obtain ⟨a1, a2, a3, a4⟩ := HCM.out; obtain ⟨b1, b2, b3, b4, b5, b6, b7, b8, b9, b10, b11⟩ := HKO.out; simp only at a1 a2 a3 a4 b1 b2 b3 b4 b5 b6 b7 b8 b9 b10 b11
    have p2 : (256 : Int) ^ 2 = 65536 := rfl
    have p4 : (256 : Int) ^ 4 = 4294967296 := rfl
    simp only [List.mem_cons, List.not_mem_nil, or_false] at hx
    subst hx <;> first | (refine ⟨by omega, by omega, fun h => ?_⟩; first | omega | (rw [p2]; omega) | (rw [p4]; omega))
  have HZ0 := hid hz0
  clear hz0
  generalize w0.alloc (.cells #[.int .u64 made] 29) = v0 at *
  refine Calls.mono (lay_calls w0.heap.size 8 1 w0.heap.size (.slice none 0 0) ([]) [made] rfl v0 (HOW0.out.below HBa0.out) (Nat.le_trans hs0 HBa0.out.size) HR0.out (by omega) (by omega) HZ0.out (by simp) (by omega) (fun h => by cases h)) ?_
  rintro e w1 ⟨u0, rfl, ho0, hb0⟩
  have HB1' := hid (HB0'.out.trans ((HBa0.out.mono hs0).trans hb0))
  have HG1 := hid ((HB1'.out.block _ hla).trans HG0.out)
  have hL1 : ([] ++ layAll 8 [made]).length = 8 := by simp [layAll, be_length]
  obtain ⟨A1, c1, rfl, _, _, _⟩ := ho0.rd (by rw [hL1]; omega)
  rw [hL1] at ho0 ⊢
  have HOW1 := hid ho0; have HL1 := hid hL1
  clear ho0 hb0 hL1 HR0 HBa0 HZ0 HOW0  HB0'  hs0
  -- lay 1
  have x1 : w1.cell? ⟨w.heap.size, 1, none⟩ = some (.int .i64 life) := cellOf HG1.out rfl
  have y1 : IntKind.u64.wrap life = life := by rw [IntKind.wrap_u64]; have h1 := HCM.out; have h2 := HKO.out; obtain ⟨a1, a2, a3, a4⟩ := h1; obtain ⟨b1, b2, b3, b4, b5, b6, b7, b8, b9, b10, b11⟩ := h2; simp only at a1 a2 a3 a4 b1 b2 b3 b4 b5 b6 b7 b8 b9 b10 b11; omega
  go_wp2_with (go_at_call 42; refine hold ?_)
  refine hid ?_
  clear x1 y1
  have hR1 : Rd (w1.alloc (.cells #[.int .u64 life] 29)) .u64 (some ⟨w1.heap.size, 0, none⟩) [life] := Rd.lit rfl (by simp)
  have hBa1 : Below w1.heap.size w1 (w1.alloc (.cells #[.int .u64 life] 29)) := (Below.refl _ _).alloc (Nat.le_refl _) _
  have HR1 := hid hR1; have HBa1 := hid hBa1
  clear hR1 hBa1
  have hs1 : w0.heap.size ≤ w1.heap.size := HB1'.out.size
  have hz1 : ∀ x ∈ [life], 0 ≤ x ∧ x < 18446744073709551616 ∧ (4 < 8 → x < 256 ^ 4) := fun x hx => by
    obtain ⟨a1, a2, a3, a4⟩ := HCM.out; obtain ⟨b1, b2, b3, b4, b5, b6, b7, b8, b9, b10, b11⟩ := HKO.out; simp only at a1 a2 a3 a4 b1 b2 b3 b4 b5 b6 b7 b8 b9 b10 b11
    have p2 : (256 : Int) ^ 2 = 65536 := rfl
    have p4 : (256 : Int) ^ 4 = 4294967296 := rfl
    simp only [List.mem_cons, List.not_mem_nil, or_false] at hx
    subst hx <;> first | (refine ⟨by omega, by omega, fun h => ?_⟩; first | omega | (rw [p2]; omega) | (rw [p4]; omega))
  have HZ1 := hid hz1
  clear hz1
  generalize w1.alloc (.cells #[.int .u64 life] 29) = v1 at *
  refine Calls.mono (lay_calls w0.heap.size 4 1 w1.heap.size (.slice A1 8 c1) ([] ++ layAll 8 [made]) [life] rfl v1 (HOW1.out.below HBa1.out) (Nat.le_trans hs1 HBa1.out.size) HR1.out (by omega) (by omega) HZ1.out (by rw [HL1.out]; omega) (by omega) (fun h => by have := (HOW1.out.lt _ h).2; omega)) ?_
  rintro e w2 ⟨u1, rfl, ho1, hb1⟩
  have HB2' := hid (HB1'.out.trans ((HBa1.out.mono hs1).trans hb1))
  have HG2 := hid ((HB2'.out.block _ hla).trans HG0.out)
  have hL2 : ([] ++ layAll 8 [made] ++ layAll 4 [life]).length = 12 := by simp [layAll, be_length]
  obtain ⟨A2, c2, rfl, _, _, _⟩ := ho1.rd (by rw [hL2]; omega)
  rw [hL2] at ho1 ⊢
  have HOW2 := hid ho1; have HL2 := hid hL2
  clear ho1 hb1 hL2 HR1 HBa1 HZ1 HOW1 HL1 HB1' HG1 hs1
  -- lay 2
  have x2 : w2.cell? ⟨w.heap.size, 2, none⟩ = some (.int .u16 port) := cellOf HG2.out rfl
  have y2 : IntKind.u64.wrap port = port := by rw [IntKind.wrap_u64]; have h1 := HCM.out; have h2 := HKO.out; obtain ⟨a1, a2, a3, a4⟩ := h1; obtain ⟨b1, b2, b3, b4, b5, b6, b7, b8, b9, b10, b11⟩ := h2; simp only at a1 a2 a3 a4 b1 b2 b3 b4 b5 b6 b7 b8 b9 b10 b11; omega
  have x3 : w2.cell? ⟨w.heap.size, 3, none⟩ = some (.int .u16 pport) := cellOf HG2.out rfl
  have y3 : IntKind.u64.wrap pport = pport := by rw [IntKind.wrap_u64]; have h1 := HCM.out; have h2 := HKO.out; obtain ⟨a1, a2, a3, a4⟩ := h1; obtain ⟨b1, b2, b3, b4, b5, b6, b7, b8, b9, b10, b11⟩ := h2; simp only at a1 a2 a3 a4 b1 b2 b3 b4 b5 b6 b7 b8 b9 b10 b11; omega
  go_wp2_with (go_at_call 42; refine hold ?_)
  refine hid ?_
  clear x2 y2 x3 y3
  have hR2 : Rd (w2.alloc (.cells #[.int .u64 port, .int .u64 pport] 29)) .u64 (some ⟨w2.heap.size, 0, none⟩) [port, pport] := Rd.lit rfl (by simp)
  have hBa2 : Below w2.heap.size w2 (w2.alloc (.cells #[.int .u64 port, .int .u64 pport] 29)) := (Below.refl _ _).alloc (Nat.le_refl _) _
  have HR2 := hid hR2; have HBa2 := hid hBa2
  clear hR2 hBa2
  have hs2 : w0.heap.size ≤ w2.heap.size := HB2'.out.size
  have hz2 : ∀ x ∈ [port, pport], 0 ≤ x ∧ x < 18446744073709551616 ∧ (2 < 8 → x < 256 ^ 2) := fun x hx => by
    obtain ⟨a1, a2, a3, a4⟩ := HCM.out; obtain ⟨b1, b2, b3, b4, b5, b6, b7, b8, b9, b10, b11⟩ := HKO.out; simp only at a1 a2 a3 a4 b1 b2 b3 b4 b5 b6 b7 b8 b9 b10 b11
    have p2 : (256 : Int) ^ 2 = 65536 := rfl
    have p4 : (256 : Int) ^ 4 = 4294967296 := rfl
    simp only [List.mem_cons, List.not_mem_nil, or_false] at hx
    rcases hx with rfl | rfl <;> first | (refine ⟨by omega, by omega, fun h => ?_⟩; first | omega | (rw [p2]; omega) | (rw [p4]; omega))
  have HZ2 := hid hz2
  clear hz2
  generalize w2.alloc (.cells #[.int .u64 port, .int .u64 pport] 29) = v2 at *
  refine Calls.mono (lay_calls w0.heap.size 2 2 w2.heap.size (.slice A2 12 c2) ([] ++ layAll 8 [made] ++ layAll 4 [life]) [port, pport] rfl v2 (HOW2.out.below HBa2.out) (Nat.le_trans hs2 HBa2.out.size) HR2.out (by omega) (by omega) HZ2.out (by rw [HL2.out]; omega) (by omega) (fun h => by have := (HOW2.out.lt _ h).2; omega)) ?_
  rintro e w3 ⟨u2, rfl, ho2, hb2⟩
  have HB3' := hid (HB2'.out.trans ((HBa2.out.mono hs2).trans hb2))
  have HG3 := hid ((HB3'.out.block _ hla).trans HG0.out)
  have hL3 : ([] ++ layAll 8 [made] ++ layAll 4 [life] ++ layAll 2 [port, pport]).length = 16 := by simp [layAll, be_length]
  obtain ⟨A3, c3, rfl, _, _, _⟩ := ho2.rd (by rw [hL3]; omega)
  rw [hL3] at ho2 ⊢
  have HOW3 := hid ho2; have HL3 := hid hL3
  clear ho2 hb2 hL3 HR2 HBa2 HZ2 HOW2 HL2 HB2' HG2 hs2
  -- lay 3
  have x4 : w3.cell? ⟨w.heap.size, 4, none⟩ = some (.int .u32 tag) := cellOf HG3.out rfl
  have y4 : IntKind.u64.wrap tag = tag := by rw [IntKind.wrap_u64]; have h1 := HCM.out; have h2 := HKO.out; obtain ⟨a1, a2, a3, a4⟩ := h1; obtain ⟨b1, b2, b3, b4, b5, b6, b7, b8, b9, b10, b11⟩ := h2; simp only at a1 a2 a3 a4 b1 b2 b3 b4 b5 b6 b7 b8 b9 b10 b11; omega
  have x5 : w3.cell? ⟨w.heap.size, 5, none⟩ = some (.int .u32 ptag) := cellOf HG3.out rfl
  have y5 : IntKind.u64.wrap ptag = ptag := by rw [IntKind.wrap_u64]; have h1 := HCM.out; have h2 := HKO.out; obtain ⟨a1, a2, a3, a4⟩ := h1; obtain ⟨b1, b2, b3, b4, b5, b6, b7, b8, b9, b10, b11⟩ := h2; simp only at a1 a2 a3 a4 b1 b2 b3 b4 b5 b6 b7 b8 b9 b10 b11; omega
  have x6 : w3.cell? ⟨w.heap.size, 6, none⟩ = some (.int .u32 tsn) := cellOf HG3.out rfl
  have y6 : IntKind.u64.wrap tsn = tsn := by rw [IntKind.wrap_u64]; have h1 := HCM.out; have h2 := HKO.out; obtain ⟨a1, a2, a3, a4⟩ := h1; obtain ⟨b1, b2, b3, b4, b5, b6, b7, b8, b9, b10, b11⟩ := h2; simp only at a1 a2 a3 a4 b1 b2 b3 b4 b5 b6 b7 b8 b9 b10 b11; omega
  have x7 : w3.cell? ⟨w.heap.size, 7, none⟩ = some (.int .u32 ptsn) := cellOf HG3.out rfl
  have y7 : IntKind.u64.wrap ptsn = ptsn := by rw [IntKind.wrap_u64]; have h1 := HCM.out; have h2 := HKO.out; obtain ⟨a1, a2, a3, a4⟩ := h1; obtain ⟨b1, b2, b3, b4, b5, b6, b7, b8, b9, b10, b11⟩ := h2; simp only at a1 a2 a3 a4 b1 b2 b3 b4 b5 b6 b7 b8 b9 b10 b11; omega
  have x8 : w3.cell? ⟨w.heap.size, 8, none⟩ = some (.int .u32 room) := cellOf HG3.out rfl
  have y8 : IntKind.u64.wrap room = room := by rw [IntKind.wrap_u64]; have h1 := HCM.out; have h2 := HKO.out; obtain ⟨a1, a2, a3, a4⟩ := h1; obtain ⟨b1, b2, b3, b4, b5, b6, b7, b8, b9, b10, b11⟩ := h2; simp only at a1 a2 a3 a4 b1 b2 b3 b4 b5 b6 b7 b8 b9 b10 b11; omega
  go_wp2_with (go_at_call 42; refine hold ?_)
  refine hid ?_
  clear x4 y4 x5 y5 x6 y6 x7 y7 x8 y8
  have hR3 : Rd (w3.alloc (.cells #[.int .u64 tag, .int .u64 ptag, .int .u64 tsn, .int .u64 ptsn, .int .u64 room] 29)) .u64 (some ⟨w3.heap.size, 0, none⟩) [tag, ptag, tsn, ptsn, room] := Rd.lit rfl (by simp)
  have hBa3 : Below w3.heap.size w3 (w3.alloc (.cells #[.int .u64 tag, .int .u64 ptag, .int .u64 tsn, .int .u64 ptsn, .int .u64 room] 29)) := (Below.refl _ _).alloc (Nat.le_refl _) _
  have HR3 := hid hR3; have HBa3 := hid hBa3
  clear hR3 hBa3
  have hs3 : w0.heap.size ≤ w3.heap.size := HB3'.out.size
  have hz3 : ∀ x ∈ [tag, ptag, tsn, ptsn, room], 0 ≤ x ∧ x < 18446744073709551616 ∧ (4 < 8 → x < 256 ^ 4) := fun x hx => by
    obtain ⟨a1, a2, a3, a4⟩ := HCM.out; obtain ⟨b1, b2, b3, b4, b5, b6, b7, b8, b9, b10, b11⟩ := HKO.out; simp only at a1 a2 a3 a4 b1 b2 b3 b4 b5 b6 b7 b8 b9 b10 b11
    have p2 : (256 : Int) ^ 2 = 65536 := rfl
    have p4 : (256 : Int) ^ 4 = 4294967296 := rfl
    simp only [List.mem_cons, List.not_mem_nil, or_false] at hx
    rcases hx with rfl | rfl | rfl | rfl | rfl <;> first | (refine ⟨by omega, by omega, fun h => ?_⟩; first | omega | (rw [p2]; omega) | (rw [p4]; omega))
  have HZ3 := hid hz3
  clear hz3
  generalize w3.alloc (.cells #[.int .u64 tag, .int .u64 ptag, .int .u64 tsn, .int .u64 ptsn, .int .u64 room] 29) = v3 at *
  refine Calls.mono (lay_calls w0.heap.size 4 5 w3.heap.size (.slice A3 16 c3) ([] ++ layAll 8 [made] ++ layAll 4 [life] ++ layAll 2 [port, pport]) [tag, ptag, tsn, ptsn, room] rfl v3 (HOW3.out.below HBa3.out) (Nat.le_trans hs3 HBa3.out.size) HR3.out (by omega) (by omega) HZ3.out (by rw [HL3.out]; omega) (by omega) (fun h => by have := (HOW3.out.lt _ h).2; omega)) ?_
  rintro e w4 ⟨u3, rfl, ho3, hb3⟩
  have HB4' := hid (HB3'.out.trans ((HBa3.out.mono hs3).trans hb3))
  have HG4 := hid ((HB4'.out.block _ hla).trans HG0.out)
  have hL4 : ([] ++ layAll 8 [made] ++ layAll 4 [life] ++ layAll 2 [port, pport] ++ layAll 4 [tag, ptag, tsn, ptsn, room]).length = 36 := by simp [layAll, be_length]
  obtain ⟨A4, c4, rfl, _, _, _⟩ := ho3.rd (by rw [hL4]; omega)
  rw [hL4] at ho3 ⊢
  have HOW4 := hid ho3; have HL4 := hid hL4
  clear ho3 hb3 hL4 HR3 HBa3 HZ3 HOW3 HL3 HB3' HG3 hs3
  -- lay 4
  have x9 : w4.cell? ⟨w.heap.size, 9, none⟩ = some (.int .u16 outs) := cellOf HG4.out rfl
  have y9 : IntKind.u64.wrap outs = outs := by rw [IntKind.wrap_u64]; have h1 := HCM.out; have h2 := HKO.out; obtain ⟨a1, a2, a3, a4⟩ := h1; obtain ⟨b1, b2, b3, b4, b5, b6, b7, b8, b9, b10, b11⟩ := h2; simp only at a1 a2 a3 a4 b1 b2 b3 b4 b5 b6 b7 b8 b9 b10 b11; omega
  have x10 : w4.cell? ⟨w.heap.size, 10, none⟩ = some (.int .u16 ins) := cellOf HG4.out rfl
  have y10 : IntKind.u64.wrap ins = ins := by rw [IntKind.wrap_u64]; have h1 := HCM.out; have h2 := HKO.out; obtain ⟨a1, a2, a3, a4⟩ := h1; obtain ⟨b1, b2, b3, b4, b5, b6, b7, b8, b9, b10, b11⟩ := h2; simp only at a1 a2 a3 a4 b1 b2 b3 b4 b5 b6 b7 b8 b9 b10 b11; omega
  go_wp2_with (go_at_call 42; refine hold ?_)
  refine hid ?_
  clear x9 y9 x10 y10
  have hR4 : Rd (w4.alloc (.cells #[.int .u64 outs, .int .u64 ins] 29)) .u64 (some ⟨w4.heap.size, 0, none⟩) [outs, ins] := Rd.lit rfl (by simp)
  have hBa4 : Below w4.heap.size w4 (w4.alloc (.cells #[.int .u64 outs, .int .u64 ins] 29)) := (Below.refl _ _).alloc (Nat.le_refl _) _
  have HR4 := hid hR4; have HBa4 := hid hBa4
  clear hR4 hBa4
  have hs4 : w0.heap.size ≤ w4.heap.size := HB4'.out.size
  have hz4 : ∀ x ∈ [outs, ins], 0 ≤ x ∧ x < 18446744073709551616 ∧ (2 < 8 → x < 256 ^ 2) := fun x hx => by
    obtain ⟨a1, a2, a3, a4⟩ := HCM.out; obtain ⟨b1, b2, b3, b4, b5, b6, b7, b8, b9, b10, b11⟩ := HKO.out; simp only at a1 a2 a3 a4 b1 b2 b3 b4 b5 b6 b7 b8 b9 b10 b11
    have p2 : (256 : Int) ^ 2 = 65536 := rfl
    have p4 : (256 : Int) ^ 4 = 4294967296 := rfl
    simp only [List.mem_cons, List.not_mem_nil, or_false] at hx
    rcases hx with rfl | rfl <;> first | (refine ⟨by omega, by omega, fun h => ?_⟩; first | omega | (rw [p2]; omega) | (rw [p4]; omega))
  have HZ4 := hid hz4
  clear hz4
  generalize w4.alloc (.cells #[.int .u64 outs, .int .u64 ins] 29) = v4 at *
  refine Calls.mono (lay_calls w0.heap.size 2 2 w4.heap.size (.slice A4 36 c4) ([] ++ layAll 8 [made] ++ layAll 4 [life] ++ layAll 2 [port, pport] ++ layAll 4 [tag, ptag, tsn, ptsn, room]) [outs, ins] rfl v4 (HOW4.out.below HBa4.out) (Nat.le_trans hs4 HBa4.out.size) HR4.out (by omega) (by omega) HZ4.out (by rw [HL4.out]; omega) (by omega) (fun h => by have := (HOW4.out.lt _ h).2; omega)) ?_
  rintro e w5 ⟨u4, rfl, ho4, hb4⟩
  have HB5' := hid (HB4'.out.trans ((HBa4.out.mono hs4).trans hb4))
  have HG5 := hid ((HB5'.out.block _ hla).trans HG0.out)
  have hL5 : ([] ++ layAll 8 [made] ++ layAll 4 [life] ++ layAll 2 [port, pport] ++ layAll 4 [tag, ptag, tsn, ptsn, room] ++ layAll 2 [outs, ins]).length = 40 := by simp [layAll, be_length]
  obtain ⟨A5, c5, rfl, _, _, _⟩ := ho4.rd (by rw [hL5]; omega)
  rw [hL5] at ho4 ⊢
  have HOW5 := hid ho4; have HL5 := hid hL5
  clear ho4 hb4 hL5 HR4 HBa4 HZ4 HOW4 HL4 HB4' HG4 hs4
  -- lay 5
  have x11 : w5.cell? ⟨w.heap.size, 11, none⟩ = some (.int .u32 addr) := cellOf HG5.out rfl
  have y11 : IntKind.u64.wrap addr = addr := by rw [IntKind.wrap_u64]; have h1 := HCM.out; have h2 := HKO.out; obtain ⟨a1, a2, a3, a4⟩ := h1; obtain ⟨b1, b2, b3, b4, b5, b6, b7, b8, b9, b10, b11⟩ := h2; simp only at a1 a2 a3 a4 b1 b2 b3 b4 b5 b6 b7 b8 b9 b10 b11; omega
  have x12 : w5.cell? ⟨w.heap.size, 12, none⟩ = some (.int .u32 other) := cellOf HG5.out rfl
  have y12 : IntKind.u64.wrap other = other := by rw [IntKind.wrap_u64]; have h1 := HCM.out; have h2 := HKO.out; obtain ⟨a1, a2, a3, a4⟩ := h1; obtain ⟨b1, b2, b3, b4, b5, b6, b7, b8, b9, b10, b11⟩ := h2; simp only at a1 a2 a3 a4 b1 b2 b3 b4 b5 b6 b7 b8 b9 b10 b11; omega
  go_wp2_with (go_at_call 42; refine hold ?_)
  refine hid ?_
  clear x11 y11 x12 y12
  have hR5 : Rd (w5.alloc (.cells #[.int .u64 addr, .int .u64 other, .int .u64 0] 29)) .u64 (some ⟨w5.heap.size, 0, none⟩) [addr, other, 0] := Rd.lit rfl (by simp)
  have hBa5 : Below w5.heap.size w5 (w5.alloc (.cells #[.int .u64 addr, .int .u64 other, .int .u64 0] 29)) := (Below.refl _ _).alloc (Nat.le_refl _) _
  have HR5 := hid hR5; have HBa5 := hid hBa5
  clear hR5 hBa5
  have hs5 : w0.heap.size ≤ w5.heap.size := HB5'.out.size
  have hz5 : ∀ x ∈ [addr, other, 0], 0 ≤ x ∧ x < 18446744073709551616 ∧ (4 < 8 → x < 256 ^ 4) := fun x hx => by
    obtain ⟨a1, a2, a3, a4⟩ := HCM.out; obtain ⟨b1, b2, b3, b4, b5, b6, b7, b8, b9, b10, b11⟩ := HKO.out; simp only at a1 a2 a3 a4 b1 b2 b3 b4 b5 b6 b7 b8 b9 b10 b11
    have p2 : (256 : Int) ^ 2 = 65536 := rfl
    have p4 : (256 : Int) ^ 4 = 4294967296 := rfl
    simp only [List.mem_cons, List.not_mem_nil, or_false] at hx
    rcases hx with rfl | rfl | rfl <;> first | (refine ⟨by omega, by omega, fun h => ?_⟩; first | omega | (rw [p2]; omega) | (rw [p4]; omega))
  have HZ5 := hid hz5
  clear hz5
  generalize w5.alloc (.cells #[.int .u64 addr, .int .u64 other, .int .u64 0] 29) = v5 at *
  refine Calls.mono (lay_calls w0.heap.size 4 3 w5.heap.size (.slice A5 40 c5) ([] ++ layAll 8 [made] ++ layAll 4 [life] ++ layAll 2 [port, pport] ++ layAll 4 [tag, ptag, tsn, ptsn, room] ++ layAll 2 [outs, ins]) [addr, other, 0] rfl v5 (HOW5.out.below HBa5.out) (Nat.le_trans hs5 HBa5.out.size) HR5.out (by omega) (by omega) HZ5.out (by rw [HL5.out]; omega) (by omega) (fun h => by have := (HOW5.out.lt _ h).2; omega)) ?_
  rintro e w6 ⟨u5, rfl, ho5, hb5⟩
  have HB6' := hid (HB5'.out.trans ((HBa5.out.mono hs5).trans hb5))
  have HG6 := hid ((HB6'.out.block _ hla).trans HG0.out)
  have hL6 : ([] ++ layAll 8 [made] ++ layAll 4 [life] ++ layAll 2 [port, pport] ++ layAll 4 [tag, ptag, tsn, ptsn, room] ++ layAll 2 [outs, ins] ++ layAll 4 [addr, other, 0]).length = 52 := by simp [layAll, be_length]
  obtain ⟨A6, c6, rfl, _, _, _⟩ := ho5.rd (by rw [hL6]; omega)
  rw [hL6] at ho5 ⊢
  have HOW6 := hid ho5; have HL6 := hid hL6
  clear ho5 hb5 hL6 HR5 HBa5 HZ5 HOW5 HL5 HB5' HG5 hs5
  obtain ⟨PL, hPL⟩ : ∃ PL, PL = [] ++ layAll 8 [made] ++ layAll 4 [life] ++ layAll 2 [port, pport] ++ layAll 4 [tag, ptag, tsn, ptsn, room] ++ layAll 2 [outs, ins] ++ layAll 4 [addr, other, 0] := ⟨_, rfl⟩
  rw [← hPL] at HOW6 HL6 HSEAL
  have HPLB : Hid (Bytes PL) := hid (by rw [hPL]; exact seal_bytes' _ _ _ _ _ _)
  have HPA := hid (own_none HOW6.out)
  clear hPL
  have HW6 := hid (below_then HW0.out HB6'.out)
  have hKw := HK.out.below HW6.out
  obtain ⟨Ak, nk, ck, Ak', nk', ck', k1, k2, k3, k4, k5, k6, k7⟩ := hKw.ex
  have HKS := hid k2; have HKR := hid k4; have HKA := hid k6; have HKB := hid hKw.bs; have HKL := hid hKw.ls
  have kc : w6.cell? ⟨g, 0, none⟩ = some (.slice Ak nk ck) := cellOf k1 rfl
  have HRPL := hid (HOW6.out.rd' (by rw [HL6.out]; omega))
  have HPB : Hid (Bytes PL) := hid HPLB.out
  clear k1 k2 k3 k4 k5 k6 k7 hKw HK HG6 HCM HKO
  go_wp2_with (go_at_call 17; refine hold ?_)
  refine hid ?_
  refine Calls.mono (mac_calls ck nk c6 52 Ak _ sec PL HKS.out HL6.out w6 (HT.out.below HW6.out) HKR.out HRPL.out HKA.out (fun h => HPA.out h) HKB.out HPB.out (by have h1 := HKS.out; have h2 := HKL.out; omega) (by omega)) ?_
  rintro e w7 ⟨rfl, hB7⟩
  have HO7 := hid (HOW6.out.below hB7)
  have HW7 := hid (below_then HW6.out hB7)
  have HB7 := hid (HB6'.out.trans (hB7.mono HB6'.out.size))
  obtain ⟨S2, hS2⟩ : ∃ S2, S2 = mac sec PL := ⟨_, rfl⟩
  rw [← hS2] at HSEAL ⊢
  have HS2L : Hid (S2.length = 32) := hid (by rw [hS2]; exact mac_len _ _)
  clear hS2 hB7 kc HKR HRPL HOW6 HB6' HW6
  go_wp2_with (with_reducible refine hold_op (o := ⟨none, _, _, _, _, _⟩) ?_)
  have hO1 : (w7.alloc (.cells #[Value.int IntKind.u8 0, Value.int IntKind.u8 0, Value.int IntKind.u8 0, Value.int IntKind.u8 0, Value.int IntKind.u8 0, Value.int IntKind.u8 0, Value.int IntKind.u8 0, Value.int IntKind.u8 0, Value.int IntKind.u8 0, Value.int IntKind.u8 0, Value.int IntKind.u8 0, Value.int IntKind.u8 0, Value.int IntKind.u8 0, Value.int IntKind.u8 0, Value.int IntKind.u8 0, Value.int IntKind.u8 0, Value.int IntKind.u8 0, Value.int IntKind.u8 0, Value.int IntKind.u8 0, Value.int IntKind.u8 0, Value.int IntKind.u8 0, Value.int IntKind.u8 0, Value.int IntKind.u8 0, Value.int IntKind.u8 0, Value.int IntKind.u8 0, Value.int IntKind.u8 0, Value.int IntKind.u8 0, Value.int IntKind.u8 0, Value.int IntKind.u8 0, Value.int IntKind.u8 0, Value.int IntKind.u8 0, Value.int IntKind.u8 0] 24)).heap[w7.heap.size]? = some (.cells #[Value.int IntKind.u8 0, Value.int IntKind.u8 0, Value.int IntKind.u8 0, Value.int IntKind.u8 0, Value.int IntKind.u8 0, Value.int IntKind.u8 0, Value.int IntKind.u8 0, Value.int IntKind.u8 0, Value.int IntKind.u8 0, Value.int IntKind.u8 0, Value.int IntKind.u8 0, Value.int IntKind.u8 0, Value.int IntKind.u8 0, Value.int IntKind.u8 0, Value.int IntKind.u8 0, Value.int IntKind.u8 0, Value.int IntKind.u8 0, Value.int IntKind.u8 0, Value.int IntKind.u8 0, Value.int IntKind.u8 0, Value.int IntKind.u8 0, Value.int IntKind.u8 0, Value.int IntKind.u8 0, Value.int IntKind.u8 0, Value.int IntKind.u8 0, Value.int IntKind.u8 0, Value.int IntKind.u8 0, Value.int IntKind.u8 0, Value.int IntKind.u8 0, Value.int IntKind.u8 0, Value.int IntKind.u8 0, Value.int IntKind.u8 0] 24 (0, 0)) := heap_alloc_new _ _
  have hB1 : Below w7.heap.size w7 (w7.alloc (.cells #[Value.int IntKind.u8 0, Value.int IntKind.u8 0, Value.int IntKind.u8 0, Value.int IntKind.u8 0, Value.int IntKind.u8 0, Value.int IntKind.u8 0, Value.int IntKind.u8 0, Value.int IntKind.u8 0, Value.int IntKind.u8 0, Value.int IntKind.u8 0, Value.int IntKind.u8 0, Value.int IntKind.u8 0, Value.int IntKind.u8 0, Value.int IntKind.u8 0, Value.int IntKind.u8 0, Value.int IntKind.u8 0, Value.int IntKind.u8 0, Value.int IntKind.u8 0, Value.int IntKind.u8 0, Value.int IntKind.u8 0, Value.int IntKind.u8 0, Value.int IntKind.u8 0, Value.int IntKind.u8 0, Value.int IntKind.u8 0, Value.int IntKind.u8 0, Value.int IntKind.u8 0, Value.int IntKind.u8 0, Value.int IntKind.u8 0, Value.int IntKind.u8 0, Value.int IntKind.u8 0, Value.int IntKind.u8 0, Value.int IntKind.u8 0] 24)) := (Below.refl _ _).alloc (Nat.le_refl _) _
  have HO1x := hid hO1; have HB1x := hid hB1
  clear hO1 hB1
  generalize w7.alloc (.cells #[Value.int IntKind.u8 0, Value.int IntKind.u8 0, Value.int IntKind.u8 0, Value.int IntKind.u8 0, Value.int IntKind.u8 0, Value.int IntKind.u8 0, Value.int IntKind.u8 0, Value.int IntKind.u8 0, Value.int IntKind.u8 0, Value.int IntKind.u8 0, Value.int IntKind.u8 0, Value.int IntKind.u8 0, Value.int IntKind.u8 0, Value.int IntKind.u8 0, Value.int IntKind.u8 0, Value.int IntKind.u8 0, Value.int IntKind.u8 0, Value.int IntKind.u8 0, Value.int IntKind.u8 0, Value.int IntKind.u8 0, Value.int IntKind.u8 0, Value.int IntKind.u8 0, Value.int IntKind.u8 0, Value.int IntKind.u8 0, Value.int IntKind.u8 0, Value.int IntKind.u8 0, Value.int IntKind.u8 0, Value.int IntKind.u8 0, Value.int IntKind.u8 0, Value.int IntKind.u8 0, Value.int IntKind.u8 0, Value.int IntKind.u8 0] 24) = w8 at *
  refine hid ?_
  refine wpList_store_row rfl 24 (.tmp 7) (.tmp 76) rfl w7.heap.size _ rfl rfl 24 _ HO1x.out (by rw [List.size_toArray, List.length_map, HS2L.out]; kernel_rfl) (by show 32 = (S2.map (Value.int .u8)).length; rw [List.length_map, HS2L.out]) (map_one _) ?_
  have HSEx := hid (setRow_heap w8 w7.heap.size _ ((S2.map (Value.int .u8)).toArray) 24 _ HO1x.out)
  have HBEx := hid (below_setRow HB1x.out (Nat.le_refl _) ((S2.map (Value.int .u8)).toArray))
  clear HO1x HB1x
  generalize w8.setRow w7.heap.size ((S2.map (Value.int .u8)).toArray) = w9 at *
  have HRS2 : Hid (Rd w9 .u8 (some ⟨w7.heap.size, 0, none⟩) S2) := hid (Rd.row HSEx.out (by rw [HS2L.out]; omega))
  have HO9 := hid (HO7.out.below HBEx.out)
  have HW9 := hid (below_then HW7.out HBEx.out)
  have hs9 : w0.heap.size ≤ w9.heap.size := Nat.le_trans HB7.out.size HBEx.out.size
  clear HSEx HBEx HO7 HW7 HB7
  generalize (S2.map (Value.int .u8)).toArray = SA2
  dsimp only [Act.put]
  go_wp2_with (at_builtin; refine hold ?_)
  refine hid ?_
  refine wpList_app2 rfl _ _ 22 5 .u8 1 rfl elemB w0.heap.size _ PL rfl HO9.out (some ⟨w7.heap.size, 0, none⟩) 32 32 S2 rfl HS2L.out (fun h => by simp at h) HRS2.out (by rw [HL6.out]; omega) (by rw [HL6.out]; simp [maxLen]) hs9 ?_
  intro v10 w10 ho10 hg10 hat10
  have hW10 : Below w.heap.size w w10 := HW9.out.grown hg10 (HW9.out.size) (fun q hq => by have := (HO9.out.lt q hq).1; omega)
  rw [← HSEAL.out] at ho10
  obtain ⟨A10, c10, rfl, _, _, _⟩ := ho10.rd (by rw [Ck.seal_len]; omega)
  rw [Ck.seal_len] at ho10 ⊢
  have HO10 := hid (own_low ho10 (Nat.le_of_lt hla)); have HW10 := hid hW10
  clear ho10 hg10 hat10 hW10 HO9 HW9 HRS2
  simp only [Act.put, List.setIfInBounds_toArray, List.set_cons_succ, List.set_cons_zero]
  go_wp2
  go_ret2
  exact ⟨_, rfl, HO10.out, HW10.out⟩
end Go.Proofs.YtaieajfgcnaedaaDoor
