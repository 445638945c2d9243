/-
  AN ARGUMENT THAT IS A SLICE OF THE DEEDS OF LAYER 6, OPENED.
-/
import Derived.Test.YtaieajfgcnaedaaDoorLawR
import Derived.Test.YtaieajfgcnaedaaDoorCookL
import Derived.Test.YtaieajfgcnaedaaDoorRefL
set_option linter.unusedVariables false
set_option linter.unusedSimpArgs false
namespace Go.Proofs.YtaieajfgcnaedaaDoor
open Go.ChangeShapes Go.WideShapes Go.Deep Go.RowKit

theorem open_ckc {H : Type} {enc : TypeId × Value → H} {W : World} {fuel : Nat} {x : DataW H × List MemPlace} (c0 c1 c2 c3 c4 c5 c6 c7 c8 c9 c10 c11 c12 : Value)
    (hf : DataW.trod enc Tryd.prog W 0 (fun _ => true) true fuel 40 [c0, c1, c2, c3, c4, c5, c6, c7, c8, c9, c10, c11, c12] = some x) :
    ∃ ck : Ck, [c0, c1, c2, c3, c4, c5, c6, c7, c8, c9, c10, c11, c12] = ck.cells.toList ∧ ck.Ok := by
  obtain ⟨ys, n', _, _, _, hyl, hfld⟩ := DataW.trod_struct Tryd.underlying40 hf
  have t0 : DataW.trod enc Tryd.prog W 0 (fun _ => true) true n' 3 [c0] = ys[0]? := hfld 0 _ rfl
  have t1 : DataW.trod enc Tryd.prog W 0 (fun _ => true) true n' 3 [c1] = ys[1]? := hfld 1 _ rfl
  have t2 : DataW.trod enc Tryd.prog W 0 (fun _ => true) true n' 37 [c2] = ys[2]? := hfld 2 _ rfl
  have t3 : DataW.trod enc Tryd.prog W 0 (fun _ => true) true n' 37 [c3] = ys[3]? := hfld 3 _ rfl
  have t4 : DataW.trod enc Tryd.prog W 0 (fun _ => true) true n' 38 [c4] = ys[4]? := hfld 4 _ rfl
  have t5 : DataW.trod enc Tryd.prog W 0 (fun _ => true) true n' 38 [c5] = ys[5]? := hfld 5 _ rfl
  have t6 : DataW.trod enc Tryd.prog W 0 (fun _ => true) true n' 38 [c6] = ys[6]? := hfld 6 _ rfl
  have t7 : DataW.trod enc Tryd.prog W 0 (fun _ => true) true n' 38 [c7] = ys[7]? := hfld 7 _ rfl
  have t8 : DataW.trod enc Tryd.prog W 0 (fun _ => true) true n' 38 [c8] = ys[8]? := hfld 8 _ rfl
  have t9 : DataW.trod enc Tryd.prog W 0 (fun _ => true) true n' 37 [c9] = ys[9]? := hfld 9 _ rfl
  have t10 : DataW.trod enc Tryd.prog W 0 (fun _ => true) true n' 37 [c10] = ys[10]? := hfld 10 _ rfl
  have t11 : DataW.trod enc Tryd.prog W 0 (fun _ => true) true n' 38 [c11] = ys[11]? := hfld 11 _ rfl
  have t12 : DataW.trod enc Tryd.prog W 0 (fun _ => true) true n' 38 [c12] = ys[12]? := hfld 12 _ rfl
  rw [List.getElem?_eq_getElem (show 0 < ys.length by rw [hyl]; decide)] at t0
  rw [List.getElem?_eq_getElem (show 1 < ys.length by rw [hyl]; decide)] at t1
  rw [List.getElem?_eq_getElem (show 2 < ys.length by rw [hyl]; decide)] at t2
  rw [List.getElem?_eq_getElem (show 3 < ys.length by rw [hyl]; decide)] at t3
  rw [List.getElem?_eq_getElem (show 4 < ys.length by rw [hyl]; decide)] at t4
  rw [List.getElem?_eq_getElem (show 5 < ys.length by rw [hyl]; decide)] at t5
  rw [List.getElem?_eq_getElem (show 6 < ys.length by rw [hyl]; decide)] at t6
  rw [List.getElem?_eq_getElem (show 7 < ys.length by rw [hyl]; decide)] at t7
  rw [List.getElem?_eq_getElem (show 8 < ys.length by rw [hyl]; decide)] at t8
  rw [List.getElem?_eq_getElem (show 9 < ys.length by rw [hyl]; decide)] at t9
  rw [List.getElem?_eq_getElem (show 10 < ys.length by rw [hyl]; decide)] at t10
  rw [List.getElem?_eq_getElem (show 11 < ys.length by rw [hyl]; decide)] at t11
  rw [List.getElem?_eq_getElem (show 12 < ys.length by rw [hyl]; decide)] at t12
  obtain ⟨x0, e0, _, w0⟩ := DataW.trod_int Tryd.underlying3 t0
  obtain ⟨x1, e1, _, w1⟩ := DataW.trod_int Tryd.underlying3 t1
  obtain ⟨x2, e2, _, w2⟩ := DataW.trod_int Tryd.underlying37 t2
  obtain ⟨x3, e3, _, w3⟩ := DataW.trod_int Tryd.underlying37 t3
  obtain ⟨x4, e4, _, w4⟩ := DataW.trod_int Tryd.underlying38 t4
  obtain ⟨x5, e5, _, w5⟩ := DataW.trod_int Tryd.underlying38 t5
  obtain ⟨x6, e6, _, w6⟩ := DataW.trod_int Tryd.underlying38 t6
  obtain ⟨x7, e7, _, w7⟩ := DataW.trod_int Tryd.underlying38 t7
  obtain ⟨x8, e8, _, w8⟩ := DataW.trod_int Tryd.underlying38 t8
  obtain ⟨x9, e9, _, w9⟩ := DataW.trod_int Tryd.underlying37 t9
  obtain ⟨x10, e10, _, w10⟩ := DataW.trod_int Tryd.underlying37 t10
  obtain ⟨x11, e11, _, w11⟩ := DataW.trod_int Tryd.underlying38 t11
  obtain ⟨x12, e12, _, w12⟩ := DataW.trod_int Tryd.underlying38 t12
  simp at e0 e1 e2 e3 e4 e5 e6 e7 e8 e9 e10 e11 e12
  subst e0 e1 e2 e3 e4 e5 e6 e7 e8 e9 e10 e11 e12
  have r0 : IntKind.i64.min ≤ x0 ∧ x0 ≤ IntKind.i64.max := by simpa [Lit.wf] using w0
  have r1 : IntKind.i64.min ≤ x1 ∧ x1 ≤ IntKind.i64.max := by simpa [Lit.wf] using w1
  have r2 : IntKind.u16.min ≤ x2 ∧ x2 ≤ IntKind.u16.max := by simpa [Lit.wf] using w2
  have r3 : IntKind.u16.min ≤ x3 ∧ x3 ≤ IntKind.u16.max := by simpa [Lit.wf] using w3
  have r4 : IntKind.u32.min ≤ x4 ∧ x4 ≤ IntKind.u32.max := by simpa [Lit.wf] using w4
  have r5 : IntKind.u32.min ≤ x5 ∧ x5 ≤ IntKind.u32.max := by simpa [Lit.wf] using w5
  have r6 : IntKind.u32.min ≤ x6 ∧ x6 ≤ IntKind.u32.max := by simpa [Lit.wf] using w6
  have r7 : IntKind.u32.min ≤ x7 ∧ x7 ≤ IntKind.u32.max := by simpa [Lit.wf] using w7
  have r8 : IntKind.u32.min ≤ x8 ∧ x8 ≤ IntKind.u32.max := by simpa [Lit.wf] using w8
  have r9 : IntKind.u16.min ≤ x9 ∧ x9 ≤ IntKind.u16.max := by simpa [Lit.wf] using w9
  have r10 : IntKind.u16.min ≤ x10 ∧ x10 ≤ IntKind.u16.max := by simpa [Lit.wf] using w10
  have r11 : IntKind.u32.min ≤ x11 ∧ x11 ≤ IntKind.u32.max := by simpa [Lit.wf] using w11
  have r12 : IntKind.u32.min ≤ x12 ∧ x12 ≤ IntKind.u32.max := by simpa [Lit.wf] using w12
  simp [IntKind.min, IntKind.max, IntKind.signed, IntKind.bits] at r0 r1 r2 r3 r4 r5 r6 r7 r8 r9 r10 r11 r12
  refine ⟨⟨x0, x1, x2, x3, x4, x5, x6, x7, x8, x9, x10, x11, x12⟩, rfl, ?_⟩
  constructor <;> (simp only; omega)

theorem weightsAll_mem {H : Type} {P : Program} {e : TypeId} : ∀ {l : List (DataW H)} {d : DataW H}, d ∈ l → ∀ n ∈ d.weights P e, n ∈ DataW.weightsAll P e l
  | [], d, h, n, hn => by simp at h
  | a :: l, d, h, n, hn => by
    rw [DataW.weightsAll]
    rcases List.mem_cons.1 h with rfl | h
    · exact List.mem_append_left _ hn
    · exact List.mem_append_right _ (weightsAll_mem h n hn)
theorem open_dd {H : Type} {enc : TypeId × Value → H} {W : World} {base : Nat} {v : Value} {d : DataW H} {p : List MemPlace}
    (hval : Value.okWide Tryd.prog W .any base 50 v) (h : DataW.Trod enc Tryd.prog W 0 (fun _ => true) true 50 v d p) (hlt : ∀ x ∈ p, x.block < W.heap.size) (hw : ∀ x ∈ d.weights Tryd.prog 50, x ≤ reachBytes) :
    ∃ A la c, v = .slice A la c ∧ la ≤ c ∧ c ≤ maxLen ∧ RdDd W A la := by
  obtain ⟨a0, len, cap, rfl⟩ := okWide_slice Tryd.underlying50 hval
  obtain ⟨fuel, hf⟩ := h
  rcases open_slice Tryd.underlying50 hf with ⟨hcs, hx⟩ | ⟨a, len', cap', m, n5, D, Pl, hcs, _, hl, hm, hmm, hx, hall⟩
  · simp [Value.cells] at hcs
    obtain ⟨rfl, rfl, rfl⟩ := hcs
    exact ⟨none, 0, 0, rfl, by simp, by simp, fun j hj => by simp at hj⟩
  · simp [Value.cells] at hcs
    obtain ⟨rfl, rfl, rfl⟩ := hcs
    simp only [Prod.mk.injEq] at hx
    obtain ⟨rfl, rfl⟩ := hx
    simp only [if_true] at hmm
    subst hmm
    refine ⟨some a, len, m, rfl, hl, hm, fun i hi => ?_⟩
    obtain ⟨cs', hc, hst⟩ := hall i (by omega)
    rw [show Tryd.prog.cellsOf 64 = 19 from by kernel_rfl] at hc
    obtain ⟨_, hlen, hat⟩ := World.cells?_some hc
    obtain ⟨ys, n', _, hyx, _, hyl, hfld⟩ := DataW.trod_struct Tryd.underlying64 hst
    match cs', hlen with
    | [v0, v1, q0, q1, q2, q3, q4, q5, q6, q7, q8, q9, q10, q11, q12, v3, v4, v5, v6], _ =>
    have t0 : DataW.trod enc Tryd.prog W 0 (fun _ => true) true n' 3 [v0] = ys[0]? := hfld 0 _ rfl
    have t1 : DataW.trod enc Tryd.prog W 0 (fun _ => true) true n' 22 [v1] = ys[1]? := hfld 1 _ rfl
    have t2 : DataW.trod enc Tryd.prog W 0 (fun _ => true) true n' 40 [q0, q1, q2, q3, q4, q5, q6, q7, q8, q9, q10, q11, q12] = ys[2]? := hfld 2 _ rfl
    have t3 : DataW.trod enc Tryd.prog W 0 (fun _ => true) true n' 3 [v3] = ys[3]? := hfld 3 _ rfl
    have t4 : DataW.trod enc Tryd.prog W 0 (fun _ => true) true n' 5 [v4] = ys[4]? := hfld 4 _ rfl
    have t5 : DataW.trod enc Tryd.prog W 0 (fun _ => true) true n' 5 [v5] = ys[5]? := hfld 5 _ rfl
    have t6 : DataW.trod enc Tryd.prog W 0 (fun _ => true) true n' 5 [v6] = ys[6]? := hfld 6 _ rfl
    rw [List.getElem?_eq_getElem (show 0 < ys.length by rw [hyl]; decide)] at t0
    rw [List.getElem?_eq_getElem (show 2 < ys.length by rw [hyl]; decide)] at t2
    rw [List.getElem?_eq_getElem (show 3 < ys.length by rw [hyl]; decide)] at t3
    rw [List.getElem?_eq_getElem (show 4 < ys.length by rw [hyl]; decide)] at t4
    rw [List.getElem?_eq_getElem (show 5 < ys.length by rw [hyl]; decide)] at t5
    rw [List.getElem?_eq_getElem (show 6 < ys.length by rw [hyl]; decide)] at t6
    obtain ⟨⟨d1, p1⟩, hd1⟩ : ∃ y, ys[1]? = some y := ⟨_, List.getElem?_eq_getElem (show 1 < ys.length by rw [hyl]; decide)⟩
    rw [hd1] at t1
    have hy1 : (d1, p1) ∈ ys := List.mem_of_getElem? hd1
    simp only [Prod.mk.injEq] at hyx
    have hpl : ∀ x ∈ p1, x.block < W.heap.size := fun x hx => hlt x (by
      refine List.mem_append_right _ (List.mem_flatMap.2 ⟨i, List.mem_range.2 (by omega), ?_⟩)
      rw [hyx.2]
      exact List.mem_flatMap.2 ⟨_, hy1, hx⟩)
    have hwt : ∀ x ∈ d1.weights Tryd.prog 22, x ≤ reachBytes := fun x hx => hw x (by
      rw [DataW.weights, Tryd.underlying50]
      refine List.mem_cons_of_mem _ (List.mem_append_left _ (weightsAll_mem (d := D i) (List.mem_map.2 ⟨i, List.mem_range.2 hi, rfl⟩) _ ?_))
      rw [hyx.1, DataW.weights, Tryd.underlying64]
      exact DataW.weights_mem_each (j := 1) (t := 22) (d := d1) rfl (by rw [List.getElem?_map, hd1]; rfl) x hx)
    obtain ⟨A1, xs, c1, rfl, hA1, hR1, hc1, hb1, hw1⟩ := open_rdC Tryd.underlying22 Tryd.underlying5 (by kernel_rfl) (of_decide_eq_true (by kernel_rfl)) t1 hpl hwt
    rw [show Tryd.prog.bytesOf 5 = 1 from by kernel_rfl] at hb1
    obtain ⟨x0, e0, _, w0⟩ := DataW.trod_int Tryd.underlying3 t0
    obtain ⟨x3, e3, _, w3⟩ := DataW.trod_int Tryd.underlying3 t3
    obtain ⟨x4, e4, _, w4⟩ := DataW.trod_int Tryd.underlying5 t4
    obtain ⟨x5, e5, _, w5⟩ := DataW.trod_int Tryd.underlying5 t5
    obtain ⟨x6, e6, _, w6⟩ := DataW.trod_int Tryd.underlying5 t6
    simp at e0 e3 e4 e5 e6
    subst e0 e3 e4 e5 e6
    have r4 : IntKind.u8.min ≤ x4 ∧ x4 ≤ IntKind.u8.max := by simpa [Lit.wf] using w4
    have r5 : IntKind.u8.min ≤ x5 ∧ x5 ≤ IntKind.u8.max := by simpa [Lit.wf] using w5
    have r6 : IntKind.u8.min ≤ x6 ∧ x6 ≤ IntKind.u8.max := by simpa [Lit.wf] using w6
    simp [IntKind.min, IntKind.max, IntKind.signed, IntKind.bits] at r4 r5 r6
    obtain ⟨ck, hck, hcko⟩ := open_ckc _ _ _ _ _ _ _ _ _ _ _ _ _ t2
    have hspot : ∃ b o, a = ⟨b, o, none⟩ ∧ b < W.heap.size := by
      obtain ⟨cs0, hc0, _⟩ := hall 0 (by omega)
      rw [show Tryd.prog.cellsOf 64 = 19 from by kernel_rfl] at hc0
      obtain ⟨_, hlen0, hat0⟩ := World.cells?_some hc0
      have c0 := hat0 0 (by decide)
      rw [Nat.zero_mul] at c0
      obtain ⟨v00, hv00⟩ : ∃ u, W.cell? a = some u := by
        match cs0, hlen0 with
        | u :: _, _ => exact ⟨u, by simpa [Addr.add] using c0⟩
      obtain ⟨b, o, s⟩ := a
      have hs : s = none := World.cell?_spot hv00
      subst hs
      exact ⟨b, o, rfl, block_lt_of_cell hv00⟩
    obtain ⟨b, o, rfl, hb⟩ := hspot
    refine ⟨b, o, [.int .i64 x0, .slice A1 xs.length c1, q0, q1, q2, q3, q4, q5, q6, q7, q8, q9, q10, q11, q12, .int .i64 x3, .int .u8 x4, .int .u8 x5, .int .u8 x6], ⟨x0, xs, ck, x3, x4, x5, x6⟩, A1, c1, rfl, hb, rfl, fun j v hj => ?_, ⟨rfl, rfl, fun j v hj => ?_, rfl, rfl, rfl, rfl⟩, ⟨hR1, hA1, bytes_wf hw1, hc1, by omega, hcko, by simp only; omega, by simp only; omega, by simp only; omega⟩⟩
    · have hjl : j < 19 := by
        have := (List.getElem?_eq_some_iff.1 hj).1
        simpa using this
      have h1 := hat j hjl
      rw [WideShapes.add_plain, WideShapes.add_plain] at h1
      rw [h1]
      exact hj
    · simp only at hj
      rw [← hck] at hj
      rw [List.getElem?_toArray]
      have hjl : j < 13 := by
        have := (List.getElem?_eq_some_iff.1 hj).1
        simpa using this
      rw [show 2 + j = j + 2 by omega]
      rw [List.getElem?_cons_succ, List.getElem?_cons_succ]
      have e1 : (q0 :: q1 :: q2 :: q3 :: q4 :: q5 :: q6 :: q7 :: q8 :: q9 :: q10 :: q11 :: q12 :: [Value.int .i64 x3, Value.int .u8 x4, Value.int .u8 x5, Value.int .u8 x6]) = [q0, q1, q2, q3, q4, q5, q6, q7, q8, q9, q10, q11, q12] ++ [Value.int .i64 x3, Value.int .u8 x4, Value.int .u8 x5, Value.int .u8 x6] := rfl
      rw [e1, List.getElem?_append_left (by simpa using hjl)]
      exact hj
end Go.Proofs.YtaieajfgcnaedaaDoor
