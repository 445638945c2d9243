/-
  AN ARGUMENT THAT IS A SLICE OF THE DEEDS OF LAYER 9, OPENED.
-/
import Derived.Test.YtebfoigbiekeiaaLawR
import Derived.Test.YtebfoigbiekeiaaArpM
import Derived.Test.YtebfoigbiekeiaaProg
set_option linter.unusedVariables false
set_option linter.unusedSimpArgs false
namespace Go.Proofs.Ytebfoigbiekeiaa
open Go.ChangeShapes Go.WideShapes Go.Deep Go.RowKit

set_option maxRecDepth 100000 in
theorem open_arp {H : Type} {enc : TypeId × Value → H} {W : World} {fuel : Nat} {x : DataW H × List MemPlace} (c0 c1 c2 c3 c4 : Value)
    (hf : DataW.trod enc Try.prog W 0 (fun _ => true) true fuel 40 [c0, c1, c2, c3, c4] = some x) :
    ∃ op fm fi tm ti : Int, [c0, c1, c2, c3, c4] = [.int .i64 op, .int .u64 fm, .int .u32 fi, .int .u64 tm, .int .u32 ti] ∧ (0 ≤ fm ∧ fm < 18446744073709551616) ∧ (0 ≤ fi ∧ fi < 4294967296) ∧ (0 ≤ tm ∧ tm < 18446744073709551616) ∧ (0 ≤ ti ∧ ti < 4294967296) := by
  obtain ⟨ys, n', _, _, _, hyl, hfld⟩ := DataW.trod_struct Try.underlying40 hf
  have t0 : DataW.trod enc Try.prog W 0 (fun _ => true) true n' 3 [c0] = ys[0]? := hfld 0 _ rfl
  have t1 : DataW.trod enc Try.prog W 0 (fun _ => true) true n' 27 [c1] = ys[1]? := hfld 1 _ rfl
  have t2 : DataW.trod enc Try.prog W 0 (fun _ => true) true n' 28 [c2] = ys[2]? := hfld 2 _ rfl
  have t3 : DataW.trod enc Try.prog W 0 (fun _ => true) true n' 27 [c3] = ys[3]? := hfld 3 _ rfl
  have t4 : DataW.trod enc Try.prog W 0 (fun _ => true) true n' 28 [c4] = ys[4]? := hfld 4 _ rfl
  rw [List.getElem?_eq_getElem (show 0 < ys.length by rw [hyl]; decide)] at t0
  rw [List.getElem?_eq_getElem (show 1 < ys.length by rw [hyl]; decide)] at t1
  rw [List.getElem?_eq_getElem (show 2 < ys.length by rw [hyl]; decide)] at t2
  rw [List.getElem?_eq_getElem (show 3 < ys.length by rw [hyl]; decide)] at t3
  rw [List.getElem?_eq_getElem (show 4 < ys.length by rw [hyl]; decide)] at t4
  obtain ⟨x0, e0, _, w0⟩ := DataW.trod_int Try.underlying3 t0
  obtain ⟨x1, e1, _, w1⟩ := DataW.trod_int Try.underlying27 t1
  obtain ⟨x2, e2, _, w2⟩ := DataW.trod_int Try.underlying28 t2
  obtain ⟨x3, e3, _, w3⟩ := DataW.trod_int Try.underlying27 t3
  obtain ⟨x4, e4, _, w4⟩ := DataW.trod_int Try.underlying28 t4
  simp at e0 e1 e2 e3 e4
  subst e0 e1 e2 e3 e4
  have r1 : IntKind.u64.min ≤ x1 ∧ x1 ≤ IntKind.u64.max := by simpa [Lit.wf] using w1
  have r2 : IntKind.u32.min ≤ x2 ∧ x2 ≤ IntKind.u32.max := by simpa [Lit.wf] using w2
  have r3 : IntKind.u64.min ≤ x3 ∧ x3 ≤ IntKind.u64.max := by simpa [Lit.wf] using w3
  have r4 : IntKind.u32.min ≤ x4 ∧ x4 ≤ IntKind.u32.max := by simpa [Lit.wf] using w4
  simp [IntKind.min, IntKind.max, IntKind.signed, IntKind.bits] at r1 r2 r3 r4
  exact ⟨x0, x1, x2, x3, x4, rfl, by omega, by omega, by omega, by omega⟩
theorem weightsAll_mem {H : Type} {P : Program} {e : TypeId} : ∀ {l : List (DataW H)} {d : DataW H}, d ∈ l → ∀ n ∈ d.weights P e, n ∈ DataW.weightsAll P e l
  | [], d, h, n, hn => by simp at h
  | a :: l, d, h, n, hn => by
    rw [DataW.weightsAll]
    rcases List.mem_cons.1 h with rfl | h
    · exact List.mem_append_left _ hn
    · exact List.mem_append_right _ (weightsAll_mem h n hn)
set_option maxRecDepth 100000 in
theorem open_d9 {H : Type} {enc : TypeId × Value → H} {W : World} {base : Nat} {v : Value} {d : DataW H} {p : List MemPlace}
    (hval : Value.okWide Try.prog W .any base 44 v) (h : DataW.Trod enc Try.prog W 0 (fun _ => true) true 44 v d p) (hlt : ∀ x ∈ p, x.block < W.heap.size) (hw : ∀ x ∈ d.weights Try.prog 44, x ≤ reachBytes) :
    ∃ A la c, v = .slice A la c ∧ la ≤ c ∧ c ≤ maxLen ∧ RdD9 W A la := by
  obtain ⟨a0, len, cap, rfl⟩ := okWide_slice Try.underlying44 hval
  obtain ⟨fuel, hf⟩ := h
  rcases open_slice Try.underlying44 hf with ⟨hcs, hx⟩ | ⟨a, len', cap', m, n5, D, Pl, hcs, _, hl, hm, hmm, hx, hall⟩
  · simp [Value.cells] at hcs
    obtain ⟨rfl, rfl, rfl⟩ := hcs
    exact ⟨none, 0, 0, rfl, by simp, by simp, fun j hj => by simp at hj⟩
  · simp [Value.cells] at hcs
    obtain ⟨rfl, rfl, rfl⟩ := hcs
    simp only [Prod.mk.injEq] at hx
    obtain ⟨rfl, rfl⟩ := hx
    simp only [if_true] at hmm
    subst hmm
    refine ⟨some a, len, m, rfl, hl, hm, fun i hi => ?_⟩
    obtain ⟨cs', hc, hst⟩ := hall i (by omega)
    rw [show Try.prog.cellsOf 46 = 9 from by kernel_rfl] at hc
    obtain ⟨_, hlen, hat⟩ := World.cells?_some hc
    obtain ⟨ys, n', _, hyx, _, hyl, hfld⟩ := DataW.trod_struct Try.underlying46 hst
    match cs', hlen with
    | [v0, v1, v2, q0, q1, q2, q3, q4, v4], _ =>
    have t0 : DataW.trod enc Try.prog W 0 (fun _ => true) true n' 3 [v0] = ys[0]? := hfld 0 _ rfl
    have t1 : DataW.trod enc Try.prog W 0 (fun _ => true) true n' 28 [v1] = ys[1]? := hfld 1 _ rfl
    have t2 : DataW.trod enc Try.prog W 0 (fun _ => true) true n' 31 [v2] = ys[2]? := hfld 2 _ rfl
    have t3 : DataW.trod enc Try.prog W 0 (fun _ => true) true n' 40 [q0, q1, q2, q3, q4] = ys[3]? := hfld 3 _ rfl
    have t4 : DataW.trod enc Try.prog W 0 (fun _ => true) true n' 3 [v4] = ys[4]? := hfld 4 _ rfl
    rw [List.getElem?_eq_getElem (show 0 < ys.length by rw [hyl]; decide)] at t0
    rw [List.getElem?_eq_getElem (show 1 < ys.length by rw [hyl]; decide)] at t1
    rw [List.getElem?_eq_getElem (show 3 < ys.length by rw [hyl]; decide)] at t3
    rw [List.getElem?_eq_getElem (show 4 < ys.length by rw [hyl]; decide)] at t4
    obtain ⟨⟨d1, p1⟩, hd1⟩ : ∃ y, ys[2]? = some y := ⟨_, List.getElem?_eq_getElem (show 2 < ys.length by rw [hyl]; decide)⟩
    rw [hd1] at t2
    have hy1 : (d1, p1) ∈ ys := List.mem_of_getElem? hd1
    simp only [Prod.mk.injEq] at hyx
    have hpl : ∀ x ∈ p1, x.block < W.heap.size := fun x hx => hlt x (by
      refine List.mem_append_right _ (List.mem_flatMap.2 ⟨i, List.mem_range.2 (by omega), ?_⟩)
      rw [hyx.2]
      exact List.mem_flatMap.2 ⟨_, hy1, hx⟩)
    have hwt : ∀ x ∈ d1.weights Try.prog 31, x ≤ reachBytes := fun x hx => hw x (by
      rw [DataW.weights, Try.underlying44]
      refine List.mem_cons_of_mem _ (List.mem_append_left _ (weightsAll_mem (d := D i) (List.mem_map.2 ⟨i, List.mem_range.2 hi, rfl⟩) _ ?_))
      rw [hyx.1, DataW.weights, Try.underlying46]
      exact DataW.weights_mem_each (j := 2) (t := 31) (d := d1) rfl (by rw [List.getElem?_map, hd1]; rfl) x hx)
    obtain ⟨A1, xs, c1, rfl, hA1, hR1, hc1, hb1, hw1⟩ := open_rdC Try.underlying31 Try.underlying5 (by kernel_rfl) (of_decide_eq_true (by kernel_rfl)) t2 hpl hwt
    obtain ⟨x0, e0, _, w0⟩ := DataW.trod_int Try.underlying3 t0
    obtain ⟨x1, e1, _, w1⟩ := DataW.trod_int Try.underlying28 t1
    obtain ⟨x4, e4, _, w4⟩ := DataW.trod_int Try.underlying3 t4
    simp at e0 e1 e4
    subst e0 e1 e4
    have r1 : IntKind.u32.min ≤ x1 ∧ x1 ≤ IntKind.u32.max := by simpa [Lit.wf] using w1
    simp [IntKind.min, IntKind.max, IntKind.signed, IntKind.bits] at r1
    obtain ⟨op, fm, fi, tm, ti, hq, hfm, hfi, htm, hti⟩ := open_arp _ _ _ _ _ t3
    have hspot : ∃ b o, a = ⟨b, o, none⟩ ∧ b < W.heap.size := by
      obtain ⟨cs0, hc0, _⟩ := hall 0 (by omega)
      rw [show Try.prog.cellsOf 46 = 9 from by kernel_rfl] at hc0
      obtain ⟨_, hlen0, hat0⟩ := World.cells?_some hc0
      have c0 := hat0 0 (by decide)
      rw [Nat.zero_mul] at c0
      obtain ⟨v00, hv00⟩ : ∃ u, W.cell? a = some u := by
        match cs0, hlen0 with
        | u :: _, _ => exact ⟨u, by simpa [Addr.add] using c0⟩
      obtain ⟨b, o, s⟩ := a
      have hs : s = none := World.cell?_spot hv00
      subst hs
      exact ⟨b, o, rfl, block_lt_of_cell hv00⟩
    obtain ⟨b, o, rfl, hb⟩ := hspot
    simp at hq
    obtain ⟨rfl, rfl, rfl, rfl, rfl⟩ := hq
    refine ⟨b, o, ⟨x0, x1, xs, op, fm, fi, tm, ti, x4⟩, A1, c1, rfl, hb, fun j v hj => ?_, hR1, hA1, ⟨by simp only; omega, bytes_wf hw1, hfm, hfi, htm, hti⟩⟩
    have hjl : j < 9 := by
      have := (List.getElem?_eq_some_iff.1 hj).1
      simpa [D9.cells] using this
    have h1 := hat j hjl
    rw [WideShapes.add_plain, WideShapes.add_plain] at h1
    rw [h1]
    exact hj
end Go.Proofs.Ytebfoigbiekeiaa
