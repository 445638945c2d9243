/-
  AN ARGUMENT THAT IS A COOKIE, BY VALUE, OPENED.
-/
import Derived.Test.YtaieajfgcnaedaaDoorCookA
import Derived.Test.YtaieajfgcnaedaaDoorProg
import Derived.ProofKit
import Derived.Deep.Slices
import Derived.Deep.Fields
import Derived.ChangeSame
import Derived.OpenShut
set_option linter.unusedVariables false
set_option linter.unusedSimpArgs false
namespace Go.Proofs.YtaieajfgcnaedaaDoor
open Go.ChangeShapes Go.WideShapes Go.Deep Go.RowKit

theorem open_ck {H : Type} {enc : TypeId × Value → H} {W : World} {base : Nat} {v : Value} {d : DataW H} {p : List MemPlace}
    (hval : Value.okWide Tryd.prog W .any base 40 v) (h : DataW.Trod enc Tryd.prog W 0 (fun _ => true) true 40 v d p) :
    ∃ ck : Ck, v = .agg ck.cells ∧ ck.Ok ∧ (-9223372036854775808 ≤ ck.made ∧ ck.made ≤ 9223372036854775807) ∧ (-9223372036854775808 ≤ ck.life ∧ ck.life ≤ 9223372036854775807) := by
  obtain ⟨cs, rfl, hsz, _⟩ : ∃ cs, v = .agg cs ∧ cs.size = Tryd.prog.cellsOf 40 ∧ Row.okWide Tryd.prog W .any base 40 cs := by
    simpa [Value.okWide, Tryd.underlying40] using hval
  rw [show Tryd.prog.cellsOf 40 = 13 from by kernel_rfl] at hsz
  obtain ⟨c0, c1, c2, c3, c4, c5, c6, c7, c8, c9, c10, c11, c12, rfl⟩ : ∃ c0 c1 c2 c3 c4 c5 c6 c7 c8 c9 c10 c11 c12, cs = #[c0, c1, c2, c3, c4, c5, c6, c7, c8, c9, c10, c11, c12] := by
    obtain ⟨l⟩ := cs
    match l, hsz with
    | [a0, a1, a2, a3, a4, a5, a6, a7, a8, a9, a10, a11, a12], _ => exact ⟨a0, a1, a2, a3, a4, a5, a6, a7, a8, a9, a10, a11, a12, rfl⟩
  obtain ⟨fuel, hf⟩ := h
  obtain ⟨ys, n', _, _, _, hyl, hfld⟩ := DataW.trod_struct Tryd.underlying40 hf
  have t0 : DataW.trod enc Tryd.prog W 0 (fun _ => true) true n' 3 [c0] = ys[0]? := hfld 0 _ rfl
  have t1 : DataW.trod enc Tryd.prog W 0 (fun _ => true) true n' 3 [c1] = ys[1]? := hfld 1 _ rfl
  have t2 : DataW.trod enc Tryd.prog W 0 (fun _ => true) true n' 37 [c2] = ys[2]? := hfld 2 _ rfl
  have t3 : DataW.trod enc Tryd.prog W 0 (fun _ => true) true n' 37 [c3] = ys[3]? := hfld 3 _ rfl
  have t4 : DataW.trod enc Tryd.prog W 0 (fun _ => true) true n' 38 [c4] = ys[4]? := hfld 4 _ rfl
  have t5 : DataW.trod enc Tryd.prog W 0 (fun _ => true) true n' 38 [c5] = ys[5]? := hfld 5 _ rfl
  have t6 : DataW.trod enc Tryd.prog W 0 (fun _ => true) true n' 38 [c6] = ys[6]? := hfld 6 _ rfl
  have t7 : DataW.trod enc Tryd.prog W 0 (fun _ => true) true n' 38 [c7] = ys[7]? := hfld 7 _ rfl
  have t8 : DataW.trod enc Tryd.prog W 0 (fun _ => true) true n' 38 [c8] = ys[8]? := hfld 8 _ rfl
  have t9 : DataW.trod enc Tryd.prog W 0 (fun _ => true) true n' 37 [c9] = ys[9]? := hfld 9 _ rfl
  have t10 : DataW.trod enc Tryd.prog W 0 (fun _ => true) true n' 37 [c10] = ys[10]? := hfld 10 _ rfl
  have t11 : DataW.trod enc Tryd.prog W 0 (fun _ => true) true n' 38 [c11] = ys[11]? := hfld 11 _ rfl
  have t12 : DataW.trod enc Tryd.prog W 0 (fun _ => true) true n' 38 [c12] = ys[12]? := hfld 12 _ rfl
  rw [List.getElem?_eq_getElem (show 0 < ys.length by rw [hyl]; decide)] at t0
  rw [List.getElem?_eq_getElem (show 1 < ys.length by rw [hyl]; decide)] at t1
  rw [List.getElem?_eq_getElem (show 2 < ys.length by rw [hyl]; decide)] at t2
  rw [List.getElem?_eq_getElem (show 3 < ys.length by rw [hyl]; decide)] at t3
  rw [List.getElem?_eq_getElem (show 4 < ys.length by rw [hyl]; decide)] at t4
  rw [List.getElem?_eq_getElem (show 5 < ys.length by rw [hyl]; decide)] at t5
  rw [List.getElem?_eq_getElem (show 6 < ys.length by rw [hyl]; decide)] at t6
  rw [List.getElem?_eq_getElem (show 7 < ys.length by rw [hyl]; decide)] at t7
  rw [List.getElem?_eq_getElem (show 8 < ys.length by rw [hyl]; decide)] at t8
  rw [List.getElem?_eq_getElem (show 9 < ys.length by rw [hyl]; decide)] at t9
  rw [List.getElem?_eq_getElem (show 10 < ys.length by rw [hyl]; decide)] at t10
  rw [List.getElem?_eq_getElem (show 11 < ys.length by rw [hyl]; decide)] at t11
  rw [List.getElem?_eq_getElem (show 12 < ys.length by rw [hyl]; decide)] at t12
  obtain ⟨x0, e0, _, w0⟩ := DataW.trod_int Tryd.underlying3 t0
  obtain ⟨x1, e1, _, w1⟩ := DataW.trod_int Tryd.underlying3 t1
  obtain ⟨x2, e2, _, w2⟩ := DataW.trod_int Tryd.underlying37 t2
  obtain ⟨x3, e3, _, w3⟩ := DataW.trod_int Tryd.underlying37 t3
  obtain ⟨x4, e4, _, w4⟩ := DataW.trod_int Tryd.underlying38 t4
  obtain ⟨x5, e5, _, w5⟩ := DataW.trod_int Tryd.underlying38 t5
  obtain ⟨x6, e6, _, w6⟩ := DataW.trod_int Tryd.underlying38 t6
  obtain ⟨x7, e7, _, w7⟩ := DataW.trod_int Tryd.underlying38 t7
  obtain ⟨x8, e8, _, w8⟩ := DataW.trod_int Tryd.underlying38 t8
  obtain ⟨x9, e9, _, w9⟩ := DataW.trod_int Tryd.underlying37 t9
  obtain ⟨x10, e10, _, w10⟩ := DataW.trod_int Tryd.underlying37 t10
  obtain ⟨x11, e11, _, w11⟩ := DataW.trod_int Tryd.underlying38 t11
  obtain ⟨x12, e12, _, w12⟩ := DataW.trod_int Tryd.underlying38 t12
  simp at e0 e1 e2 e3 e4 e5 e6 e7 e8 e9 e10 e11 e12
  subst e0 e1 e2 e3 e4 e5 e6 e7 e8 e9 e10 e11 e12
  have r0 : IntKind.i64.min ≤ x0 ∧ x0 ≤ IntKind.i64.max := by simpa [Lit.wf] using w0
  have r1 : IntKind.i64.min ≤ x1 ∧ x1 ≤ IntKind.i64.max := by simpa [Lit.wf] using w1
  have r2 : IntKind.u16.min ≤ x2 ∧ x2 ≤ IntKind.u16.max := by simpa [Lit.wf] using w2
  have r3 : IntKind.u16.min ≤ x3 ∧ x3 ≤ IntKind.u16.max := by simpa [Lit.wf] using w3
  have r4 : IntKind.u32.min ≤ x4 ∧ x4 ≤ IntKind.u32.max := by simpa [Lit.wf] using w4
  have r5 : IntKind.u32.min ≤ x5 ∧ x5 ≤ IntKind.u32.max := by simpa [Lit.wf] using w5
  have r6 : IntKind.u32.min ≤ x6 ∧ x6 ≤ IntKind.u32.max := by simpa [Lit.wf] using w6
  have r7 : IntKind.u32.min ≤ x7 ∧ x7 ≤ IntKind.u32.max := by simpa [Lit.wf] using w7
  have r8 : IntKind.u32.min ≤ x8 ∧ x8 ≤ IntKind.u32.max := by simpa [Lit.wf] using w8
  have r9 : IntKind.u16.min ≤ x9 ∧ x9 ≤ IntKind.u16.max := by simpa [Lit.wf] using w9
  have r10 : IntKind.u16.min ≤ x10 ∧ x10 ≤ IntKind.u16.max := by simpa [Lit.wf] using w10
  have r11 : IntKind.u32.min ≤ x11 ∧ x11 ≤ IntKind.u32.max := by simpa [Lit.wf] using w11
  have r12 : IntKind.u32.min ≤ x12 ∧ x12 ≤ IntKind.u32.max := by simpa [Lit.wf] using w12
  simp [IntKind.min, IntKind.max, IntKind.signed, IntKind.bits] at r0 r1 r2 r3 r4 r5 r6 r7 r8 r9 r10 r11 r12
  exact ⟨⟨x0, x1, x2, x3, x4, x5, x6, x7, x8, x9, x10, x11, x12⟩, rfl, ⟨by constructor <;> (simp only; omega), by constructor <;> (simp only; omega), by constructor <;> (simp only; omega), by constructor <;> (simp only; omega), by constructor <;> (simp only; omega), by constructor <;> (simp only; omega), by constructor <;> (simp only; omega), by constructor <;> (simp only; omega), by constructor <;> (simp only; omega), by constructor <;> (simp only; omega), by constructor <;> (simp only; omega)⟩, r0, r1⟩
end Go.Proofs.YtaieajfgcnaedaaDoor
