/-
  AN ARGUMENT THAT IS A SLICE OF DEEDS, OPENED; an array of two whole numbers, opened.
-/
import Derived.Test.YtopcokjfgldblaaPathA
import Derived.Test.YtopcokjfgldblaaProg
import Derived.ProofKit
import Derived.Deep.Slices
import Derived.Deep.Fields
import Derived.ChangeSame
import Derived.OpenShut
set_option linter.unusedVariables false
set_option linter.unusedSimpArgs false
namespace Go.Proofs.Ytopcokjfgldblaa
open Go.ChangeShapes Go.WideShapes Go.Deep Go.RowKit

structure DeedR where
  d : Int
  a : Int
  b : Int
  m : Bool
  n : Int
instance : Inhabited DeedR := ⟨⟨0, 0, 0, false, 0⟩⟩
/-- A row of deeds that can be read. -/
def RdD (w : World) (A : Option Addr) (ds : List DeedR) : Prop :=
  ∀ j, j < ds.length → ∃ b o, A = some ⟨b, o, none⟩ ∧ b < w.heap.size ∧ w.cell? ⟨b, o + j * 5, none⟩ = some (.int .i64 (ds.getD j default).d) ∧ w.cell? ⟨b, o + j * 5 + 1, none⟩ = some (.int .i64 (ds.getD j default).a) ∧
    w.cell? ⟨b, o + j * 5 + 2, none⟩ = some (.int .i64 (ds.getD j default).b) ∧ w.cell? ⟨b, o + j * 5 + 3, none⟩ = some (.bool (ds.getD j default).m) ∧ w.cell? ⟨b, o + j * 5 + 4, none⟩ = some (.int .u64 (ds.getD j default).n)
def DeedsOk (ds : List DeedR) : Prop := ∀ j, 0 ≤ (ds.getD j default).n ∧ (ds.getD j default).n ≤ 18446744073709551615

theorem open_deeds {H : Type} {enc : TypeId × Value → H} {W : World} {base : Nat} {v : Value} {d : DataW H} {p : List MemPlace}
    (hval : Value.okWide Try.prog W .any base 40 v) (h : DataW.Trod enc Try.prog W 0 (fun _ => true) true 40 v d p) (hlt : ∀ x ∈ p, x.block < W.heap.size) :
    ∃ A ds c, v = .slice A ds.length c ∧ ds.length ≤ c ∧ c ≤ maxLen ∧ RdD W A ds ∧ DeedsOk ds := by
  obtain ⟨a0, len, cap, rfl⟩ := okWide_slice Try.underlying40 hval
  obtain ⟨fuel, hf⟩ := h
  rcases open_slice Try.underlying40 hf with ⟨hcs, hx⟩ | ⟨a, len', cap', m, n5, D, Pl, hcs, _, hl, hm, hmm, hx, hall⟩
  · simp [Value.cells] at hcs
    obtain ⟨rfl, rfl, rfl⟩ := hcs
    exact ⟨none, [], 0, rfl, by simp, by simp, fun j hj => by simp at hj, fun j => by simp [default]⟩
  · simp [Value.cells] at hcs
    obtain ⟨rfl, rfl, rfl⟩ := hcs
    simp only [Prod.mk.injEq] at hx
    obtain ⟨_, rfl⟩ := hx
    simp only [if_true] at hmm
    subst hmm
    have key : ∀ i, i < m → ∃ r : DeedR, W.cell? (a.add (i * 5)) = some (.int .i64 r.d) ∧ W.cell? (a.add (i * 5 + 1)) = some (.int .i64 r.a) ∧ W.cell? (a.add (i * 5 + 2)) = some (.int .i64 r.b) ∧ W.cell? (a.add (i * 5 + 3)) = some (.bool r.m) ∧ W.cell? (a.add (i * 5 + 4)) = some (.int .u64 r.n) ∧ 0 ≤ r.n ∧ r.n ≤ 18446744073709551615 := by
      intro i hi
      obtain ⟨cs', hc, hst⟩ := hall i hi
      rw [show Try.prog.cellsOf 50 = 5 from by kernel_rfl] at hc
      obtain ⟨_, hlen, hat⟩ := World.cells?_some hc
      obtain ⟨ys, n', _, _, _, hyl, hfld⟩ := DataW.trod_struct Try.underlying50 hst
      match cs', hlen with
      | [v0, v1, v2, v3, v4], _ =>
      have ad : ∀ j, (a.add (i * 5)).add j = a.add (i * 5 + j) := fun j => Go.Deep.add_add _ _ _
      have c0 := hat 0 (by decide)
      have c1 := hat 1 (by decide)
      have c2 := hat 2 (by decide)
      have c3 := hat 3 (by decide)
      have c4 := hat 4 (by decide)
      rw [ad] at c0 c1 c2 c3 c4
      rw [Nat.add_zero] at c0
      simp only [List.getElem?_cons_zero, List.getElem?_cons_succ] at c0 c1 c2 c3 c4
      have t0 : DataW.trod enc Try.prog W 0 (fun _ => true) true n' 3 [v0] = ys[0]? := hfld 0 _ rfl
      have t1 : DataW.trod enc Try.prog W 0 (fun _ => true) true n' 3 [v1] = ys[1]? := hfld 1 _ rfl
      have t2 : DataW.trod enc Try.prog W 0 (fun _ => true) true n' 3 [v2] = ys[2]? := hfld 2 _ rfl
      have t3 : DataW.trod enc Try.prog W 0 (fun _ => true) true n' 4 [v3] = ys[3]? := hfld 3 _ rfl
      have t4 : DataW.trod enc Try.prog W 0 (fun _ => true) true n' 48 [v4] = ys[4]? := hfld 4 _ rfl
      rw [List.getElem?_eq_getElem (show 0 < ys.length by rw [hyl]; decide)] at t0
      rw [List.getElem?_eq_getElem (show 1 < ys.length by rw [hyl]; decide)] at t1
      rw [List.getElem?_eq_getElem (show 2 < ys.length by rw [hyl]; decide)] at t2
      rw [List.getElem?_eq_getElem (show 3 < ys.length by rw [hyl]; decide)] at t3
      rw [List.getElem?_eq_getElem (show 4 < ys.length by rw [hyl]; decide)] at t4
      obtain ⟨x0, e0, _, _⟩ := DataW.trod_int Try.underlying3 t0
      obtain ⟨x1, e1, _, _⟩ := DataW.trod_int Try.underlying3 t1
      obtain ⟨x2, e2, _, _⟩ := DataW.trod_int Try.underlying3 t2
      obtain ⟨x3, e3, _⟩ := DataW.trod_bool Try.underlying4 t3
      obtain ⟨x4, e4, _, w4⟩ := DataW.trod_int Try.underlying48 t4
      simp at e0 e1 e2 e3 e4
      subst e0 e1 e2 e3 e4
      have r4 : IntKind.u64.min ≤ x4 ∧ x4 ≤ IntKind.u64.max := by simpa [Lit.wf] using w4
      simp [IntKind.min, IntKind.max, IntKind.signed, IntKind.bits] at r4
      exact ⟨⟨x0, x1, x2, x3, x4⟩, c0, c1, c2, c3, c4, r4.1, r4.2⟩
    have hspot : 0 < len → ∃ b o, a = ⟨b, o, none⟩ ∧ b < W.heap.size := by
      intro h0
      obtain ⟨r, c0, _⟩ := key 0 (by omega)
      obtain ⟨b, o, s⟩ := a
      have hs : s = none := by simpa [Addr.add] using World.cell?_spot c0
      subst hs
      exact ⟨b, o, rfl, block_lt_of_cell c0⟩
    classical
    refine ⟨some a, (List.range len).map (fun i => if hi : i < m then (key i hi).choose else default), m, by simp, by simpa using hl, hm, ?_, ?_⟩
    · intro j hj
      have hj' : j < len := by simpa using hj
      obtain ⟨b, o, rfl, hb⟩ := hspot (by omega)
      have hk := (key j (by omega)).choose_spec
      have e : ((List.range len).map (fun i => if hi : i < m then (key i hi).choose else default)).getD j default = (key j (by omega)).choose := by
        simp [List.getD_eq_getElem?_getD, hj', show j < m by omega]
      rw [e]
      generalize (key j (by omega)).choose = R at *
      clear e
      obtain ⟨q0, q1, q2, q3, q4, _⟩ := hk
      rw [WideShapes.add_plain] at q0 q1 q2 q3 q4
      exact ⟨b, o, rfl, hb, q0, q1, q2, q3, q4⟩
    · intro j
      rcases Nat.lt_or_ge j len with hj | hj
      · have e : ((List.range len).map (fun i => if hi : i < m then (key i hi).choose else default)).getD j default = (key j (by omega)).choose := by
          simp [List.getD_eq_getElem?_getD, hj, show j < m by omega]
        rw [e]
        exact (key j (by omega)).choose_spec.2.2.2.2.2
      · have e : ((List.range len).map (fun i => if hi : i < m then (key i hi).choose else default)).getD j default = default := by
          simp [List.getD_eq_getElem?_getD, hj]
        rw [e]
        simp [default]
/-- An argument that is an array of two whole numbers, by value. -/
theorem open_arr2 {H : Type} {enc : TypeId × Value → H} {P : Program} {W : World} {base : Nat} {t e : TypeId} {k : IntKind} {v : Value} {d : DataW H} {p : List MemPlace} (ht : P.underlying t = some (.array 2 e)) (he : P.underlying e = some (.int k)) (hc : P.cellsOf e = 1) (hct : P.cellsOf t = 2)
    (hval : Value.okWide P W .any base t v) (h : DataW.Trod enc P W 0 (fun _ => true) true t v d p) :
    ∃ x0 x1, v = .agg #[.int k x0, .int k x1] ∧ p = [] ∧ (Lit.int k x0).wf = true ∧ (Lit.int k x1).wf = true := by
  obtain ⟨cs, rfl, hsz, _⟩ : ∃ cs, v = .agg cs ∧ cs.size = P.cellsOf t ∧ Row.okWide P W .any base t cs := by
    simpa [Value.okWide, ht] using hval
  rw [hct] at hsz
  obtain ⟨c0, c1, rfl⟩ : ∃ c0 c1, cs = #[c0, c1] := by
    obtain ⟨l⟩ := cs
    match l, hsz with
    | [a, b], _ => exact ⟨a, b, rfl⟩
  obtain ⟨fuel, hf⟩ := h
  obtain ⟨xs, m, _, hx, _, hxl, hall⟩ := DataW.trod_array ht hf
  have g0 := hall 0 (by omega)
  have g1 := hall 1 (by omega)
  rw [hc] at g0 g1
  simp [Value.cells] at g0 g1
  match xs, hxl with
  | [y0, y1], _ =>
    simp at g0 g1
    obtain ⟨x0, e0, ey0, w0⟩ := DataW.trod_int he g0
    obtain ⟨x1, e1, ey1, w1⟩ := DataW.trod_int he g1
    simp at e0 e1
    subst e0 e1 ey0 ey1
    simp only [Prod.mk.injEq] at hx
    exact ⟨x0, x1, rfl, by simpa using hx.2, w0, w1⟩
end Go.Proofs.Ytopcokjfgldblaa
