/-
  ROWS OF BYTES WITHIN AN ARGUMENT, OPENED: a slice of whole numbers that stands in a cell; an array of two such slices. It speaks of no program.
-/
import Derived.Test.YtebfoigbiekeiaaLaw
import Derived.Deep.Slices
import Derived.Deep.Fields
import Derived.OpenShut
set_option linter.unusedVariables false
set_option linter.unusedSimpArgs false
namespace Go.Proofs.Ytebfoigbiekeiaa
open Go.ChangeShapes Go.WideShapes Go.Deep Go.RowKit

/-- A cell that is a slice of whole numbers, opened. -/
theorem open_rdC {H : Type} {enc : TypeId × Value → H} {P : Program} {W : World} {t e : TypeId} {k : IntKind} {fuel : Nat} {v : Value} {d : DataW H} {p : List MemPlace} (ht : P.underlying t = some (.slice e)) (he : P.underlying e = some (.int k)) (hc : P.cellsOf e = 1) (hbt : 0 < P.bytesOf e)
    (hf : DataW.trod enc P W 0 (fun _ => true) true fuel t [v] = some (d, p)) (hlt : ∀ x ∈ p, x.block < W.heap.size) (hsz : ∀ x ∈ d.weights P t, x ≤ reachBytes) :
    ∃ A xs c, v = .slice A xs.length c ∧ (A = none → c = 0) ∧ Rd W k A xs ∧ xs.length ≤ c ∧ c * P.bytesOf e ≤ 140737488351232 ∧ ∀ x ∈ xs, (Lit.int k x).wf = true := by
  rcases open_ints ht he hc hf with ⟨hcs, hx⟩ | ⟨a, len', cap', zs, hcs, _, hl, hm, hz, hx, hcell, hwz⟩
  · injection hcs with hcs
    subst hcs
    exact ⟨none, [], 0, rfl, fun _ => rfl, Rd.nil _ _ _, by simp, by simp, by simp⟩
  · injection hcs with hcs
    subst hcs
    simp only [Prod.mk.injEq] at hx
    obtain ⟨rfl, rfl⟩ := hx
    simp only [if_true] at hz
    have hreach := hsz (((lits (H := H) k (zs.take len')).length + (lits (H := H) k (zs.drop len')).length) * P.bytesOf e) (by simp [DataW.weights, ht])
    simp only [lits, List.length_map, List.length_take, List.length_drop, reachBytes] at hreach
    have hcz : min len' zs.length + (zs.length - len') = cap' := by omega
    rw [hcz] at hreach
    have hlb : cap' * 1 ≤ cap' * P.bytesOf e := Nat.mul_le_mul_left cap' hbt
    have htl : (zs.take len').length = len' := by simp; omega
    refine ⟨some a, zs.take len', cap', by rw [htl], fun e => by simp at e, ⟨by rw [htl]; omega, ?_⟩, by rw [htl]; omega, hreach, fun x hx => hwz x (List.mem_of_mem_take hx)⟩
    intro i hi
    rw [htl] at hi
    obtain ⟨b, off, spot⟩ := a
    have hspot : spot = none := by simpa [Addr.add] using World.cell?_spot (hcell 0 (by omega))
    subst hspot
    refine ⟨b, off, rfl, hlt (.cell b off) (MemPlace.mem_row.2 ⟨0, by omega, by simp⟩), ?_⟩
    have := hcell i (by omega)
    rw [WideShapes.add_plain] at this
    rw [this]
    simp [List.getD_eq_getElem?_getD, hi]
/-- An argument that is an array of two slices of whole numbers. -/
theorem open_rds2 {H : Type} {enc : TypeId × Value → H} {P : Program} {W : World} {base : Nat} {ts : List TypeId} {ds : List (DataW H)} {j : Nat} {t s e : TypeId} {k : IntKind} {v : Value} {d : DataW H} {p : List MemPlace} (ht : P.underlying t = some (.array 2 s)) (hs : P.underlying s = some (.slice e)) (he : P.underlying e = some (.int k)) (hc : P.cellsOf e = 1) (hcs : P.cellsOf s = 1) (hct : P.cellsOf t = 2) (hbt : 0 < P.bytesOf e)
    (hval : Value.okWide P W .any base t v) (h : DataW.Trod enc P W 0 (fun _ => true) true t v d p) (hlt : ∀ x ∈ p, x.block < W.heap.size)
    (hsz : (DataW.weightsEach P ts ds).all (· ≤ reachBytes) = true) (hj : ts[j]? = some t) (hd : ds[j]? = some d) :
    ∃ A xs c B ys c', v = .agg #[.slice A xs.length c, .slice B ys.length c'] ∧ (A = none → c = 0) ∧ (B = none → c' = 0) ∧ Rd W k A xs ∧ Rd W k B ys ∧ c * P.bytesOf e ≤ 140737488351232 ∧ c' * P.bytesOf e ≤ 140737488351232 ∧ xs.length ≤ c ∧ ys.length ≤ c' ∧ (∀ x ∈ xs, (Lit.int k x).wf = true) ∧ (∀ x ∈ ys, (Lit.int k x).wf = true) := by
  obtain ⟨cs, rfl, hsize, _⟩ : ∃ cs, v = .agg cs ∧ cs.size = P.cellsOf t ∧ Row.okWide P W .any base t cs := by
    simpa [Value.okWide, ht] using hval
  rw [hct] at hsize
  obtain ⟨c0, c1, rfl⟩ : ∃ c0 c1, cs = #[c0, c1] := by
    obtain ⟨l⟩ := cs
    match l, hsize with
    | [a, b], _ => exact ⟨a, b, rfl⟩
  obtain ⟨fuel, hf⟩ := h
  obtain ⟨xs, m, _, hx, _, hxl, hall⟩ := DataW.trod_array ht hf
  have g0 := hall 0 (by omega)
  have g1 := hall 1 (by omega)
  rw [hcs] at g0 g1
  simp [Value.cells] at g0 g1
  match xs, hxl with
  | [(y0, p0), (y1, p1)], _ =>
    simp at g0 g1
    simp only [Prod.mk.injEq] at hx
    obtain ⟨rfl, rfl⟩ := hx
    have hw : ∀ x ∈ (DataW.agg [y0, y1] : DataW H).weights P t, x ≤ reachBytes := fun x hx => by
      have := List.all_eq_true.1 hsz _ (DataW.weights_mem_each hj hd x hx)
      simpa using this
    obtain ⟨A, zs, c, rfl, hA, hR, hlc, hb, hwf⟩ := open_rdC hs he hc hbt g0 (fun x hx => hlt x (by simp [hx])) (fun x hx => hw x (by simp [DataW.weights, ht, DataW.weightsAll, hx]))
    obtain ⟨B, ws, c', rfl, hB, hS, hlc', hb', hwf'⟩ := open_rdC hs he hc hbt g1 (fun x hx => hlt x (by simp [hx])) (fun x hx => hw x (by simp [DataW.weights, ht, DataW.weightsAll, hx]))
    exact ⟨A, zs, c, B, ws, c', rfl, hA, hB, hR, hS, hb, hb', hlc, hlc', hwf, hwf'⟩
end Go.Proofs.Ytebfoigbiekeiaa
