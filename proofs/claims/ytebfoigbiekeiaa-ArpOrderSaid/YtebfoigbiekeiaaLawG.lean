/-
  AN ARGUMENT THAT IS A SLICE OF ROWS OF BYTES, OPENED.
-/
import Derived.Test.YtebfoigbiekeiaaLawR
import Derived.Test.YtebfoigbiekeiaaArpW
set_option linter.unusedVariables false
set_option linter.unusedSimpArgs false
namespace Go.Proofs.Ytebfoigbiekeiaa
open Go.ChangeShapes Go.WideShapes Go.Deep Go.RowKit

theorem weightsAll_memG {H : Type} {P : Program} {e : TypeId} : ∀ {l : List (DataW H)} {d : DataW H}, d ∈ l → ∀ n ∈ d.weights P e, n ∈ DataW.weightsAll P e l
  | [], d, h, n, hn => by simp at h
  | a :: l, d, h, n, hn => by
    rw [DataW.weightsAll]
    rcases List.mem_cons.1 h with rfl | h
    · exact List.mem_append_left _ hn
    · exact List.mem_append_right _ (weightsAll_memG h n hn)
set_option maxRecDepth 100000 in
theorem open_bb {H : Type} {enc : TypeId × Value → H} {W : World} {base : Nat} {v : Value} {d : DataW H} {p : List MemPlace}
    (hval : Value.okWide Try.prog W .any base 22 v) (h : DataW.Trod enc Try.prog W 0 (fun _ => true) true 22 v d p) (hlt : ∀ x ∈ p, x.block < W.heap.size) (hw : ∀ x ∈ d.weights Try.prog 22, x ≤ reachBytes) :
    ∃ A la c, v = .slice A la c ∧ la ≤ c ∧ c ≤ maxLen ∧ RdBB W A la := by
  obtain ⟨a0, len, cap, rfl⟩ := okWide_slice Try.underlying22 hval
  obtain ⟨fuel, hf⟩ := h
  rcases open_slice Try.underlying22 hf with ⟨hcs, hx⟩ | ⟨a, len', cap', m, n5, D, Pl, hcs, _, hl, hm, hmm, hx, hall⟩
  · simp [Value.cells] at hcs
    obtain ⟨rfl, rfl, rfl⟩ := hcs
    exact ⟨none, 0, 0, rfl, by simp, by simp, fun j hj => by simp at hj⟩
  · simp [Value.cells] at hcs
    obtain ⟨rfl, rfl, rfl⟩ := hcs
    simp only [Prod.mk.injEq] at hx
    obtain ⟨rfl, rfl⟩ := hx
    simp only [if_true] at hmm
    subst hmm
    refine ⟨some a, len, m, rfl, hl, hm, fun i hi => ?_⟩
    obtain ⟨cs', hc, hst⟩ := hall i (by omega)
    rw [show Try.prog.cellsOf 31 = 1 from by kernel_rfl] at hc
    obtain ⟨_, hlen, hat⟩ := World.cells?_some hc
    match cs', hlen with
    | [u], _ =>
    have hpl : ∀ x ∈ Pl i, x.block < W.heap.size := fun x hx => hlt x (List.mem_append_right _ (List.mem_flatMap.2 ⟨i, List.mem_range.2 (by omega), hx⟩))
    have hwt : ∀ x ∈ (D i).weights Try.prog 31, x ≤ reachBytes := fun x hx => hw x (by
      rw [DataW.weights, Try.underlying22]
      exact List.mem_cons_of_mem _ (List.mem_append_left _ (weightsAll_memG (d := D i) (List.mem_map.2 ⟨i, List.mem_range.2 hi, rfl⟩) _ hx)))
    obtain ⟨A1, xs, c1, rfl, hA1, hR1, hc1, hb1, hw1⟩ := open_rdC Try.underlying31 Try.underlying5 (by kernel_rfl) (of_decide_eq_true (by kernel_rfl)) hst hpl hwt
    have h1 := hat 0 (by decide)
    have hspot : ∃ b o, a = ⟨b, o, none⟩ := by
      obtain ⟨cs0, hc0, _⟩ := hall 0 (by omega)
      rw [show Try.prog.cellsOf 31 = 1 from by kernel_rfl] at hc0
      obtain ⟨_, hlen0, hat0⟩ := World.cells?_some hc0
      have c0 := hat0 0 (by decide)
      rw [Nat.zero_mul] at c0
      obtain ⟨v00, hv00⟩ : ∃ u, W.cell? a = some u := by
        match cs0, hlen0 with
        | u :: _, _ => exact ⟨u, by simpa [Addr.add] using c0⟩
      obtain ⟨b, o, s⟩ := a
      have hs : s = none := World.cell?_spot hv00
      subst hs
      exact ⟨b, o, rfl⟩
    obtain ⟨b, o, rfl⟩ := hspot
    rw [WideShapes.add_plain, WideShapes.add_plain, Nat.mul_one, Nat.add_zero] at h1
    have h2 : W.cell? ⟨b, o + i, none⟩ = some (.slice A1 xs.length c1) := h1
    exact ⟨b, o, xs, A1, c1, rfl, block_lt_of_cell h2, h2, hR1, hA1, bytes_wf hw1⟩
end Go.Proofs.Ytebfoigbiekeiaa
