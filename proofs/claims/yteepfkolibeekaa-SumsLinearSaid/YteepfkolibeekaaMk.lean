/-
  'make([]T, n)' in a region whose operations the machine takes in any order. It speaks of no program.
-/
import Derived.Test.YteepfkolibeekaaApp2
set_option linter.unusedVariables false
set_option linter.unusedSimpArgs false
namespace Go.Proofs.Yteepfkolibeekaa
open Go.RowKit

theorem wp_mk {P : Program} {w : World} {o : Oper} {a : Act} {K : Act → World → Prop} {Q : Exit → Act → World → Prop}
    (l c : Operand) (t e : TypeId) (k : IntKind) (bytes : Nat) (hop : o.op = Op.makeSlice t l c) (hE : Elem P t e k bytes)
    (base : Nat) (kl kc : IntKind) (L C : Int) (n : Nat) (hl : a.eval l = .int kl L) (hc : a.eval c = .int kc C) (hL : L = (n : Int)) (hC : C = (n : Int)) (b2 : bytes * n ≤ 281474976710656) (b3 : n ≤ maxLen) (b4 : base ≤ w.heap.size)
    (hK : ∀ w', Own w' base e k (.slice (some ⟨w.heap.size, 0, none⟩) n n) (List.replicate n 0) → Below w.heap.size w w' → K (a.put o.dst (.slice (some ⟨w.heap.size, 0, none⟩) n n)) w') : o.wp P a w K Q := by
  obtain ⟨ht, i, hi, hz, hsize, hby⟩ := hE
  obtain ⟨w', hrun, r1, r2⟩ := run_make_full (P := P) w base t e i (.int k 0) 1 ht hi hz hsize kl kc n (by rw [hby]; exact b2) b3 b4
  subst hL
  subst hC
  unfold Oper.wp
  simp [execOp, hop, hl, hc, hrun, Result.andThen]
  refine hK w' ?_ ((Below.refl _ _).grown (row := none) r2 (Nat.le_refl _) (fun k hk => by cases hk))
  unfold Own
  rw [List.length_replicate, List.map_replicate]
  have e1 : (madeCells (Value.int k 0).cells (n * 1)).toList = List.replicate n (Value.int k 0) := by
    rw [Nat.mul_one]; exact toList_madeCells_one _ _
  rw [e1] at r1
  exact r1
theorem step_mk {P : Program} {w : World} {ops : Array Oper} {o : Oper} {a : Act} {K : Act → World → Prop} {Q : Exit → Act → World → Prop} {E : Prop} (hw : Region.wanted o (yielded ops a.tmps) = true)
    (l c : Operand) (t e : TypeId) (k : IntKind) (bytes : Nat) (hop : o.op = Op.makeSlice t l c) (hE : Elem P t e k bytes)
    (base : Nat) (kl kc : IntKind) (L C : Int) (n : Nat) (hl : a.eval l = .int kl L) (hc : a.eval c = .int kc C) (hL : L = (n : Int)) (hC : C = (n : Int)) (b2 : bytes * n ≤ 281474976710656) (b3 : n ≤ maxLen) (b4 : base ≤ w.heap.size)
    (hK : ∀ w', Own w' base e k (.slice (some ⟨w.heap.size, 0, none⟩) n n) (List.replicate n 0) → Below w.heap.size w w' → K (a.put o.dst (.slice (some ⟨w.heap.size, 0, none⟩) n n)) w') :
    if Region.wanted o (yielded ops a.tmps) = true then Oper.wp P o a w K Q else E := by
  rw [if_pos hw]
  exact wp_mk l c t e k bytes hop hE base kl kc L C n hl hc hL hC b2 b3 b4 hK
/-- As 'go_region_held3' hands it over behind 'go_simp'. -/
theorem upon_mk {P : Program} {w : World} {o : Oper} {a : Act} {K : Act → World → Prop} {Q : Exit → Act → World → Prop}
    (t e : TypeId) (k : IntKind) (bytes : Nat) (hE : Elem P t e k bytes)
    (base : Nat) (kl kc : IntKind) (n : Nat) (b2 : bytes * n ≤ 281474976710656) (b3 : n ≤ maxLen) (b4 : base ≤ w.heap.size)
    (hK : ∀ w', Own w' base e k (.slice (some ⟨w.heap.size, 0, none⟩) n n) (List.replicate n 0) → Below w.heap.size w w' → K (a.put o.dst (.slice (some ⟨w.heap.size, 0, none⟩) n n)) w') :
    Oper.upon P o a K Q ((Sem.run P (Instr.makeSlice t (.int kl n) (.int kc n)) w).andThen fun a w' => Result.ok (Next.value a) w') := by
  obtain ⟨ht, i, hi, hz, hsize, hby⟩ := hE
  obtain ⟨w', hrun, r1, r2⟩ := run_make_full (P := P) w base t e i (.int k 0) 1 ht hi hz hsize kl kc n (by rw [hby]; exact b2) b3 b4
  rw [hrun]
  refine hK w' ?_ ((Below.refl _ _).grown (row := none) r2 (Nat.le_refl _) (fun k hk => by cases hk))
  unfold Own
  rw [List.length_replicate, List.map_replicate]
  have e1 : (madeCells (Value.int k 0).cells (n * 1)).toList = List.replicate n (Value.int k 0) := by
    rw [Nat.mul_one]; exact toList_madeCells_one _ _
  rw [e1] at r1
  exact r1
end Go.Proofs.Yteepfkolibeekaa
