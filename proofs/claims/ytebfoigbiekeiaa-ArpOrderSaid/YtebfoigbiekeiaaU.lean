/-
  SMALL WORDS OF THIS SEAT's PROOFS: a block of one cell; a row of whole numbers that is read; what grows. They speak of no program.
-/
import Derived.WalkKit
import Derived.WalkSpells
import Derived.WalkLawsBesides
import Derived.KernelRfl
set_option linter.unusedVariables false
set_option linter.unusedSimpArgs false
namespace Go.Proofs.Ytebfoigbiekeiaa
open Go.RowKit

theorem hid {p : Prop} (h : p) : Hid p := h
/-- The walk stands still here. -/
theorem hold {p : Prop} (h : Hid p) : p := h
theorem hold_op {P : Program} {ops : Array Oper} {Q : Exit → Act → World → Prop} {o : Oper} {rest : List Oper} {a : Act} {w : World} (h : Hid (wpList P ops Q (o :: rest) a w)) : wpList P ops Q (o :: rest) a w := h

/-- Block g is one cell, that may be written. -/
def Cell (w : World) (g : Nat) (t : TypeId) (v : Value) : Prop := w.heap[g]? = some (.cells #[v] t (0, 0))
theorem Cell.cell {w : World} {g : Nat} {t : TypeId} {v : Value} (h : Cell w g t v) : w.cell? ⟨g, 0, none⟩ = some v := cell_of_one h
theorem Cell.free {w : World} {g : Nat} {t : TypeId} {v : Value} (h : Cell w g t v) : w.frozen? ⟨g, 0, none⟩ = false := free_of_one h
theorem Cell.set {w : World} {g : Nat} {t : TypeId} {v : Value} (h : Cell w g t v) (u : Value) : Cell (w.setCell ⟨g, 0, none⟩ u) g t u := one_setCell h
theorem Cell.lt {w : World} {g : Nat} {t : TypeId} {v : Value} (h : Cell w g t v) : g < w.heap.size := lt_of_block h
theorem Cell.kept {w w' : World} {g : Nat} {t : TypeId} {v : Value} (h : Cell w g t v) {row : Option Nat} (hg : w.grownBy w' row) (hne : some g ≠ row) : Cell w' g t v := by
  have := hg.block g h.lt hne
  unfold Cell; rw [this]; exact h
theorem Cell.new (w : World) (t : TypeId) (v : Value) : Cell (w.alloc (.cells #[v] t)) w.heap.size t v := heap_alloc_new w _

theorem grown_set (w : World) (g o : Nat) (u : Value) : w.grownBy (w.setCell ⟨g, o, none⟩ u) (some g) :=
  ⟨rfl, rfl, rfl, by simp [World.setCell], fun k hk hne => Below.heap_setCell _ _ _ _ (fun e => hne (by rw [e]))⟩
theorem grown_trans {a b c : World} {row : Option Nat} (h : a.grownBy b row) (k : b.grownBy c row) : a.grownBy c row :=
  ⟨k.os.trans h.os, k.tape.trans h.tape, k.output.trans h.output, Nat.le_trans h.size k.size, fun i hi hne => (k.block i (Nat.lt_of_lt_of_le hi h.size) hne).trans (h.block i hi hne)⟩
theorem grown_drew {a b : World} {row : Option Nat} (h : a.grownBy b row) : a.grownBy b.drew row := ⟨h.os, h.tape, h.output, h.size, h.block⟩
theorem grown_drewN {a b : World} {row : Option Nat} (h : a.grownBy b row) (n : Nat) : a.grownBy (b.drewN n) row := ⟨h.os, h.tape, h.output, h.size, h.block⟩
theorem grown_below {a b : World} {row : Option Nat} (h : Below a.heap.size a b) : a.grownBy b row := ⟨h.os, h.tape, h.output, h.size, fun i hi _ => h.block i hi⟩
theorem below_drewN {B : Nat} {a b : World} (h : Below B a b) (n : Nat) : Below B a (b.drewN n) := ⟨h.os, h.tape, h.output, h.size, h.block⟩
theorem below_then {w w1 w2 : World} (h : Below w.heap.size w w1) (k : Below w1.heap.size w1 w2) : Below w.heap.size w w2 := h.trans (k.mono h.size)

/-- A row of whole numbers that can be read: nil, empty, or cells one behind the other. -/
structure Rd (w : World) (k : IntKind) (A : Option Addr) (xs : List Int) : Prop where
  len : xs.length ≤ 140737488355328
  at_ : ∀ j, j < xs.length → ∃ b o, A = some ⟨b, o, none⟩ ∧ b < w.heap.size ∧ w.cell? ⟨b, o + j, none⟩ = some (.int k (xs.getD j 0))
theorem Rd.below {w w' : World} {k : IntKind} {A : Option Addr} {xs : List Int} (h : Rd w k A xs) (hb : Below w.heap.size w w') : Rd w' k A xs :=
  ⟨h.len, fun j hj => by
    obtain ⟨b, o, rfl, hlt, hc⟩ := h.at_ j hj
    exact ⟨b, o, rfl, Nat.lt_of_lt_of_le hlt hb.size, (hb.cell (by exact hlt)).trans hc⟩⟩
theorem Rd.kept {w w' : World} {k : IntKind} {A : Option Addr} {xs : List Int} {row : Option Nat} (h : Rd w k A xs) (hg : w.grownBy w' row) (hne : ∀ b o, A = some ⟨b, o, none⟩ → some b ≠ row) : Rd w' k A xs :=
  ⟨h.len, fun j hj => by
    obtain ⟨b, o, rfl, hlt, hc⟩ := h.at_ j hj
    exact ⟨b, o, rfl, Nat.lt_of_lt_of_le hlt hg.size, hg.cell hc (hne b o rfl)⟩⟩
theorem Rd.cell {w : World} {k : IntKind} {b o : Nat} {xs : List Int} (h : Rd w k (some ⟨b, o, none⟩) xs) (j : Nat) (hj : j < xs.length) : w.cell? ⟨b, o + j, none⟩ = some (.int k (xs.getD j 0)) := by
  obtain ⟨b', o', e, _, hc⟩ := h.at_ j hj
  injection e with e; injection e with e1 e2 e3; subst e1 e2
  exact hc
theorem Rd.form {w : World} {k : IntKind} {A : Option Addr} {xs : List Int} (h : Rd w k A xs) (j : Nat) (hj : j < xs.length) : ∃ b o, A = some ⟨b, o, none⟩ ∧ b < w.heap.size :=
  let ⟨b, o, e, hl, _⟩ := h.at_ j hj; ⟨b, o, e, hl⟩
theorem Rd.nil (w : World) (k : IntKind) (A : Option Addr) : Rd w k A [] := ⟨by simp, fun j hj => by simp at hj⟩
/-- Bytes. -/
def Bytes (xs : List Int) : Prop := ∀ x ∈ xs, 0 ≤ x ∧ x < 256
theorem Bytes.at_ {xs : List Int} (h : Bytes xs) (j : Nat) : 0 ≤ xs.getD j 0 ∧ xs.getD j 0 < 256 := by
  rw [List.getD_eq_getElem?_getD]
  rcases Nat.lt_or_ge j xs.length with hj | hj
  · rw [List.getElem?_eq_getElem hj]; exact h _ (List.getElem_mem hj)
  · rw [List.getElem?_eq_none hj]; simp
theorem Bytes.nil : Bytes [] := fun x h => by simp at h
theorem Bytes.append {xs ys : List Int} (h : Bytes xs) (k : Bytes ys) : Bytes (xs ++ ys) := fun x hx => (List.mem_append.1 hx).elim (h x) (k x)
theorem Bytes.cons {x : Int} {ys : List Int} (h0 : 0 ≤ x) (h1 : x < 256) (k : Bytes ys) : Bytes (x :: ys) := fun y hy => by
  rcases List.mem_cons.1 hy with rfl | hy
  · exact ⟨h0, h1⟩
  · exact k y hy
theorem Bytes.sub {xs ys : List Int} (h : Bytes xs) (hs : ∀ y ∈ ys, y ∈ xs) : Bytes ys := fun y hy => h y (hs y hy)

theorem ret_int {k : IntKind} {a b : Int} (h : a = b) : Ending.returned (.int k a) = .returned (.int k b) := by rw [h]
theorem ret_bool {a b : Bool} (h : a = b) : Ending.returned (.bool a) = .returned (.bool b) := by rw [h]
end Go.Proofs.Ytebfoigbiekeiaa
