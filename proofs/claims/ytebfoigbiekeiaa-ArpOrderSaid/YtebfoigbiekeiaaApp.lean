/-
  A ROW OF WHOLE NUMBERS THAT THE CALL MADE ITSELF: what it is, and 'append' to it from whatever can be read. It speaks of no program.
-/
import Derived.Test.YtebfoigbiekeiaaU
import Derived.Laws.AppendOwnNone
set_option linter.unusedVariables false
set_option linter.unusedSimpArgs false
namespace Go.Proofs.Ytebfoigbiekeiaa
open Go.RowKit

/-- The slice value v is the call's own row (in a block from 'base' on) of the numbers xs. -/
def Own (w : World) (base : Nat) (e : TypeId) (k : IntKind) (v : Value) (xs : List Int) : Prop := w.ownsRow base e 1 v xs.length (xs.map (Value.int k))
/-- An element type's row of the table. -/
def Elem (P : Program) (t e : TypeId) (k : IntKind) (bytes : Nat) : Prop := P.underlying t = some (.slice e) ∧ ∃ i, P.info? e = some i ∧ i.zero = some (.int k 0) ∧ i.size = 1 ∧ i.bytes = bytes
theorem Elem.mk' {P : Program} {t e : TypeId} {k : IntKind} {bytes : Nat} (h : P.underlying t = some (.slice e)) (hi : (P.info? e).map (fun i => (i.zero, i.size, i.bytes)) = some (some (.int k 0), 1, bytes)) : Elem P t e k bytes :=
  ⟨h, info_parts hi⟩

theorem Own.rd {w : World} {base : Nat} {e : TypeId} {k : IntKind} {v : Value} {xs : List Int} (h : Own w base e k v xs) (hl : xs.length ≤ 140737488355328) : ∃ A c, v = .slice A xs.length c ∧ (A = none → c = 0) ∧ Rd w k A xs ∧ (∀ b o, A = some ⟨b, o, none⟩ → base ≤ b ∧ o = 0) := by
  have hc := h
  rcases h.2 with ⟨rfl, h0⟩ | ⟨g, cap, cur, rfl, hg, hh, h1, h2, h3, h4⟩
  · have : xs = [] := List.length_eq_zero_iff.1 h0
    subst this
    exact ⟨none, 0, rfl, fun _ => rfl, Rd.nil _ _ _, fun b o e => by cases e⟩
  · refine ⟨some ⟨g, 0, none⟩, cap, rfl, fun e => by simp at e, ⟨hl, fun j hj => ⟨g, 0, rfl, lt_of_block hh, ?_⟩⟩, fun b o e => by injection e with e; injection e with e1 e2; exact ⟨by omega, e2.symm⟩⟩
    have := hc.cellAt (g := g) (cap := cap) j (by omega)
    rw [Nat.zero_add, this]
    simp [List.getD_eq_getElem?_getD, hj]
theorem Own.kept {w w' : World} {base : Nat} {e : TypeId} {k : IntKind} {v : Value} {xs : List Int} (h : Own w base e k v xs) {row : Option Nat} (hg : w.grownBy w' row) (hne : v.ownBlock = none ∨ v.ownBlock ≠ row) : Own w' base e k v xs := World.ownsRow.kept h hg hne
theorem Own.below {w w' : World} {base : Nat} {e : TypeId} {k : IntKind} {v : Value} {xs : List Int} (h : Own w base e k v xs) (hb : Below w.heap.size w w') : Own w' base e k v xs := h.kept (grown_below (row := none) hb) (by cases v.ownBlock <;> simp)
theorem Own.nil (w : World) (base : Nat) (e : TypeId) (k : IntKind) : Own w base e k (.slice none 0 0) [] := World.ownsRow_nil _ _ _ _
theorem Own.lt {w : World} {base : Nat} {e : TypeId} {k : IntKind} {v : Value} {xs : List Int} (h : Own w base e k v xs) : ∀ g, v.ownBlock = some g → base ≤ g ∧ g < w.heap.size := World.ownsRow.lt h
/-- A literal that the call laid. -/
theorem Own.lit (w : World) (e : TypeId) (k : IntKind) (base : Nat) (hb : base ≤ w.heap.size) (xs : List Int) (cs : Array Value) (n : Nat) (hc : cs.toList = xs.map (Value.int k)) (hn : xs.length = n) (hl : xs.length ≤ maxLen) : Own (w.alloc (.cells cs e)) base e k (.slice (some ⟨w.heap.size, 0, none⟩) n n) xs := by
  subst hn
  have hs : cs.size = xs.length := by rw [← Array.length_toList, hc, List.length_map]
  refine ⟨by simp, .inr ⟨w.heap.size, xs.length, cs, rfl, hb, heap_alloc_new w _, Nat.le_refl _, hl, by simp [hs], ?_⟩⟩
  rw [hc, Nat.mul_one, List.take_of_length_le (by simp)]

theorem wp_app {P : Program} {w : World} {o : Oper} {a : Act} {K : Act → World → Prop} {Q : Exit → Act → World → Prop} (s x : Operand) (t e : TypeId) (k : IntKind) (bytes : Nat)
    (ho : o.op = .call { callee := .builtin .append, args := #[s, x], argTypes := #[t, t] }) (hE : Elem P t e k bytes) (base : Nat)
    (v : Value) (xs : List Int) (hs : a.eval s = v) (hown : Own w base e k v xs) (A : Option Addr) (c m : Nat) (ys : List Int) (hx : a.eval x = .slice A m c) (hm : ys.length = m) (hA : A = none → c = 0) (hR : Rd w k A ys)
    (hbytes : (xs.length + m) * bytes ≤ 140737488355328) (h63 : xs.length + m ≤ maxLen) (hbase : base ≤ w.heap.size)
    (h : ∀ v' w', Own w' base e k v' (xs ++ ys) → w.grownBy w' v.ownBlock → K (a.put o.dst v') w') : o.wp P a w K Q := by
  obtain ⟨ht, i, hi, hz, hsize, hby⟩ := hE
  subst hm
  cases A with
  | none =>
    have hc := hA rfl
    subst hc
    have hy : ys = [] := by
      cases ys with
      | nil => rfl
      | cons y ys => obtain ⟨b, o, e, _⟩ := hR.at_ 0 (by simp); cases e
    subst hy
    have hrun := run_append_owned_none (P := P) (w := w) base t o.type e i 1 ht hi v xs.length (xs.map (Value.int k)) hown
    unfold Oper.wp
    simp only [List.length_nil] at hx
    simp [execOp, ho, resolve, invoke, builtin, hs, hx, hrun, Result.andThen]
    exact (h v w (by rw [List.append_nil]; exact hown) (World.grownBy.refl _ _))
  | some ad =>
    refine wp_append_own w s x t ho base e i (.int k 0) 1 bytes ht hi hz hsize hby rfl (by decide) v xs.length (xs.map (Value.int k)) hs hown ad ys.length c (ys.map (Value.int k)) hx (by simp) ?_ ?_ h63 hbytes hbase ?_
    · intro j u hj
      rcases Nat.lt_or_ge j ys.length with hlt | hge
      · obtain ⟨b, o', e1, _, hcell⟩ := hR.at_ j hlt
        injection e1 with e1
        subst e1
        rw [WideShapes.add_plain, hcell]
        simp [List.getElem?_map, List.getElem?_eq_getElem hlt] at hj
        rw [← hj]; simp [List.getD_eq_getElem?_getD, hlt]
      · simp [List.getElem?_eq_none hge] at hj
    · intro u hu
      obtain ⟨y, _, rfl⟩ := List.mem_map.1 hu
      rfl
    · intro v' w' ho' hg' _
      refine h v' w' ?_ hg'
      unfold Own
      rw [List.length_append, List.map_append]
      exact ho'

theorem wpList_app {P : Program} {w : World} {ops : Array Oper} {rest : List Oper} {o : Oper} {a : Act} {Q : Exit → Act → World → Prop} (hw : Region.wanted o (yielded ops a.tmps) = true) (s x : Operand) (t e : TypeId) (k : IntKind) (bytes : Nat)
    (ho : o.op = .call { callee := .builtin .append, args := #[s, x], argTypes := #[t, t] }) (hE : Elem P t e k bytes) (base : Nat)
    (v : Value) (xs : List Int) (hs : a.eval s = v) (hown : Own w base e k v xs) (A : Option Addr) (c m : Nat) (ys : List Int) (hx : a.eval x = .slice A m c) (hm : ys.length = m) (hA : A = none → c = 0) (hR : Rd w k A ys)
    (hbytes : (xs.length + m) * bytes ≤ 140737488355328) (h63 : xs.length + m ≤ maxLen) (hbase : base ≤ w.heap.size)
    (h : ∀ v' w', Own w' base e k v' (xs ++ ys) → w.grownBy w' v.ownBlock → wpList P ops Q rest (a.put o.dst v') w') : wpList P ops Q (o :: rest) a w :=
  BigFrame.wpList_want hw fun _ hK => wp_app s x t e k bytes ho hE base v xs hs hown A c m ys hx hm hA hR hbytes h63 hbase fun v' w' h1 h2 => hK _ _ (h v' w' h1 h2)
theorem step_app {P : Program} {w : World} {ops : Array Oper} {o : Oper} {a : Act} {K : Act → World → Prop} {Q : Exit → Act → World → Prop} {E : Prop} (hw : Region.wanted o (yielded ops a.tmps) = true) (s x : Operand) (t e : TypeId) (k : IntKind) (bytes : Nat)
    (ho : o.op = .call { callee := .builtin .append, args := #[s, x], argTypes := #[t, t] }) (hE : Elem P t e k bytes) (base : Nat)
    (v : Value) (xs : List Int) (hs : a.eval s = v) (hown : Own w base e k v xs) (A : Option Addr) (c m : Nat) (ys : List Int) (hx : a.eval x = .slice A m c) (hm : ys.length = m) (hA : A = none → c = 0) (hR : Rd w k A ys)
    (hbytes : (xs.length + m) * bytes ≤ 140737488355328) (h63 : xs.length + m ≤ maxLen) (hbase : base ≤ w.heap.size)
    (h : ∀ v' w', Own w' base e k v' (xs ++ ys) → w.grownBy w' v.ownBlock → K (a.put o.dst v') w') :
    if Region.wanted o (yielded ops a.tmps) = true then Oper.wp P o a w K Q else E := by
  rw [if_pos hw]
  exact wp_app s x t e k bytes ho hE base v xs hs hown A c m ys hx hm hA hR hbytes h63 hbase h
theorem Own.drewN {w : World} {base : Nat} {e : TypeId} {k : IntKind} {v : Value} {xs : List Int} (h : Own w base e k v xs) (n : Nat) : Own (w.drewN n) base e k v xs := h
/-- An element of the call's own row is stored. -/
theorem Own.set {w : World} {base : Nat} {e : TypeId} {k : IntKind} {g n c : Nat} {xs : List Int} (h : Own w base e k (.slice (some ⟨g, 0, none⟩) n c) xs) (j : Nat) (hj : j < xs.length) (u : Int) : Own (w.setCell ⟨g, j, none⟩ (.int k u)) base e k (.slice (some ⟨g, 0, none⟩) n c) (xs.set j u) := by
  have hn : n = xs.length := by
    rcases h.2 with ⟨h', _⟩ | ⟨g', cap', cur, h', _⟩
    · simp at h'
    · simp only [Value.slice.injEq] at h'
      exact h'.2.1
  subst hn
  have := World.ownsRow.stored h j (.int k u)
  unfold Own
  rw [List.length_set, List.map_set]
  exact this.1
theorem below_own {w w1 w2 : World} {v : Value} (h : Below w.heap.size w w1) (hg : w1.grownBy w2 v.ownBlock) (hb : ∀ g, v.ownBlock = some g → w.heap.size ≤ g) : Below w.heap.size w w2 := h.grown hg h.size hb
end Go.Proofs.Ytebfoigbiekeiaa
