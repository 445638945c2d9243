/-
  ROWS OF RECORDS (k cells each): 'append' of one of them to a row that the call made itself. It speaks of no program.
-/
import Derived.Test.YtebfoigbiekeiaaAppV
set_option linter.unusedVariables false
set_option linter.unusedSimpArgs false
namespace Go.Proofs.Ytebfoigbiekeiaa
open Go.RowKit

/-- A row of n records of k cells that the call made itself. -/
def OwnR (w : World) (base : Nat) (e : TypeId) (k : Nat) (v : Value) (n : Nat) (cs : List Value) : Prop := w.ownsRow base e k v n cs
def ElemR (P : Program) (t e : TypeId) (z : Value) (k bytes : Nat) : Prop := P.underlying t = some (.slice e) ∧ ∃ i, P.info? e = some i ∧ i.zero = some z ∧ i.size = k ∧ i.bytes = bytes
theorem ElemR.mk' {P : Program} {t e : TypeId} {z : Value} {k bytes : Nat} (h : P.underlying t = some (.slice e)) (hi : (P.info? e).map (fun i => (i.zero, i.size, i.bytes)) = some (some z, k, bytes)) : ElemR P t e z k bytes :=
  ⟨h, info_parts hi⟩
theorem OwnR.nil (w : World) (base : Nat) (e : TypeId) (k : Nat) : OwnR w base e k (.slice none 0 0) 0 [] := World.ownsRow_nil _ _ _ _
theorem OwnR.kept {w w' : World} {base : Nat} {e : TypeId} {k n : Nat} {v : Value} {vs : List Value} (h : OwnR w base e k v n vs) {row : Option Nat} (hg : w.grownBy w' row) (hne : v.ownBlock = none ∨ v.ownBlock ≠ row) : OwnR w' base e k v n vs := World.ownsRow.kept h hg hne
theorem OwnR.below {w w' : World} {base : Nat} {e : TypeId} {k n : Nat} {v : Value} {vs : List Value} (h : OwnR w base e k v n vs) (hb : Below w.heap.size w w') : OwnR w' base e k v n vs := h.kept (grown_below (row := none) hb) (by cases v.ownBlock <;> simp)
theorem OwnR.lt {w : World} {base : Nat} {e : TypeId} {k n : Nat} {v : Value} {vs : List Value} (h : OwnR w base e k v n vs) : ∀ g, v.ownBlock = some g → base ≤ g ∧ g < w.heap.size := World.ownsRow.lt h
theorem OwnR.base {w : World} {base : Nat} {e : TypeId} {k n : Nat} {v : Value} {vs : List Value} (h : OwnR w base e k v n vs) (b2 : Nat) (hb : b2 ≤ base) : OwnR w b2 e k v n vs := by
  refine ⟨h.1, ?_⟩
  rcases h.2 with h2 | ⟨g, cap, cur, h2, h3, h4⟩
  · exact .inl h2
  · exact .inr ⟨g, cap, cur, h2, Nat.le_trans hb h3, h4⟩
/-- Its form; its cells. -/
theorem OwnR.form {w : World} {base : Nat} {e : TypeId} {k n : Nat} {v : Value} {vs : List Value} (h : OwnR w base e k v n vs) : ∃ A c, v = .slice A n c ∧ (n ≠ 0 → ∃ g, A = some ⟨g, 0, none⟩ ∧ base ≤ g ∧ g < w.heap.size ∧ ∀ j, j < n * k → w.cell? ⟨g, j, none⟩ = vs[j]?) := by
  have hc := h
  rcases h.2 with ⟨rfl, h0⟩ | ⟨g, cap, cur, rfl, hg, hh, h1, h2, h3, h4⟩
  · exact ⟨none, 0, by rw [h0], fun h => absurd h0 h⟩
  · refine ⟨some ⟨g, 0, none⟩, cap, rfl, fun _ => ⟨g, rfl, hg, lt_of_block hh, fun j hj => ?_⟩⟩
    have := hc.cellAt (g := g) (cap := cap) j hj
    rw [this]
theorem wp_appR {P : Program} {w : World} {o : Oper} {a : Act} {K : Act → World → Prop} {Q : Exit → Act → World → Prop} (s x : Operand) (t e : TypeId) (z : Value) (k : Nat) (hz1 : z.cells.size = k) (hk : 0 < k) (bytes : Nat)
    (ho : o.op = .call { callee := .builtin .append, args := #[s, x], argTypes := #[t, t] }) (hE : ElemR P t e z k bytes) (base : Nat)
    (v : Value) (n : Nat) (xs : List Value) (hs : a.eval s = v) (hown : OwnR w base e k v n xs) (q c m : Nat) (cs : Array Value) (tq : TypeId) (fr : Nat × Nat) (hx : a.eval x = .slice (some ⟨q, 0, none⟩) m c) (hq : w.heap[q]? = some (.cells cs tq fr)) (hm : cs.size = m * k) (h1 : cs.all (·.oneCell') = true)
    (hbytes : (n + m) * bytes ≤ 140737488355328) (h63 : n + m ≤ maxLen) (hbase : base ≤ w.heap.size)
    (h : ∀ v' w', OwnR w' base e k v' (n + m) (xs ++ cs.toList) → w.grownBy w' v.ownBlock → (∀ g, v'.ownBlock = some g → v.ownBlock = some g ∨ w.heap.size ≤ g) → K (a.put o.dst v') w') : o.wp P a w K Q := by
  obtain ⟨ht, i, hi, hz, hsize, hby⟩ := hE
  have hnews : ∀ j u, cs.toList[j]? = some u → w.cell? ((⟨q, 0, none⟩ : Addr).add j) = some u := by
    intro j u hj
    rw [WideShapes.add_plain, Nat.zero_add]
    simp only [World.cell?, hq]
    simpa using hj
  obtain ⟨v', w', hr, ho', hg', _, hat⟩ := run_append_own_at (P := P) w base t o.type e i z k bytes ht hi hz hsize hby hz1 hk v n xs hown ⟨q, 0, none⟩ m c cs.toList (by simpa using hm) hnews (by
    intro u hu
    have := Array.all_eq_true_iff_forall_mem.1 h1 u (by simpa using hu)
    exact this) h63 hbytes hbase
  unfold Oper.wp execOp
  simp only [ho, resolve, invoke, builtin, Sem.run_bind, Sem.run_pure, Result.andThen_ok, List.map_toArray, List.map_cons, List.map_nil, hs, hx, hr]
  refine h v' w' ho' hg' ?_
  intro g hg
  rcases hat with hat | hat
  · exact .inl (by rw [← hat]; exact hg)
  · exact .inr (by rw [hat] at hg; exact Nat.le_of_eq (Option.some.inj hg))
theorem wpList_appR {P : Program} {w : World} {ops : Array Oper} {rest : List Oper} {o : Oper} {a : Act} {Q : Exit → Act → World → Prop} (hw : Region.wanted o (yielded ops a.tmps) = true) (s x : Operand) (t e : TypeId) (z : Value) (k : Nat) (hz1 : z.cells.size = k) (hk : 0 < k) (bytes : Nat)
    (ho : o.op = .call { callee := .builtin .append, args := #[s, x], argTypes := #[t, t] }) (hE : ElemR P t e z k bytes) (base : Nat)
    (v : Value) (n : Nat) (xs : List Value) (hs : a.eval s = v) (hown : OwnR w base e k v n xs) (q c m : Nat) (cs : Array Value) (tq : TypeId) (fr : Nat × Nat) (hx : a.eval x = .slice (some ⟨q, 0, none⟩) m c) (hq : w.heap[q]? = some (.cells cs tq fr)) (hm : cs.size = m * k) (h1 : cs.all (·.oneCell') = true)
    (hbytes : (n + m) * bytes ≤ 140737488355328) (h63 : n + m ≤ maxLen) (hbase : base ≤ w.heap.size)
    (h : ∀ v' w', OwnR w' base e k v' (n + m) (xs ++ cs.toList) → w.grownBy w' v.ownBlock → (∀ g, v'.ownBlock = some g → v.ownBlock = some g ∨ w.heap.size ≤ g) → wpList P ops Q rest (a.put o.dst v') w') : wpList P ops Q (o :: rest) a w :=
  BigFrame.wpList_want hw fun _ hK => wp_appR s x t e z k hz1 hk bytes ho hE base v n xs hs hown q c m cs tq fr hx hq hm h1 hbytes h63 hbase fun v' w' h1 h2 h3 => hK _ _ (h v' w' h1 h2 h3)
end Go.Proofs.Ytebfoigbiekeiaa
