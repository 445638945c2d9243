/-
  ROWS OF VALUES (one cell each): what can be read, and 'append' to a row that the call made itself. It speaks of no program.
-/
import Derived.Test.YtebfoigbiekeiaaApp2
set_option linter.unusedVariables false
set_option linter.unusedSimpArgs false
namespace Go.Proofs.Ytebfoigbiekeiaa
open Go.RowKit

/-- The values vs can be read at A. -/
structure RdV (w : World) (A : Option Addr) (vs : List Value) : Prop where
  at_ : ∀ j (hj : j < vs.length), ∃ b o, A = some ⟨b, o, none⟩ ∧ b < w.heap.size ∧ w.cell? ⟨b, o + j, none⟩ = some (vs[j]'hj)
theorem RdV.below {w w' : World} {A : Option Addr} {vs : List Value} (h : RdV w A vs) (hb : Below w.heap.size w w') : RdV w' A vs :=
  ⟨fun j hj => by
    obtain ⟨b, o, e, hl, hc⟩ := h.at_ j hj
    exact ⟨b, o, e, Nat.lt_of_lt_of_le hl hb.size, (hb.cell (p := ⟨b, o + j, none⟩) hl).trans hc⟩⟩
/-- A row of values that the call made itself. -/
def OwnV (w : World) (base : Nat) (e : TypeId) (v : Value) (vs : List Value) : Prop := w.ownsRow base e 1 v vs.length vs
def ElemV (P : Program) (t e : TypeId) (z : Value) (bytes : Nat) : Prop := P.underlying t = some (.slice e) ∧ ∃ i, P.info? e = some i ∧ i.zero = some z ∧ i.size = 1 ∧ i.bytes = bytes
theorem ElemV.mk' {P : Program} {t e : TypeId} {z : Value} {bytes : Nat} (h : P.underlying t = some (.slice e)) (hi : (P.info? e).map (fun i => (i.zero, i.size, i.bytes)) = some (some z, 1, bytes)) : ElemV P t e z bytes :=
  ⟨h, info_parts hi⟩
theorem OwnV.rd {w : World} {base : Nat} {e : TypeId} {v : Value} {vs : List Value} (h : OwnV w base e v vs) : ∃ A c, v = .slice A vs.length c ∧ (A = none → c = 0) ∧ RdV w A vs ∧ (∀ b o, A = some ⟨b, o, none⟩ → base ≤ b ∧ o = 0) := by
  have hc := h
  rcases h.2 with ⟨rfl, h0⟩ | ⟨g, cap, cur, rfl, hg, hh, h1, h2, h3, h4⟩
  · have : vs = [] := List.length_eq_zero_iff.1 h0
    subst this
    exact ⟨none, 0, rfl, fun _ => rfl, ⟨fun j hj => by simp at hj⟩, fun b o e => by cases e⟩
  · refine ⟨some ⟨g, 0, none⟩, cap, rfl, fun e => by simp at e, ⟨fun j hj => ⟨g, 0, rfl, lt_of_block hh, ?_⟩⟩, fun b o e => by injection e with e; injection e with e1 e2; exact ⟨by omega, e2.symm⟩⟩
    have := hc.cellAt (g := g) (cap := cap) j (by omega)
    rw [Nat.zero_add, this]
    simp [hj]
theorem OwnV.kept {w w' : World} {base : Nat} {e : TypeId} {v : Value} {vs : List Value} (h : OwnV w base e v vs) {row : Option Nat} (hg : w.grownBy w' row) (hne : v.ownBlock = none ∨ v.ownBlock ≠ row) : OwnV w' base e v vs := World.ownsRow.kept h hg hne
theorem OwnV.below {w w' : World} {base : Nat} {e : TypeId} {v : Value} {vs : List Value} (h : OwnV w base e v vs) (hb : Below w.heap.size w w') : OwnV w' base e v vs := h.kept (grown_below (row := none) hb) (by cases v.ownBlock <;> simp)
theorem OwnV.lt {w : World} {base : Nat} {e : TypeId} {v : Value} {vs : List Value} (h : OwnV w base e v vs) : ∀ g, v.ownBlock = some g → base ≤ g ∧ g < w.heap.size := World.ownsRow.lt h
/-- A literal that the call laid. -/
theorem OwnV.lit (w : World) (e : TypeId) (base : Nat) (hb : base ≤ w.heap.size) (vs : List Value) (cs : Array Value) (n : Nat) (hc : cs.toList = vs) (hn : vs.length = n) (hl : vs.length ≤ maxLen) : OwnV (w.alloc (.cells cs e)) base e (.slice (some ⟨w.heap.size, 0, none⟩) n n) vs := by
  subst hn
  have hs : cs.size = vs.length := by rw [← Array.length_toList, hc]
  refine ⟨by simp, .inr ⟨w.heap.size, vs.length, cs, rfl, hb, heap_alloc_new w _, Nat.le_refl _, hl, by simp [hs], ?_⟩⟩
  rw [hc, Nat.mul_one, List.take_of_length_le (Nat.le_refl _)]
theorem wp_appV {P : Program} {w : World} {o : Oper} {a : Act} {K : Act → World → Prop} {Q : Exit → Act → World → Prop} (s x : Operand) (t e : TypeId) (z : Value) (hz1 : z.cells.size = 1) (bytes : Nat)
    (ho : o.op = .call { callee := .builtin .append, args := #[s, x], argTypes := #[t, t] }) (hE : ElemV P t e z bytes) (base : Nat)
    (v : Value) (xs : List Value) (hs : a.eval s = v) (hown : OwnV w base e v xs) (A : Option Addr) (c m : Nat) (ys : List Value) (hx : a.eval x = .slice A m c) (hm : ys.length = m) (hA : A = none → c = 0) (hR : RdV w A ys) (h1 : ∀ u ∈ ys, u.oneCell' = true)
    (hbytes : (xs.length + m) * bytes ≤ 140737488355328) (h63 : xs.length + m ≤ maxLen) (hbase : base ≤ w.heap.size)
    (h : ∀ v' w', OwnV w' base e v' (xs ++ ys) → w.grownBy w' v.ownBlock → (∀ g, v'.ownBlock = some g → v.ownBlock = some g ∨ w.heap.size ≤ g) → K (a.put o.dst v') w') : o.wp P a w K Q := by
  obtain ⟨ht, i, hi, hz, hsize, hby⟩ := hE
  subst hm
  cases A with
  | none =>
    have hc := hA rfl
    subst hc
    have hy : ys = [] := by
      cases ys with
      | nil => rfl
      | cons y ys => obtain ⟨b, o, e, _⟩ := hR.at_ 0 (by simp); cases e
    subst hy
    have hrun := run_append_owned_none (P := P) (w := w) base t o.type e i 1 ht hi v xs.length xs hown
    unfold Oper.wp
    simp only [List.length_nil] at hx
    simp [execOp, ho, resolve, invoke, builtin, hs, hx, hrun, Result.andThen]
    exact (h v w (by rw [List.append_nil]; exact hown) (World.grownBy.refl _ _) (fun g hg => .inl hg))
  | some ad =>
    have hnews : ∀ j u, ys[j]? = some u → w.cell? (ad.add j) = some u := by
      intro j u hj
      rcases Nat.lt_or_ge j ys.length with hlt | hge
      · obtain ⟨b, o', e1, _, hcell⟩ := hR.at_ j hlt
        injection e1 with e1
        subst e1
        rw [WideShapes.add_plain, hcell]
        rw [List.getElem?_eq_getElem hlt] at hj
        exact hj
      · simp [List.getElem?_eq_none hge] at hj
    obtain ⟨v', w', hr, ho', hg', _, hat⟩ := run_append_own_at (P := P) w base t o.type e i z 1 bytes ht hi hz hsize hby hz1 (by decide) v xs.length xs hown ad ys.length c ys (by simp) hnews h1 h63 hbytes hbase
    unfold Oper.wp execOp
    simp only [ho, resolve, invoke, builtin, Sem.run_bind, Sem.run_pure, Result.andThen_ok, List.map_toArray, List.map_cons, List.map_nil, hs, hx, hr]
    refine h v' w' ?_ hg' ?_
    · unfold OwnV
      rw [List.length_append]
      exact ho'
    · intro g hg
      rcases hat with hat | hat
      · exact .inl (by rw [← hat]; exact hg)
      · exact .inr (by rw [hat] at hg; exact Nat.le_of_eq (Option.some.inj hg))
theorem wpList_appV {P : Program} {w : World} {ops : Array Oper} {rest : List Oper} {o : Oper} {a : Act} {Q : Exit → Act → World → Prop} (hw : Region.wanted o (yielded ops a.tmps) = true) (s x : Operand) (t e : TypeId) (z : Value) (hz1 : z.cells.size = 1) (bytes : Nat)
    (ho : o.op = .call { callee := .builtin .append, args := #[s, x], argTypes := #[t, t] }) (hE : ElemV P t e z bytes) (base : Nat)
    (v : Value) (xs : List Value) (hs : a.eval s = v) (hown : OwnV w base e v xs) (A : Option Addr) (c m : Nat) (ys : List Value) (hx : a.eval x = .slice A m c) (hm : ys.length = m) (hA : A = none → c = 0) (hR : RdV w A ys) (h1 : ∀ u ∈ ys, u.oneCell' = true)
    (hbytes : (xs.length + m) * bytes ≤ 140737488355328) (h63 : xs.length + m ≤ maxLen) (hbase : base ≤ w.heap.size)
    (h : ∀ v' w', OwnV w' base e v' (xs ++ ys) → w.grownBy w' v.ownBlock → (∀ g, v'.ownBlock = some g → v.ownBlock = some g ∨ w.heap.size ≤ g) → wpList P ops Q rest (a.put o.dst v') w') : wpList P ops Q (o :: rest) a w :=
  BigFrame.wpList_want hw fun _ hK => wp_appV s x t e z hz1 bytes ho hE base v xs hs hown A c m ys hx hm hA hR h1 hbytes h63 hbase fun v' w' h1 h2 h3 => hK _ _ (h v' w' h1 h2 h3)
end Go.Proofs.Ytebfoigbiekeiaa
