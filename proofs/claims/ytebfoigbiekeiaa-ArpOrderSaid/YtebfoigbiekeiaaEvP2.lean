/-
  Heaps, blocks, values: what stands for what.
-/
import Derived.Test.YtebfoigbiekeiaaEvP1
import Derived.Below
import Derived.Laws.Cells
import Derived.Laws.IdiomCopy
import Derived.Laws.Sem
import Derived.Laws.NewFold
import Derived.Laws.Strings
set_option linter.unusedVariables false
set_option linter.unusedSimpArgs false
namespace Go.Ev
open Go Go.RowKit
/-! ### keys -/
theorem Pos.toNat_pos : ∀ p : Pos, 0 < p.toNat
  | .z => by decide
  | .o p => by have := p.toNat_pos; simp [Pos.toNat]; omega
  | .i p => by simp [Pos.toNat]
theorem Pos.toNat_succ : ∀ p : Pos, p.succ.toNat = p.toNat + 1
  | .z => rfl
  | .o p => rfl
  | .i p => by have := p.toNat_succ; simp [Pos.succ, Pos.toNat, this]; omega
theorem Pos.toNat_inj : ∀ p q : Pos, p.toNat = q.toNat → p = q
  | .z, .z, _ => rfl
  | .z, .o q, h => by have := q.toNat_pos; simp [Pos.toNat] at h; omega
  | .z, .i q, h => by have := q.toNat_pos; simp [Pos.toNat] at h; omega
  | .o p, .z, h => by have := p.toNat_pos; simp [Pos.toNat] at h; omega
  | .i p, .z, h => by have := p.toNat_pos; simp [Pos.toNat] at h; omega
  | .o p, .o q, h => by simp [Pos.toNat] at h; rw [p.toNat_inj q (by omega)]
  | .i p, .i q, h => by simp [Pos.toNat] at h; rw [p.toNat_inj q (by omega)]
  | .o p, .i q, h => by simp [Pos.toNat] at h; omega
  | .i p, .o q, h => by simp [Pos.toNat] at h; omega
theorem Pos.toNat_ofNat (n : Nat) : (Pos.ofNat n).toNat = n + 1 := by
  induction n with
  | zero => rfl
  | succ n ih => simp [Pos.ofNat, Pos.toNat_succ, ih]
theorem Pos.ofNat_inj {m n : Nat} (h : Pos.ofNat m = Pos.ofNat n) : m = n := by
  have := congrArg Pos.toNat h
  simp [Pos.toNat_ofNat] at this
  exact this
theorem PT.get_sing {α} (v : α) : ∀ p, (PT.sing v p).get p = some v
  | .z => rfl
  | .o p => PT.get_sing v p
  | .i p => PT.get_sing v p
theorem PT.get_sing_ne {α} (v : α) : ∀ p q, p ≠ q → (PT.sing v p).get q = none
  | .z, .z, h => absurd rfl h
  | .z, .o _, _ => rfl
  | .z, .i _, _ => rfl
  | .o p, .z, _ => rfl
  | .o p, .o q, h => PT.get_sing_ne v p q (fun e => h (by rw [e]))
  | .o p, .i q, _ => rfl
  | .i p, .z, _ => rfl
  | .i p, .o q, _ => rfl
  | .i p, .i q, h => PT.get_sing_ne v p q (fun e => h (by rw [e]))
theorem PT.get_set {α} (v : α) : ∀ (t : PT α) (p : Pos), (t.set v p).get p = some v
  | .leaf, p => PT.get_sing v p
  | .node _ _ _, .z => rfl
  | .node _ l _, .o p => PT.get_set v l p
  | .node _ _ r, .i p => PT.get_set v r p
theorem PT.get_set_ne {α} (v : α) : ∀ (t : PT α) (p q : Pos), p ≠ q → (t.set v p).get q = t.get q
  | .leaf, p, q, h => by simp only [PT.set, PT.get]; exact PT.get_sing_ne v p q h
  | .node _ _ _, .z, .z, h => absurd rfl h
  | .node _ _ _, .z, .o _, _ => rfl
  | .node _ _ _, .z, .i _, _ => rfl
  | .node _ _ _, .o _, .z, _ => rfl
  | .node _ l _, .o p, .o q, h => PT.get_set_ne v l p q (fun e => h (by rw [e]))
  | .node _ _ _, .o _, .i _, _ => rfl
  | .node _ _ _, .i _, .z, _ => rfl
  | .node _ _ _, .i _, .o _, _ => rfl
  | .node _ _ r, .i p, .i q, h => PT.get_set_ne v r p q (fun e => h (by rw [e]))
theorem PT.get_del {α} : ∀ (t : PT α) (p : Pos), (t.del p).get p = none
  | .leaf, _ => rfl
  | .node _ _ _, .z => rfl
  | .node _ l _, .o p => PT.get_del l p
  | .node _ _ r, .i p => PT.get_del r p
theorem PT.get_del_ne {α} : ∀ (t : PT α) (p q : Pos), p ≠ q → (t.del p).get q = t.get q
  | .leaf, p, q, h => rfl
  | .node _ _ _, .z, .z, h => absurd rfl h
  | .node _ _ _, .z, .o _, _ => rfl
  | .node _ _ _, .z, .i _, _ => rfl
  | .node _ _ _, .o _, .z, _ => rfl
  | .node _ l _, .o p, .o q, h => PT.get_del_ne l p q (fun e => h (by rw [e]))
  | .node _ _ _, .o _, .i _, _ => rfl
  | .node _ _ _, .i _, .z, _ => rfl
  | .node _ _ _, .i _, .o _, _ => rfl
  | .node _ _ r, .i p, .i q, h => PT.get_del_ne r p q (fun e => h (by rw [e]))

/-! ### values -/
/-- Where a block of the evaluator's heap lies: block, first cell, the block's number of cells. -/
structure Loc where
  b : Nat
  s : Nat
  m : Nat
abbrev Map := Pos → Option Loc
/-- what the unknowns and the opaque values are -/
structure Vn where
  i : Nat → Int
  o : Nat → Value
mutual
def VR (V : Vn) (μ : Map) : AVal → Value → Prop
  | .bool b, v => v = .bool b
  | .int k n, v => v = .int k n
  | .str s, v => ∃ b : ByteArray, v = .string b ∧ b.data.toList = s
  | .nilptr, v => v = .pointer none
  | .ptr id off, v => ∃ l, μ id = some l ∧ v = .pointer (some ⟨l.b, l.s + off, none⟩)
  | .nilslice, v => v = .slice none 0 0
  | .slice id off len (some c) _, v => ∃ l, μ id = some l ∧ v = .slice (some ⟨l.b, l.s + off, none⟩) len c
  | .slice id off len none sz, v => ∃ l rc o, μ id = some l ∧ v = .slice (some ⟨l.b, o, none⟩) len rc ∧ ((len ≤ rc ∧ o = l.s + off ∧ l.s + off + rc * sz = l.m) ∨ (len = 0 ∧ rc = 0 ∧ l.m ≤ l.s + off))
  | .nilmap, v => v = .map none
  | .map id, v => ∃ l, μ id = some l ∧ v = .map (some l.b)
  | .func f a c, v => ∃ a' c', v = .func (.func f) a' c' ∧ VRs V μ a a'.toList ∧ VRs V μ c c'.toList
  | .nilfunc, v => v = .nilFunc
  | .agg cs, v => ∃ a, v = .agg a ∧ VRs V μ cs a.toList
  | .tuple cs, v => ∃ a, v = .tuple a ∧ VRs V μ cs a.toList
  | .lin k i c, v => v = .int k (V.i i + c)
  | .rng k lo hi, v => ∃ n, v = .int k n ∧ lo ≤ n ∧ n ≤ hi
  | .opq i, v => v = V.o i ∧ v.oneCell' = true
def VRs (V : Vn) (μ : Map) : List AVal → List Value → Prop
  | [], l => l = []
  | x :: xs, l => ∃ v vs, l = v :: vs ∧ VR V μ x v ∧ VRs V μ xs vs
end
def Map.le (μ ν : Map) : Prop := ∀ id l, μ id = some l → ν id = some l
theorem Map.le.refl (μ : Map) : μ.le μ := fun _ _ h => h
theorem Map.le.trans {a b c : Map} (h : a.le b) (k : b.le c) : a.le c := fun i l e => k i l (h i l e)
variable {V : Vn}
mutual
theorem VR.mono {μ ν : Map} (h : μ.le ν) : ∀ (x : AVal) (v : Value), VR V μ x v → VR V ν x v
  | .bool b, v, e => e
  | .int k n, v, e => e
  | .str s, v, e => e
  | .nilptr, v, e => e
  | .ptr id off, v, ⟨l, e, r⟩ => ⟨l, h _ _ e, r⟩
  | .nilslice, v, e => e
  | .slice id off len (some c) _, v, ⟨l, e, r⟩ => ⟨l, h _ _ e, r⟩
  | .slice id off len none sz, v, ⟨l, rc, o, e, r⟩ => ⟨l, rc, o, h _ _ e, r⟩
  | .nilmap, v, e => e
  | .map id, v, ⟨l, e, r⟩ => ⟨l, h _ _ e, r⟩
  | .func f a c, v, ⟨a', c', e, x, y⟩ => ⟨a', c', e, VRs.mono h _ _ x, VRs.mono h _ _ y⟩
  | .nilfunc, v, e => e
  | .agg cs, v, ⟨a, e, x⟩ => ⟨a, e, VRs.mono h _ _ x⟩
  | .tuple cs, v, ⟨a, e, x⟩ => ⟨a, e, VRs.mono h _ _ x⟩
  | .lin k i c, v, e => e
  | .rng k lo hi, v, e => e
  | .opq i, v, e => e
theorem VRs.mono {μ ν : Map} (h : μ.le ν) : ∀ (x : List AVal) (v : List Value), VRs V μ x v → VRs V ν x v
  | [], l, e => e
  | x :: xs, l, ⟨v, vs, e, a, b⟩ => ⟨v, vs, e, VR.mono h _ _ a, VRs.mono h _ _ b⟩
end
theorem VRs.length {μ : Map} : ∀ {x : List AVal} {v : List Value}, VRs V μ x v → x.length = v.length
  | [], l, e => by rw [VRs] at e; simp [e]
  | x :: xs, l, h => by
    rw [VRs] at h
    obtain ⟨v, vs, rfl, _, b⟩ := h
    simp [VRs.length b]
end Go.Ev
set_option linter.unusedVariables false
namespace Go.Ev
open Go Go.RowKit
variable {V : Vn}
/-! ### rows of values -/
theorem VRs_nil {μ : Map} : VRs V μ [] [] := by rw [VRs]
theorem VRs_cons {μ : Map} {x xs v vs} (a : VR V μ x v) (b : VRs V μ xs vs) : VRs V μ (x :: xs) (v :: vs) := by rw [VRs]; exact ⟨_, _, rfl, a, b⟩
theorem VRs_append {μ : Map} : ∀ {x y : List AVal} {v u : List Value}, VRs V μ x v → VRs V μ y u → VRs V μ (x ++ y) (v ++ u)
  | [], y, v, u, a, b => by rw [VRs] at a; subst a; exact b
  | x :: xs, y, v, u, a, b => by
    rw [VRs] at a; obtain ⟨p, ps, rfl, h, k⟩ := a
    exact VRs_cons h (VRs_append k b)
theorem VRs_nth {μ : Map} : ∀ {x : List AVal} {l : List Value} {i : Nat} {v : AVal}, VRs V μ x l → nth i x = some v → ∃ u, l[i]? = some u ∧ VR V μ v u
  | [], l, i, v, _, h => by cases i <;> simp [nth] at h
  | x :: xs, l, 0, v, a, h => by
    rw [VRs] at a; obtain ⟨p, ps, rfl, q, k⟩ := a
    simp [nth] at h; subst h; exact ⟨p, rfl, q⟩
  | x :: xs, l, i + 1, v, a, h => by
    rw [VRs] at a; obtain ⟨p, ps, rfl, q, k⟩ := a
    simp only [nth] at h
    obtain ⟨u, hu, r⟩ := VRs_nth k h
    exact ⟨u, by simpa using hu, r⟩
theorem nth_eq : ∀ (i : Nat) (x : List AVal), nth i x = x[i]?
  | i, [] => by cases i <;> rfl
  | 0, x :: xs => rfl
  | i + 1, x :: xs => by simp [nth, nth_eq i xs]
theorem takeN_eq : ∀ (n : Nat) (x y : List AVal), takeN n x = some y → y = x.take n ∧ n ≤ x.length
  | 0, x, y, h => by simp [takeN] at h; simp [h]
  | n + 1, [], y, h => by simp [takeN] at h
  | n + 1, x :: xs, y, h => by
    simp only [takeN, Option.map_eq_some_iff] at h
    obtain ⟨z, hz, rfl⟩ := h
    have := takeN_eq n xs z hz
    simp [this.1, this.2]
theorem takeN_some : ∀ (n : Nat) (x : List AVal), n ≤ x.length → takeN n x = some (x.take n)
  | 0, x, h => by simp [takeN]
  | n + 1, [], h => by simp at h
  | n + 1, x :: xs, h => by simp [takeN, takeN_some n xs (by simpa using h)]
theorem dropN_eq : ∀ (n : Nat) (x : List AVal), dropN n x = x.drop n
  | 0, x => by simp [dropN]
  | n + 1, [] => by simp [dropN]
  | n + 1, x :: xs => by simp [dropN, dropN_eq n xs]
theorem VRs_take {μ : Map} (n : Nat) : ∀ {x : List AVal} {l : List Value}, VRs V μ x l → VRs V μ (x.take n) (l.take n) := by
  induction n with
  | zero => intro x l h; simpa using VRs_nil
  | succ n ih =>
    intro x l h
    cases x with
    | nil => rw [VRs] at h; subst h; simpa using VRs_nil
    | cons x xs =>
      rw [VRs] at h; obtain ⟨p, ps, rfl, q, k⟩ := h
      simpa using VRs_cons q (ih k)
theorem VRs_drop {μ : Map} (n : Nat) : ∀ {x : List AVal} {l : List Value}, VRs V μ x l → VRs V μ (x.drop n) (l.drop n) := by
  induction n with
  | zero => intro x l h; simpa using h
  | succ n ih =>
    intro x l h
    cases x with
    | nil => rw [VRs] at h; subst h; simpa using VRs_nil
    | cons x xs =>
      rw [VRs] at h; obtain ⟨p, ps, rfl, q, k⟩ := h
      simpa using ih k
theorem putAt_eq : ∀ (n : Nat) (vs cs ds : List AVal), putAt n vs cs = some ds → vs ≠ [] →
    n + vs.length ≤ cs.length ∧ ds = cs.take n ++ vs ++ cs.drop (n + vs.length) ∧ allOne vs = true
  | n, [], cs, ds, h, hne => absurd rfl hne
  | n, v :: vs, [], ds, h, _ => by cases n <;> simp [putAt] at h
  | 0, v :: vs, c :: cs, ds, h, _ => by
    simp only [putAt] at h
    split at h
    · rename_i h1
      simp only [Option.map_eq_some_iff] at h
      obtain ⟨z, hz, rfl⟩ := h
      by_cases hv : vs = []
      · subst hv
        have : z = cs := by cases cs <;> simp [putAt] at hz <;> simp [hz]
        subst this
        simp [allOne, h1]
      · have := putAt_eq 0 vs cs z hz hv
        obtain ⟨a, b, c⟩ := this
        refine ⟨by simp at a ⊢; omega, ?_, by simp [allOne, h1, c]⟩
        rw [b]; simp [Nat.add_comm]
    · simp at h
  | n + 1, v :: vs, c :: cs, ds, h, hne => by
    simp only [putAt, Option.map_eq_some_iff] at h
    obtain ⟨z, hz, rfl⟩ := h
    obtain ⟨a, b, d⟩ := putAt_eq n (v :: vs) cs z hz hne
    refine ⟨by simp at a ⊢; omega, ?_, d⟩
    have e : n + 1 + (v :: vs).length = (n + (v :: vs).length) + 1 := by omega
    rw [b, e, List.drop_succ_cons, List.take_succ_cons]
    simp only [List.cons_append]
theorem putAt_nil (n : Nat) (cs : List AVal) : putAt n [] cs = some cs := by cases n <;> cases cs <;> rfl

/-! ### blocks and heaps -/
def MR (V : Vn) (μ : Map) : List (AVal × AVal) → List MapEntry → Prop
  | [], l => l = []
  | (k, v) :: r, l => ∃ e es, l = e :: es ∧ VR V μ k e.key ∧ VR V μ v e.val ∧ MR V μ r es
theorem MR.mono {μ ν : Map} (h : μ.le ν) : ∀ {x l}, MR V μ x l → MR V ν x l
  | [], l, e => e
  | (k, v) :: r, l, ⟨e, es, q, a, b, c⟩ => ⟨e, es, q, a.mono h _ _, b.mono h _ _, c.mono h⟩
/-- the entries of a map are older than its clock -/
def Born (l : List MapEntry) (ck : Nat) : Prop := ∀ e ∈ l, e.born < ck
def BR (V : Vn) (μ : Map) (w : World) : ABlk → Loc → Prop
  | .cells cs ro, l => ∃ c e lo hi, w.heap[l.b]? = some (.cells c e (lo, hi)) ∧ c.size = l.m ∧ l.s + cs.length ≤ l.m ∧
      VRs V μ cs ((c.toList.drop l.s).take cs.length) ∧ (ro = false → lo = hi ∨ l.m ≤ lo)
  | .map es, l => ∃ es' ck, w.heap[l.b]? = some (.map es' ck) ∧ MR V μ es es'.toList ∧ Born es'.toList ck
def ABlk.ro : ABlk → Bool
  | .cells _ ro => ro
  | .map _ => false
structure HR (V : Vn) (μ : Map) (h : Hp) (w : World) : Prop where
  blk : ∀ id b, h.t.get id = some b → ∃ l, μ id = some l ∧ BR V μ w b l
  apart : ∀ i j a b l k, h.t.get i = some a → h.t.get j = some b → μ i = some l → μ j = some k → i ≠ j → l.b ≠ k.b
  fresh : ∀ id, h.nx.toNat ≤ id.toNat → μ id = none
  inW : ∀ id l, μ id = some l → l.b < w.heap.size
/-- block b is a live one's that may be written -/
def Wr (μ : Map) (h : Hp) (b : Nat) : Prop := ∃ id a l, h.t.get id = some a ∧ a.ro = false ∧ μ id = some l ∧ l.b = b
structure Ext (μ : Map) (h : Hp) (w : World) (μ' : Map) (h' : Hp) (w' : World) : Prop where
  le : μ.le μ'
  size : w.heap.size ≤ w'.heap.size
  frame : ∀ b, b < w.heap.size → ¬ Wr μ h b → w'.heap[b]? = w.heap[b]? ∧ ¬ Wr μ' h' b
  os : w'.os = w.os
  tape : w'.tape = w.tape
  output : w'.output = w.output
  nx : h.nx.toNat ≤ h'.nx.toNat
  old : ∀ id : Pos, id.toNat < h.nx.toNat → μ' id = μ id
theorem Ext.refl (μ : Map) (h : Hp) (w : World) : Ext μ h w μ h w := ⟨.refl _, Nat.le_refl _, fun _ _ k => ⟨rfl, k⟩, rfl, rfl, rfl, Nat.le_refl _, fun _ _ => rfl⟩
theorem Ext.trans {μ h w μ' h' w' μ'' h'' w''} (a : Ext μ h w μ' h' w') (b : Ext μ' h' w' μ'' h'' w'') : Ext μ h w μ'' h'' w'' :=
  ⟨a.le.trans b.le, Nat.le_trans a.size b.size, fun k hk hw => by
    obtain ⟨p, q⟩ := a.frame k hk hw
    obtain ⟨r, s⟩ := b.frame k (Nat.lt_of_lt_of_le hk a.size) q
    exact ⟨r.trans p, s⟩, b.os.trans a.os, b.tape.trans a.tape, b.output.trans a.output, Nat.le_trans a.nx b.nx, fun i hi => (b.old i (Nat.lt_of_lt_of_le hi a.nx)).trans (a.old i hi)⟩
theorem BR.mono {μ ν : Map} (h : μ.le ν) {w : World} : ∀ {b l}, BR V μ w b l → BR V ν w b l
  | .cells cs ro, l, ⟨c, e, lo, hi, a, b, d, f, g⟩ => ⟨c, e, lo, hi, a, b, d, VRs.mono h _ _ f, g⟩
  | .map es, l, ⟨es', ck, a, b, c⟩ => ⟨es', ck, a, b.mono h, c⟩
theorem BR.world {μ : Map} {w w' : World} : ∀ {b l}, w'.heap[l.b]? = w.heap[l.b]? → BR V μ w b l → BR V μ w' b l
  | .cells cs ro, l, e, ⟨c, t, lo, hi, a, r⟩ => ⟨c, t, lo, hi, e.trans a, r⟩
  | .map es, l, e, ⟨es', ck, a, r⟩ => ⟨es', ck, e.trans a, r⟩
/-- A draw. -/
theorem HR.drawn {μ h w} (n : Nat) (k : HR V μ h w) : HR V μ h { w with drawn := n } :=
  ⟨fun id b e => let ⟨l, p, q⟩ := k.blk id b e; ⟨l, p, BR.world rfl q⟩, k.apart, k.fresh, k.inW⟩
theorem Ext.drawn (μ : Map) (h : Hp) (w : World) (n : Nat) : Ext μ h w μ h { w with drawn := n } := ⟨.refl _, Nat.le_refl _, fun _ _ k => ⟨rfl, k⟩, rfl, rfl, rfl, Nat.le_refl _, fun _ _ => rfl⟩
/-! ### reading -/
theorem HR.cells {μ h w} (k : HR V μ h w) {id cs ro} (e : h.t.get id = some (.cells cs ro)) : ∃ l c t lo hi, μ id = some l ∧ w.heap[l.b]? = some (.cells c t (lo, hi)) ∧ c.size = l.m ∧ l.s + cs.length ≤ l.m ∧
      VRs V μ cs ((c.toList.drop l.s).take cs.length) ∧ (ro = false → lo = hi ∨ l.m ≤ lo) := by
  obtain ⟨l, p, c, t, lo, hi, q⟩ := k.blk id _ e
  exact ⟨l, c, t, lo, hi, p, q⟩
theorem HR.load1 {μ h w} (k : HR V μ h w) {id off v} (e : h.load1 id off = some v) : ∃ l u, μ id = some l ∧ w.cell? ⟨l.b, l.s + off, none⟩ = some u ∧ VR V μ v u := by
  unfold Hp.load1 at e
  split at e
  · rename_i cs ro hg
    obtain ⟨l, c, t, lo, hi, p, q, a, b, d, f⟩ := k.cells hg
    obtain ⟨u, hu, r⟩ := VRs_nth d e
    refine ⟨l, u, p, ?_, r⟩
    simp only [World.cell?, q]
    simp [List.getElem?_take, List.getElem?_drop] at hu
    simp [hu.2]
  · simp at e
theorem HR.load {μ h w} (k : HR V μ h w) {id off n vs} (e : h.load id off n = some vs) : ∃ l us, μ id = some l ∧ VRs V μ vs us ∧ us.length = n ∧ ∀ j u, us[j]? = some u → w.cell? ⟨l.b, l.s + off + j, none⟩ = some u := by
  unfold Hp.load at e
  split at e
  · rename_i cs ro hg
    obtain ⟨l, c, t, lo, hi, p, q, a, b, d, f⟩ := k.cells hg
    obtain ⟨rfl, hn⟩ := takeN_eq _ _ _ e
    rw [dropN_eq] at hn ⊢
    refine ⟨l, ((((c.toList.drop l.s).take cs.length).drop off).take n), p, VRs_take n (VRs_drop off d), ?_, ?_⟩
    · have h1 := (VRs_drop off d).length
      simp at hn h1 ⊢; omega
    · intro j u hu
      simp only [World.cell?, q]
      simp [List.getElem?_take, List.getElem?_drop] at hu
      simp [Nat.add_assoc, hu.2.2]
  · simp at e
end Go.Ev
set_option linter.unusedVariables false
namespace Go.Ev
open Go Go.RowKit
variable {V : Vn}
theorem VRs_one {μ : Map} : ∀ {vs : List AVal} {us : List Value}, VRs V μ vs us → allOne vs = true → ∀ u ∈ us, u.oneCell' = true
  | [], us, h, _, u, hu => by rw [VRs] at h; subst h; simp at hu
  | x :: xs, us, h, e, u, hu => by
    rw [VRs] at h; obtain ⟨p, ps, rfl, q, k⟩ := h
    simp [allOne] at e
    rcases List.mem_cons.1 hu with rfl | hu
    · cases x <;> simp [AVal.one] at e <;> (try (rename_i c _; cases c)) <;> simp only [VR] at q
      all_goals first
        | (exact q.2)
        | (subst q; rfl)
        | (obtain ⟨_, rfl, _⟩ := q; rfl)
        | (obtain ⟨_, _, rfl⟩ := q; rfl)
        | (obtain ⟨_, _, rfl, _⟩ := q; rfl)
        | (obtain ⟨_, _, _, rfl, _⟩ := q; rfl)
        | (obtain ⟨_, _, _, _, rfl, _⟩ := q; rfl)
    · exact VRs_one k e.2 u hu
/-- rows of cells written one behind the other -/
theorem setCells_heap (b : Nat) : ∀ (vs : List Value) (o : Nat) (w : World) (c : Array Value) (e : TypeId) (fz : Nat × Nat), w.heap[b]? = some (.cells c e fz) → o + vs.length ≤ c.size →
    ∃ c', (w.setCells b o vs).heap[b]? = some (.cells c' e fz) ∧ c'.toList = c.toList.take o ++ vs ++ c.toList.drop (o + vs.length)
  | [], o, w, c, e, fz, h, _ => ⟨c, h, by simp⟩
  | v :: r, o, w, c, e, fz, h, hl => by
    have h1 : (w.setCell ⟨b, o, none⟩ v).heap[b]? = some (.cells (c.setIfInBounds o v) e fz) := by
      simp [World.setCell, Array.getElem?_modify, h]
    obtain ⟨c', p, q⟩ := setCells_heap b r (o + 1) (w.setCell ⟨b, o, none⟩ v) _ e fz h1 (by simp at hl ⊢; omega)
    refine ⟨c', by rw [World.setCells]; exact p, ?_⟩
    rw [q]
    simp at hl
    have ho : o < c.toList.length := by simp; omega
    simp only [Array.toList_setIfInBounds, List.length_cons]
    rw [List.take_set, List.drop_set_of_lt (by omega), show o + 1 + r.length = o + (r.length + 1) by omega]
    have hol : (c.toList.take o).length = o := by simp at ho ⊢; omega
    rw [List.take_succ_eq_append_getElem ho, List.set_append, if_neg (by rw [hol]; omega), hol, Nat.sub_self, List.set_cons_zero, List.append_assoc, List.append_assoc, List.append_assoc]
    rfl
theorem setCells_other (b : Nat) : ∀ (vs : List Value) (o : Nat) (w : World) (k : Nat), k ≠ b → (w.setCells b o vs).heap[k]? = w.heap[k]?
  | [], _, _, _, _ => rfl
  | v :: r, o, w, k, h => by
    rw [World.setCells, setCells_other b r _ _ k h]
    exact Below.heap_setCell _ _ _ _ h
theorem setCells_rest (b : Nat) : ∀ (vs : List Value) (o : Nat) (w : World), (w.setCells b o vs).heap.size = w.heap.size ∧ (w.setCells b o vs).os = w.os ∧ (w.setCells b o vs).tape = w.tape ∧ (w.setCells b o vs).output = w.output
  | [], _, _ => ⟨rfl, rfl, rfl, rfl⟩
  | v :: r, o, w => by
    obtain ⟨a, b', c, d⟩ := setCells_rest b r (o + 1) (w.setCell ⟨b, o, none⟩ v)
    rw [World.setCells]
    exact ⟨a.trans (by simp [World.setCell]), b', c, d⟩
/-- A live block turns: the world's block turns with it. -/
theorem HR.turn {μ h w w' id a b l} (k : HR V μ h w) (hg : h.t.get id = some a) (ha : a.ro = false) (hl : μ id = some l) (hb : BR V μ w' b l)
    (ho : ∀ i, i ≠ l.b → w'.heap[i]? = w.heap[i]?) (hs : w'.heap.size = w.heap.size) (hos : w'.os = w.os) (ht : w'.tape = w.tape) (hout : w'.output = w.output) (hro : b.ro = false) :
    HR V μ { h with t := h.t.set b id } w' ∧ Ext μ h w μ { h with t := h.t.set b id } w' := by
  refine ⟨⟨?_, ?_, k.fresh, fun i j e => hs ▸ k.inW i j e⟩, ⟨.refl _, by omega, ?_, hos, ht, hout, Nat.le_refl _, fun _ _ => rfl⟩⟩
  · intro i c hc
    by_cases hi : i = id
    · subst hi
      rw [PT.get_set] at hc
      cases hc
      exact ⟨l, hl, hb⟩
    · rw [PT.get_set_ne _ _ _ _ (Ne.symm hi)] at hc
      obtain ⟨m, hm, r⟩ := k.blk i c hc
      exact ⟨m, hm, BR.world (ho _ (k.apart i id c a m l hc hg hm hl hi)) r⟩
  · intro i j c d m n hc hd hm hn hij
    have live : ∀ i c, (h.t.set b id).get i = some c → ∃ c', h.t.get i = some c' := by
      intro i c hc
      by_cases hi : i = id
      · subst hi; exact ⟨_, hg⟩
      · rw [PT.get_set_ne _ _ _ _ (Ne.symm hi)] at hc; exact ⟨_, hc⟩
    obtain ⟨_, hc'⟩ := live i c hc
    obtain ⟨_, hd'⟩ := live j d hd
    exact k.apart i j _ _ m n hc' hd' hm hn hij
  · intro i hi hw
    have hne : i ≠ l.b := fun e => hw ⟨id, a, l, hg, ha, hl, e.symm⟩
    refine ⟨ho i hne, ?_⟩
    rintro ⟨j, c, m, hc, hcr, hm, he⟩
    by_cases hj : j = id
    · subst hj
      rw [hl] at hm; cases hm
      exact hne he.symm
    · rw [PT.get_set_ne _ _ _ _ (Ne.symm hj)] at hc
      exact hw ⟨j, c, m, hc, hcr, hm, he⟩
theorem HR.store {μ h w} (k : HR V μ h w) {id off vs us h'} (e : h.store id off vs = some h') (hne : vs ≠ []) (hv : VRs V μ vs us) :
    ∃ l, μ id = some l ∧ (∀ P : Program, (storeCells ⟨l.b, l.s + off, none⟩ us).run P w = .ok () (w.setCells l.b (l.s + off) us)) ∧ HR V μ h' (w.setCells l.b (l.s + off) us) ∧ Ext μ h w μ h' (w.setCells l.b (l.s + off) us) := by
  unfold Hp.store at e
  split at e
  · rename_i cs hg
    simp only [Option.map_eq_some_iff] at e
    obtain ⟨ds, hd, rfl⟩ := e
    obtain ⟨l, c, t, lo, hi, p, q, a, b, d, f⟩ := k.cells hg
    obtain ⟨h1, h2, h3⟩ := putAt_eq _ _ _ _ hd hne
    have hlen := hv.length
    have hf := f rfl
    refine ⟨l, p, ?_, ?_⟩
    · intro P
      have := run_storeCells_cells (P := P) l.b (l.s + off) us 0 w ?_ ?_ (VRs_one hv h3)
      · simpa using this
      · intro j hj
        have : l.s + off + j < c.size := by omega
        simp [World.cell?, q, this]
      · intro j hj
        simp only [World.frozen?, q]
        rcases hf with hf | hf
        · simp; omega
        · simp; omega
    · obtain ⟨c', hc', hc2⟩ := setCells_heap l.b us (l.s + off) w c t (lo, hi) q (by omega)
      obtain ⟨r1, r2, r3, r4⟩ := setCells_rest l.b us (l.s + off) w
      refine k.turn hg rfl p (b := .cells ds false) ⟨c', t, lo, hi, hc', ?_, ?_, ?_, fun _ => hf⟩ (setCells_other l.b us _ w) r1 r2 r3 r4 rfl
      · have := congrArg List.length hc2
        simp at this
        omega
      · rw [h2]; simp; omega
      · have hcl : c.toList.length = l.m := by simp [a]
        have e2 : ds.length = cs.length := by rw [h2]; simp; omega
        rw [e2, hc2, h2]
        have e3 : ((c.toList.take (l.s + off) ++ us ++ c.toList.drop (l.s + off + us.length)).drop l.s).take cs.length =
            ((c.toList.drop l.s).take cs.length).take off ++ us ++ ((c.toList.drop l.s).take cs.length).drop (off + vs.length) := by
          apply List.ext_getElem?
          intro j
          simp only [List.getElem?_take, List.getElem?_drop, List.getElem?_append, List.length_append, List.length_take, List.length_drop, hcl]
          by_cases hj : j < cs.length
          · by_cases hj1 : j < off
            · have : l.s + j < l.s + off := by omega
              have h5 : l.s + j < min (l.s + off) l.m := by omega
              have h6 : j < min off (min cs.length (l.m - l.s)) := by omega
              have h7 : j < min off (min cs.length (l.m - l.s)) + us.length := by omega
              have h8 : l.s + j < min (l.s + off) l.m + us.length := by omega
              simp [hj, hj1, h5, h6, h7, h8]
            · by_cases hj2 : j < off + us.length
              · have h5 : ¬ l.s + j < min (l.s + off) l.m := by omega
                have h6 : ¬ j < min off (min cs.length (l.m - l.s)) := by omega
                have h7 : j < min off (min cs.length (l.m - l.s)) + us.length := by omega
                have h8 : l.s + j < min (l.s + off) l.m + us.length := by omega
                have h9 : l.s + j - min (l.s + off) l.m = j - min off (min cs.length (l.m - l.s)) := by omega
                simp [hj, h5, h6, h7, h8, h9]
              · have h7 : ¬ j < min off (min cs.length (l.m - l.s)) + us.length := by omega
                have h8 : ¬ l.s + j < min (l.s + off) l.m + us.length := by omega
                have h9 : l.s + off + us.length + (l.s + j - (min (l.s + off) l.m + us.length)) = l.s + j := by omega
                have h10 : off + vs.length + (j - (min off (min cs.length (l.m - l.s)) + us.length)) = j := by omega
                simp [hj, h7, h8, h9, h10]
          · have h7 : ¬ j < min off (min cs.length (l.m - l.s)) + us.length := by omega
            have h10 : off + vs.length + (j - (min off (min cs.length (l.m - l.s)) + us.length)) = j := by omega
            simp [hj, h7, h10]
        rw [e3]
        exact VRs_append (VRs_append (VRs_take _ d) hv) (VRs_drop _ d)
  · simp at e
end Go.Ev
set_option linter.unusedVariables false
namespace Go.Ev
open Go Go.RowKit
variable {V : Vn}
def Map.add (μ : Map) (id : Pos) (l : Loc) : Map := fun i => if i = id then some l else μ i
theorem Map.add_same (μ : Map) (id : Pos) (l : Loc) : μ.add id l id = some l := by simp [Map.add]
theorem Map.add_le {μ : Map} {id : Pos} (h : μ id = none) (l : Loc) : μ.le (μ.add id l) := by
  intro i m e
  by_cases hi : i = id
  · subst hi; rw [h] at e; cases e
  · simp [Map.add, hi, e]
/-- A new live block, at a new place or (an append in place) at one that is live no more. -/
theorem HR.add {μ : Map} {h : Hp} {w' : World} (t' : PT ABlk) (l : Loc) (b : ABlk) (k : HR V μ { h with t := t' } w') (hb : BR V μ w' b l) (hl : l.b < w'.heap.size)
    (hn : ∀ i a m, t'.get i = some a → μ i = some m → m.b ≠ l.b) :
    HR V (μ.add h.nx l) { t := t'.set b h.nx, nx := h.nx.succ } w' := by
  have hfr : μ h.nx = none := k.fresh h.nx (Nat.le_refl _)
  have hle : μ.le (μ.add h.nx l) := Map.add_le hfr l
  have old : ∀ i a, t'.get i = some a → i ≠ h.nx := fun i a e hi => by
    subst hi
    obtain ⟨m, hm, _⟩ := k.blk _ a e
    rw [hfr] at hm; cases hm
  refine ⟨?_, ?_, ?_, ?_⟩
  · intro i c hc
    by_cases hi : i = h.nx
    · subst hi
      simp only [PT.get_set] at hc
      cases hc
      exact ⟨l, Map.add_same _ _ _, hb.mono hle⟩
    · simp only [PT.get_set_ne _ _ _ _ (Ne.symm hi)] at hc
      obtain ⟨m, hm, r⟩ := k.blk i c hc
      exact ⟨m, hle _ _ hm, r.mono hle⟩
  · intro i j c d m n hc hd hm hn' hij
    by_cases hi : i = h.nx
    · subst hi
      have hj : j ≠ h.nx := Ne.symm hij
      rw [Map.add_same] at hm; cases hm
      simp only [PT.get_set_ne _ _ _ _ (Ne.symm hj)] at hd
      simp [Map.add, hj] at hn'
      exact (hn j d n hd hn').symm
    · by_cases hj : j = h.nx
      · subst hj
        rw [Map.add_same] at hn'; cases hn'
        simp only [PT.get_set_ne _ _ _ _ (Ne.symm hi)] at hc
        simp [Map.add, hi] at hm
        exact hn i c m hc hm
      · simp only [PT.get_set_ne _ _ _ _ (Ne.symm hi)] at hc
        simp only [PT.get_set_ne _ _ _ _ (Ne.symm hj)] at hd
        simp [Map.add, hi] at hm
        simp [Map.add, hj] at hn'
        exact k.apart i j c d m n hc hd hm hn' hij
  · intro i hi
    simp only [Pos.toNat_succ] at hi
    have hne : i ≠ h.nx := fun e => by subst e; omega
    simp only [Map.add, hne, if_false]
    exact k.fresh i (by show h.nx.toNat ≤ i.toNat; omega)
  · intro i m hm
    by_cases hi : i = h.nx
    · subst hi; rw [Map.add_same] at hm; cases hm; exact hl
    · simp [Map.add, hi] at hm; exact k.inW i m hm
theorem HR.push {μ h w} (k : HR V μ h w) (o : Obj) : HR V μ h (w.alloc o) :=
  ⟨fun i b e => by
    obtain ⟨l, p, q⟩ := k.blk i b e
    exact ⟨l, p, BR.world (Below.heap_alloc _ _ _ (k.inW _ _ p)) q⟩, k.apart, k.fresh, fun i l e => by have := k.inW i l e; simp; omega⟩
theorem HR.alloc {μ h w} (k : HR V μ h w) (b : ABlk) (o : Obj) (m : Nat) (hb : BR V μ (w.alloc o) b ⟨w.heap.size, 0, m⟩) :
    HR V (μ.add h.nx ⟨w.heap.size, 0, m⟩) (h.alloc b).2 (w.alloc o) ∧ Ext μ h w (μ.add h.nx ⟨w.heap.size, 0, m⟩) (h.alloc b).2 (w.alloc o) := by
  have hfr : μ h.nx = none := k.fresh h.nx (Nat.le_refl _)
  have hh := HR.add (h := h) (w' := w.alloc o) h.t ⟨w.heap.size, 0, m⟩ b (k.push o) hb (by simp) (fun i a l _ e => by have := k.inW i l e; exact Nat.ne_of_lt this)
  refine ⟨hh, ⟨Map.add_le hfr _, by simp, ?_, rfl, rfl, rfl, (by simp only [Hp.alloc, Pos.toNat_succ]; omega), fun i hi => (by simp only [Map.add]; rw [if_neg (fun e => by subst e; omega)])⟩⟩
  intro i hi hw
  refine ⟨Below.heap_alloc _ _ _ hi, ?_⟩
  rintro ⟨j, a, l, ha, har, hl, e⟩
  by_cases hj : j = h.nx
  · subst hj; rw [Map.add_same] at hl; cases hl; simp at e; omega
  · simp only [Hp.alloc, PT.get_set_ne _ _ _ _ (Ne.symm hj)] at ha
    simp [Map.add, hj] at hl
    exact hw ⟨j, a, l, ha, har, hl, e⟩
theorem HR.allocCells {μ h w} (k : HR V μ h w) {cs : List AVal} {c : Array Value} (e : TypeId) (hv : VRs V μ cs (c.toList.take cs.length)) :
    HR V (μ.add h.nx ⟨w.heap.size, 0, c.size⟩) (h.alloc (.cells cs false)).2 (w.alloc (.cells c e)) ∧
      Ext μ h w (μ.add h.nx ⟨w.heap.size, 0, c.size⟩) (h.alloc (.cells cs false)).2 (w.alloc (.cells c e)) := by
  refine k.alloc _ _ _ ⟨c, e, 0, 0, by show (w.heap.push _)[w.heap.size]? = _; simp, rfl, ?_, by simpa using hv, fun _ => .inl rfl⟩
  have := hv.length
  simp at this ⊢; omega
end Go.Ev
namespace Go.Ev
open Go Go.RowKit
variable {V : Vn}
theorem add_none (b o n : Nat) : (⟨b, o, none⟩ : Addr).add n = ⟨b, o + n, none⟩ := by unfold Addr.add; split <;> simp_all
variable {P : Program}
theorem run_typeInfo' {t : TypeId} {i : TypeInfo} (h : P.info? t = some i) (w : World) : (typeInfo t).run P w = .ok i w := by
  simp [typeInfo, h]
theorem run_sizeOf' {t : TypeId} {i : TypeInfo} (h : P.info? t = some i) (w : World) : (sizeOf t).run P w = .ok i.size w := by
  simp [sizeOf, run_typeInfo' h]
theorem run_zeroValue' {t : TypeId} {i : TypeInfo} {z : Value} (h : P.info? t = some i) (hz : i.zero = some z) (w : World) : (zeroValue t).run P w = .ok z w := by
  simp [zeroValue, run_typeInfo' h, hz]
theorem cAgg_spec {t : TypeId} {n : Option Nat} (h : cAgg P t = some n) (w : World) :
    ∃ d i, P.underlying t = some d ∧ P.info? t = some i ∧ (isAgg t).run P w = .ok n.isSome w ∧ ∀ m, n = some m → i.size = m := by
  unfold cAgg at h
  split at h
  · rename_i fs i h1 h2
    cases h
    exact ⟨_, i, h1, h2, by simp [isAgg, run_underlying h1], fun m e => by cases e; rfl⟩
  · rename_i n' e i h1 h2
    cases h
    exact ⟨_, i, h1, h2, by simp [isAgg, run_underlying h1], fun m e => by cases e; rfl⟩
  · rename_i d i hn1 hn2 h1 h2
    cases h
    refine ⟨d, i, h1, h2, ?_, fun m e => by cases e⟩
    simp only [isAgg, Sem.run_bind, run_underlying h1, Result.andThen_ok]
    cases d <;> first | rfl | exact (hn1 _ rfl).elim | exact (hn2 _ _ rfl).elim
  · simp at h
/-! ### constants -/
theorem VR_of1 {μ : Map} {v : Value} {x : AVal} (h : of1 v = some x) : VR V μ x v := by
  unfold of1 at h
  split at h <;> first | (cases h; simp [VR, VRs]; done) | (cases h; rw [VR]; done) | (simp at h; done) | skip
  split at h
  · rename_i f a c hh
    cases h
    simp at hh
    rw [VR]
    exact ⟨a, c, rfl, by simp [hh.1, VRs], by simp [hh.2, VRs]⟩
  · simp at h
theorem VRs_of1s {μ : Map} : ∀ {l : List Value} {x : List AVal}, of1s l = some x → VRs V μ x l
  | [], x, h => by cases h; exact VRs_nil
  | v :: r, x, h => by
    simp only [of1s, Option.bind_eq_bind, Option.bind_eq_some_iff, Option.pure_def, Option.some.injEq] at h
    obtain ⟨a, ha, b, hb, rfl⟩ := h
    exact VRs_cons (VR_of1 ha) (VRs_of1s hb)
theorem VR_ofConst {μ : Map} {v : Value} {x : AVal} (h : ofConst v = some x) : VR V μ x v := by
  unfold ofConst at h
  split at h
  · simp only [Option.map_eq_some_iff] at h; obtain ⟨a, ha, rfl⟩ := h; rw [VR]; exact ⟨_, rfl, VRs_of1s ha⟩
  · simp only [Option.map_eq_some_iff] at h; obtain ⟨a, ha, rfl⟩ := h; rw [VR]; exact ⟨_, rfl, VRs_of1s ha⟩
  · exact VR_of1 h
theorem VR_undef {μ : Map} : VR V μ .undef undef := by unfold AVal.undef undef; rw [VR]; exact ⟨_, rfl, VRs_nil⟩
theorem VR_cells {μ : Map} {x : AVal} {v : Value} (h : VR V μ x v) : VRs V μ x.cells v.cells.toList := by
  cases x with
  | agg cs => rw [VR] at h; obtain ⟨a, rfl, h⟩ := h; exact h
  | slice id off len cap sz => 
    have h' := h
    cases cap <;> (rw [VR] at h; first | (obtain ⟨_, e, rfl⟩ := h) | (obtain ⟨_, _, _, e, rfl, _⟩ := h)) <;> exact VRs_cons h' VRs_nil
  | opq i =>
    have h' := h
    rw [VR] at h
    have e : v.cells = #[v] := by cases v <;> first | rfl | (exact absurd h.2 (by simp [Value.oneCell']))
    rw [e]
    exact VRs_cons h' VRs_nil
  | tuple vs => 
    have h' := h
    rw [VR] at h; obtain ⟨a, rfl, _⟩ := h; exact VRs_cons h' VRs_nil
  | _ =>
    have h' := h
    rw [VR] at h
    first
      | (subst h; exact VRs_cons h' VRs_nil)
      | (obtain ⟨_, rfl, _⟩ := h; exact VRs_cons h' VRs_nil)
      | (obtain ⟨_, _, rfl⟩ := h; exact VRs_cons h' VRs_nil)
      | (obtain ⟨_, _, rfl, _⟩ := h; exact VRs_cons h' VRs_nil)
end Go.Ev
namespace Go.Ev
open Go Go.RowKit
variable {V : Vn}
variable {P : Program}
theorem run_eqGuard_int (op : BinOp) (t : TypeId) (x y : Operand) (k j : IntKind) (a b : Int) (w : World) : (eqGuard op t x y (.int k a) (.int j b)).run P w = .ok () w := by
  cases op <;> rfl
theorem run_binInt (op : BinOp) (t : TypeId) (B : Bnds) (k j : IntKind) (a b : Int) (v : AVal) (h : binA B op (.int k a) (.int j b) = some v) (μ : Map) (w : World) :
    ∃ v', (binOp op t (.int k a) (.int j b)).run P w = .ok v' w ∧ VR V μ v v' := by
  cases op
  case shl =>
    simp only [binA] at h
    split at h
    · simp at h
    · cases h; rename_i hb; exact ⟨_, by simp [binOp, Op.shift, hb]; rfl, by simp [VR]⟩
  case shr =>
    simp only [binA] at h
    split at h
    · simp at h
    · cases h; rename_i hb; exact ⟨_, by simp [binOp, Op.shift, hb]; rfl, by simp [VR]⟩
  all_goals
    simp only [binA] at h
    split at h
    · rename_i hk
      subst hk
      simp only [binInt] at h
      first
        | (cases h; exact ⟨_, by simp [binOp, Op.intArith, Op.intBits, Op.intCmp]; rfl, by simp [VR]⟩)
        | (split at h
           · simp at h
           · rename_i hb
             cases h; exact ⟨_, by simp [binOp, Op.intDiv, hb]; rfl, by simp [VR]⟩)
    · simp at h
end Go.Ev
namespace Go.Ev
open Go Go.RowKit
variable {V : Vn}
variable {P : Program}
theorem bytesLt_eq : ∀ a b, bytesLt a b = Op.bytesLess a b
  | [], [] => rfl
  | _ :: _, [] => rfl
  | [], _ :: _ => rfl
  | a :: x, b :: y => by rw [bytesLt, Op.bytesLess, bytesLt_eq x y]
theorem run_eqGuard_str (op : BinOp) (t : TypeId) (x y : Operand) (a b : ByteArray) (w : World) : (eqGuard op t x y (.string a) (.string b)).run P w = .ok () w := by
  cases op <;> rfl
theorem run_binStr (op : BinOp) (t : TypeId) (B : Bnds) (a b : ByteArray) (v : AVal) (h : binA B op (.str a.data.toList) (.str b.data.toList) = some v) (μ : Map) (w : World) :
    ∃ v', (binOp op t (.string a) (.string b)).run P w = .ok v' w ∧ VR V μ v v' := by
  have hs : ∀ x : ByteArray, x.data.toList.length = x.size := fun x => by rw [Array.length_toList]; rfl
  cases op <;> simp only [binA] at h
  case add =>
    split at h
    · simp at h
    · rename_i hb
      cases h
      refine ⟨.string (a ++ b), ?_, ?_⟩
      · rw [hs, hs] at hb
        simp only [binOp, Op.stringOp]
        rw [if_neg hb]; rfl
      · rw [VR]; exact ⟨_, rfl, by simp⟩
  all_goals first
    | (obtain rfl := Option.some.inj h
       refine ⟨_, by simp only [binOp, Op.stringOp, ByteArray.toList_eq]; rfl, ?_⟩
       first | (rw [VR]; done) | (rw [VR]; simp only [bytesLt_eq]))
    | (simp at h; done)

theorem VR_bool {μ : Map} {b : Bool} {v : Value} : VR V μ (.bool b) v ↔ v = .bool b := by rw [VR]
theorem VR_ptr {μ : Map} {id off} {v : Value} : VR V μ (.ptr id off) v ↔ ∃ l, μ id = some l ∧ v = .pointer (some ⟨l.b, l.s + off, none⟩) := by rw [VR]
theorem VR_slice {μ : Map} {id off len cap sz} {v : Value} (h : VR V μ (.slice id off len cap sz) v) : ∃ l rc o, μ id = some l ∧ v = .slice (some ⟨l.b, o, none⟩) len rc ∧ (∀ c, cap = some c → rc = c ∧ o = l.s + off) ∧
    (cap = none → (len ≤ rc ∧ o = l.s + off ∧ l.s + off + rc * sz = l.m) ∨ (len = 0 ∧ rc = 0 ∧ l.m ≤ l.s + off)) := by
  cases cap with
  | some c => rw [VR] at h; obtain ⟨l, e, rfl⟩ := h; exact ⟨l, c, _, e, rfl, ⟨fun _ h => (by cases h; exact ⟨rfl, rfl⟩), fun h => (by cases h)⟩⟩
  | none => rw [VR] at h; obtain ⟨l, rc, o, e, rfl, a⟩ := h; exact ⟨l, rc, o, e, rfl, ⟨fun _ h => (by cases h), fun _ => a⟩⟩
theorem VR_slice_mk {μ : Map} {id off len cap sz l rc o} (e : μ id = some l) (h1 : ∀ c, cap = some c → rc = c ∧ o = l.s + off) (h2 : cap = none → (len ≤ rc ∧ o = l.s + off ∧ l.s + off + rc * sz = l.m) ∨ (len = 0 ∧ rc = 0 ∧ l.m ≤ l.s + off)) :
    VR V μ (.slice id off len cap sz) (.slice (some ⟨l.b, o, none⟩) len rc) := by
  cases cap with
  | some c => rw [VR, (h1 c rfl).1, (h1 c rfl).2]; exact ⟨l, e, rfl⟩
  | none => rw [VR]; exact ⟨l, rc, o, e, rfl, h2 rfl⟩
/-- the model's equality at depth -/
theorem equal_unfold (t : TypeId) (x y : Value) : Op.equal t x y = Op.equalIn (9999 + 1) t x y := rfl
theorem str_beq (p q : ByteArray) : (p == q) = (p.data.toList == q.data.toList) := by
  have : (p == q) = (p.data == q.data) := rfl
  rw [this]; simp
theorem eq1_run {t : TypeId} {k : SK} (ht : scalarT P t = some k) {a b : AVal} {r : Bool} (h : eq1 k a b = some r) {μ : Map} {u v : Value} (hu : VR V μ a u) (hv : VR V μ b v) (d : Nat) (w : World) :
    (Op.equalIn (d + 1) t u v).run P w = .ok r w := by
  unfold scalarT at ht
  split at ht <;> rename_i hd <;> first | (simp at ht; done) | cases ht
  · cases a <;> cases b <;> simp only [eq1] at h <;> first | (simp at h; done) | skip
    cases h
    rw [VR] at hu hv; subst hu; subst hv
    simp [Op.equalIn, run_underlying hd]
  · cases a <;> cases b <;> simp only [eq1] at h <;> first | (simp at h; done) | skip
    split at h
    · cases h
      rename_i hkk
      rw [VR] at hu hv; subst hu; subst hv
      simp [Op.equalIn, run_underlying hd, hkk]
    · simp at h
  · cases a <;> cases b <;> simp only [eq1] at h <;> first | (simp at h; done) | skip
    obtain rfl := Option.some.inj h
    rw [VR] at hu hv
    obtain ⟨p, rfl, rfl⟩ := hu
    obtain ⟨q, rfl, rfl⟩ := hv
    simp only [Op.equalIn, Sem.run_bind, run_underlying hd, Result.andThen_ok, Sem.run_pure, str_beq]
end Go.Ev
namespace Go.Ev
open Go Go.RowKit
variable {V : Vn}
variable {P : Program}
theorem scalarT_part {t : TypeId} {k : SK} (h : scalarT P t = some k) (cs : Array Value) (o : Nat) (v : Value) (hv : cs[o]? = some v) (w : World) : (part t cs o).run P w = .ok v w := by
  unfold scalarT at h
  split at h <;> rename_i hd <;> first | (simp at h; done) | skip
  all_goals simp [part, isAgg, run_underlying hd, hv]
def eqBody (P : Program) (d : Nat) (xs ys : Array Value) : Field → Option Bool × Unit → Sem (ForInStep (Option Bool × Unit)) := fun f __s =>
            if f.name ≠ "_" then do
              let __do_lift ← part f.type xs f.offset
              let __do_lift_1 ← part f.type ys f.offset
              let __do_lift ← Op.equalIn d f.type __do_lift __do_lift_1
              if (!__do_lift) = true then pure (ForInStep.done (some false, ())) else pure (ForInStep.yield (none, ()))
            else pure (ForInStep.yield (none, ()))
theorem struct_loop (d : Nat) (xs ys : Array Value) (x y : List AVal) (w : World) {μ : Map} (hx : VRs V μ x xs.toList) (hy : VRs V μ y ys.toList) : ∀ (fs : List Field) (offs : List (Nat × SK)) (b : Bool),
    cEqFs P fs = some offs → eqOffs offs x y = some b → (forIn fs (none, ()) (eqBody P (d + 1) xs ys)).run P w = .ok (if b then (none, ()) else (some false, ())) w
  | [], offs, b, h, e => by
    cases h; simp [eqOffs] at e; subst e; rfl
  | f :: fs, offs, b, h, e => by
    unfold cEqFs at h
    split at h
    · simp at h
    · rename_i hn
      simp only [Option.bind_eq_bind, Option.bind_eq_some_iff, Option.pure_def, Option.some.injEq] at h
      obtain ⟨k, hk, offs', ho, rfl⟩ := h
      simp only [eqOffs] at e
      split at e
      · rename_i a c ha hc
        obtain ⟨u, hu, hau⟩ := VRs_nth hx ha
        obtain ⟨v, hv, hcv⟩ := VRs_nth hy hc
        have p1 := scalarT_part hk xs f.offset u (by simpa using hu) w
        have p2 := scalarT_part hk ys f.offset v (by simpa using hv) w
        split at e
        · rename_i he
          have := eq1_run hk he hau hcv d w
          rw [List.forIn_cons, Sem.run_bind]
          have : (eqBody P (d + 1) xs ys f (none, ())).run P w = .ok (.yield (none, ())) w := by
            simp only [eqBody, if_pos hn, Sem.run_bind, p1, p2, this, Result.andThen_ok]; rfl
          rw [this, Result.andThen_ok]
          exact struct_loop d xs ys x y w hx hy fs offs' b ho e
        · rename_i he
          cases e
          have := eq1_run hk he hau hcv d w
          rw [List.forIn_cons, Sem.run_bind]
          have : (eqBody P (d + 1) xs ys f (none, ())).run P w = .ok (.done (some false, ())) w := by
            simp only [eqBody, if_pos hn, Sem.run_bind, p1, p2, this, Result.andThen_ok]; rfl
          rw [this, Result.andThen_ok]
          rfl
        · simp at e
      · simp at e
def eqBodyA (P : Program) (d : Nat) (elem : TypeId) (n : Nat) (xs ys : Array Value) : Nat → Option Bool × Unit → Sem (ForInStep (Option Bool × Unit)) := fun i __s => do
              let __do_lift ← part elem xs (i * n)
              let __do_lift_1 ← part elem ys (i * n)
              let __do_lift ← Op.equalIn d elem __do_lift __do_lift_1
              if (!__do_lift) = true then pure (ForInStep.done (some false, ())) else pure (ForInStep.yield (none, ()))
theorem array_loop (d : Nat) (e : TypeId) (k : SK) (hk : scalarT P e = some k) (xs ys : Array Value) (x y : List AVal) (w : World) {μ : Map} (hx : VRs V μ x xs.toList) (hy : VRs V μ y ys.toList) : ∀ (is : List Nat) (b : Bool),
    eqOffs (is.map (·, k)) x y = some b → (forIn is (none, ()) (eqBodyA P (d + 1) e 1 xs ys)).run P w = .ok (if b then (none, ()) else (some false, ())) w
  | [], b, e => by
    simp [eqOffs] at e; subst e; rfl
  | i :: is, b, e' => by
      simp only [List.map_cons, eqOffs] at e'
      split at e'
      · rename_i a c ha hc
        obtain ⟨u, hu, hau⟩ := VRs_nth hx ha
        obtain ⟨v, hv, hcv⟩ := VRs_nth hy hc
        have p1 := scalarT_part hk xs (i * 1) u (by simpa using hu) w
        have p2 := scalarT_part hk ys (i * 1) v (by simpa using hv) w
        split at e'
        · rename_i he
          have := eq1_run hk he hau hcv d w
          rw [List.forIn_cons, Sem.run_bind]
          have : (eqBodyA P (d + 1) e 1 xs ys i (none, ())).run P w = .ok (.yield (none, ())) w := by
            simp only [eqBodyA, Sem.run_bind, p1, p2, this, Result.andThen_ok]; rfl
          rw [this, Result.andThen_ok]
          exact array_loop d e k hk xs ys x y w hx hy is b e'
        · rename_i he
          cases e'
          have := eq1_run hk he hau hcv d w
          rw [List.forIn_cons, Sem.run_bind]
          have : (eqBodyA P (d + 1) e 1 xs ys i (none, ())).run P w = .ok (.done (some false, ())) w := by
            simp only [eqBodyA, Sem.run_bind, p1, p2, this, Result.andThen_ok]; rfl
          rw [this, Result.andThen_ok]
          rfl
        · simp at e'
      · simp at e'
set_option maxHeartbeats 1000000 in
theorem run_equalIn (d : Nat) {t : TypeId} {k : EqK} {x y : AVal} {xv yv : Value} {b : Bool} {μ : Map} (hk : cEqK P t = some k) (h : eqA k x y = some b) (hx : VR V μ x xv) (hy : VR V μ y yv) (w : World) :
    (Op.equalIn (d + 1 + 1) t xv yv).run P w = .ok b w := by
  unfold cEqK at hk
  split at hk <;> rename_i hd
  · cases hk
    cases x <;> cases y <;> simp only [eqA] at h <;> first | (simp at h; done) | skip
    rw [VR] at hx; rw [VR] at hy; subst hx; subst hy; cases h
    rw [Op.equalIn, Sem.run_bind, run_underlying hd]; rfl
  · cases hk
    cases x <;> cases y <;> simp only [eqA] at h <;> first | (simp at h; done) | skip
    all_goals
      cases h
      rw [VR] at hx; rw [VR] at hy
      (first | subst hx | obtain ⟨_, _, rfl⟩ := hx)
      (first | subst hy | obtain ⟨_, _, rfl⟩ := hy)
      rw [Op.equalIn, Sem.run_bind, run_underlying hd]; rfl
  · cases hk
    cases x <;> cases y <;> simp only [eqA] at h <;> first | (simp at h; done) | skip
    · cases h
      rw [VR] at hx; rw [VR] at hy; subst hx; subst hy
      rw [Op.equalIn, Sem.run_bind, run_underlying hd]; rfl
    · cases h
      rw [VR] at hx; subst hx
      obtain ⟨_, _, _, _, rfl, _⟩ := VR_slice hy
      rw [Op.equalIn, Sem.run_bind, run_underlying hd]; rfl
    · cases h
      rw [VR] at hy; subst hy
      obtain ⟨_, _, _, _, rfl, _⟩ := VR_slice hx
      rw [Op.equalIn, Sem.run_bind, run_underlying hd]; rfl
  · cases hk
    cases x <;> cases y <;> simp only [eqA] at h <;> first | (simp at h; done) | skip
    all_goals
      cases h
      rw [VR] at hx; rw [VR] at hy
      (first | subst hx | obtain ⟨_, _, rfl⟩ := hx)
      (first | subst hy | obtain ⟨_, _, rfl⟩ := hy)
      rw [Op.equalIn, Sem.run_bind, run_underlying hd]; rfl
  · cases hk
    cases x <;> cases y <;> simp only [eqA] at h <;> first | (simp at h; done) | skip
    all_goals
      cases h
      rw [VR] at hx; rw [VR] at hy
      (first | subst hx | obtain ⟨_, _, rfl, _⟩ := hx)
      (first | subst hy | obtain ⟨_, _, rfl, _⟩ := hy)
      rw [Op.equalIn, Sem.run_bind, run_underlying hd]; rfl
  · rename_i fs
    split at hk
    · simp at hk
    · rename_i hst
      simp only [Bool.or_eq_true, not_or, Bool.not_eq_true] at hst
      simp only [Option.map_eq_some_iff] at hk
      obtain ⟨offs, ho, rfl⟩ := hk
      cases x <;> cases y <;> simp only [eqA] at h <;> first | (simp at h; done) | skip
      rw [VR] at hx; rw [VR] at hy
      obtain ⟨xs, rfl, hx⟩ := hx
      obtain ⟨ys, rfl, hy⟩ := hy
      have hl := struct_loop d xs ys _ _ w hx hy fs.toList offs b ho h
      simp only [Op.equalIn, Sem.run_bind, run_underlying hd, Result.andThen_ok, run_program, hst.1, Bool.false_eq_true, if_false]
      rw [← Array.forIn_toList]
      change ((Sem.run P (forIn fs.toList (none, ()) (eqBody P (d + 1) xs ys)) w).andThen _) = _
      rw [hl]
      cases b <;> rfl
  · rename_i n e
    split at hk
    · rename_i kk i h1 h2
      split at hk
      · rename_i hc
        simp only [Bool.and_eq_true, beq_iff_eq, decide_eq_true_eq] at hc
        cases hk
        cases x <;> cases y <;> simp only [eqA] at h <;> first | (simp at h; done) | skip
        rw [VR] at hx; rw [VR] at hy
        obtain ⟨xs, rfl, hx⟩ := hx
        obtain ⟨ys, rfl, hy⟩ := hy
        have hl := array_loop d e kk h1 xs ys _ _ w hx hy (List.range n) b h
        simp only [Op.equalIn, Sem.run_bind, run_underlying hd, Result.andThen_ok, run_sizeOf' h2, hc.1]
        rw [Std.Legacy.Range.forIn_eq_forIn_range']
        simp only [Std.Legacy.Range.size, Nat.sub_zero, Nat.add_sub_cancel, Nat.div_one, ← List.range_eq_range']
        change ((Sem.run P (forIn (List.range n) (none, ()) (eqBodyA P (d + 1) e 1 xs ys)) w).andThen _) = _
        rw [hl]
        cases b <;> rfl
      · simp at hk
    · simp at hk
  · simp at hk
theorem run_equal {t : TypeId} {k : EqK} {x y : AVal} {xv yv : Value} {b : Bool} {μ : Map} (hk : cEqK P t = some k) (h : eqA k x y = some b) (hx : VR V μ x xv) (hy : VR V μ y yv) (w : World) :
    (Op.equal t xv yv).run P w = .ok b w := run_equalIn 9998 hk h hx hy w
end Go.Ev
