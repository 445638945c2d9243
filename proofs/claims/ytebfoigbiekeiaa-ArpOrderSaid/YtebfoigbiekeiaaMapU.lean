/-
  MAPS WHOSE KEYS ARE WORDS OF 32 BITS, whatever their values, as lists that rise by their keys: looked up, written, struck, counted. It speaks of no program.
-/
import Derived.Test.YtebfoigbiekeiaaU
import Derived.Maps.OwnSet
import Derived.Maps.RangeWalk
set_option linter.unusedVariables false
set_option linter.unusedSimpArgs false
namespace Go.Proofs.Ytebfoigbiekeiaa
open Go.RowKit
open Go.Maps (Keyed)

/-- A reader that takes a value as it is. -/
def Hv (v : Value) : Option (DataW Value × List MemPlace) := some (.held v, [])
theorem Hv.inv {v u : Value} {ps : List MemPlace} (h : Hv v = some (.held u, ps)) : v = u := by
  unfold Hv at h
  simp only [Option.some.injEq, Prod.mk.injEq, DataW.held.injEq] at h
  exact h.1
def kv (M : List (Int × Value)) : List (Lit × DataW Value) := M.map fun p => (.int .u32 p.1, .held p.2)
def lookK {α : Type} (k : Int) : List (Int × α) → Option α
  | [] => none
  | (a, x) :: r => if a = k then some x else lookK k r
def delK {α : Type} (k : Int) : List (Int × α) → List (Int × α)
  | [] => []
  | (a, x) :: r => if a = k then delK k r else (a, x) :: delK k r
def insK {α : Type} (k : Int) (x : α) : List (Int × α) → List (Int × α)
  | [] => [(k, x)]
  | (a, y) :: r => if k < a then (k, x) :: (a, y) :: r else (a, y) :: insK k x r
def putK {α : Type} (k : Int) (x : α) (M : List (Int × α)) : List (Int × α) := insK k x (delK k M)
/-- The keys rise. -/
def Rising {α : Type} (M : List (Int × α)) : Prop := M.Pairwise fun p q => p.1 < q.1
theorem sk_u32 (a k : Int) : (Lit.int IntKind.u32 a).sameKey (.int .u32 k) = decide (a = k) := by simp [Lit.sameKey]
theorem kv_ins (k : Int) (x : Value) : ∀ M, kv (insK k x M) = DataW.insert (.int .u32 k, .held x) (kv M)
  | [] => rfl
  | (a, y) :: r => by
    simp only [insK, kv, List.map_cons, DataW.insert, Lit.before]
    by_cases h : k < a
    · simp [h]
    · have := kv_ins k x r
      simp only [kv] at this
      simp [h, this]
theorem kv_del (k : Int) : ∀ M, kv (delK k M) = (kv M).filter fun p => !p.1.sameKey (.int .u32 k)
  | [] => rfl
  | (a, y) :: r => by
    have := kv_del k r
    simp only [kv] at this
    simp only [delK, kv, List.map_cons, List.filter_cons, sk_u32]
    by_cases h : a = k
    · simp [h, this]
    · simp [h, this]
theorem kv_put (k : Int) (x : Value) (M : List (Int × Value)) : (DataW.map (kv M)).put (.int .u32 k) (.held x) = .map (kv (putK k x M)) := by
  simp only [DataW.put, putK, kv_ins, kv_del]
theorem kv_strike (k : Int) (M : List (Int × Value)) : (DataW.map (kv M)).del (.int .u32 k) = .map (kv (delK k M)) := by
  simp only [DataW.del, kv_del]
theorem kv_has (k : Int) : ∀ M, Maps.has (DataW.map (kv M)) (.int .u32 k) = (lookK k M).isSome
  | [] => rfl
  | (a, y) :: r => by
    have := kv_has k r
    simp only [Maps.has_eq, kv] at this
    simp only [Maps.has_eq, kv, List.map_cons, List.any_cons, lookK, sk_u32]
    by_cases h : a = k
    · simp [h]
    · simp [h, this]
theorem kv_at (k : Int) (z : Value) : ∀ M, (DataW.map (kv M)).atKey (.int .u32 k) (.held z) = .held ((lookK k M).getD z)
  | [] => rfl
  | (a, y) :: r => by
    have := kv_at k z r
    simp only [DataW.atKey, kv] at this
    simp only [DataW.atKey, kv, List.map_cons, List.find?_cons, lookK, sk_u32]
    by_cases h : a = k
    · simp [h]
    · rw [decide_eq_false h, if_neg h]
      exact this
theorem kv_size (M : List (Int × Value)) : Maps.size (DataW.map (kv M)) = M.length := by simp [Maps.size_eq, kv]
theorem mem_delK {α : Type} {k : Int} {p : Int × α} : ∀ {M : List (Int × α)}, p ∈ delK k M ↔ p ∈ M ∧ p.1 ≠ k
  | [] => by simp [delK]
  | (a, x) :: r => by
    simp only [delK]
    by_cases h : a = k
    · rw [if_pos h, mem_delK, List.mem_cons]
      constructor
      · rintro ⟨h1, h2⟩; exact ⟨.inr h1, h2⟩
      · rintro ⟨rfl | h1, h2⟩
        · exact absurd h h2
        · exact ⟨h1, h2⟩
    · rw [if_neg h, List.mem_cons, mem_delK, List.mem_cons]
      constructor
      · rintro (rfl | ⟨h1, h2⟩)
        · exact ⟨.inl rfl, h⟩
        · exact ⟨.inr h1, h2⟩
      · rintro ⟨rfl | h1, h2⟩
        · exact .inl rfl
        · exact .inr ⟨h1, h2⟩
theorem mem_insK {α : Type} {k : Int} {x : α} {p : Int × α} : ∀ {M : List (Int × α)}, p ∈ insK k x M ↔ p = (k, x) ∨ p ∈ M
  | [] => by simp [insK]
  | (a, y) :: r => by
    simp only [insK]
    by_cases h : k < a
    · rw [if_pos h, List.mem_cons]
    · rw [if_neg h, List.mem_cons, mem_insK, List.mem_cons]
      constructor
      · rintro (h1 | h1 | h1)
        · exact .inr (.inl h1)
        · exact .inl h1
        · exact .inr (.inr h1)
      · rintro (h1 | h1 | h1)
        · exact .inr (.inl h1)
        · exact .inl h1
        · exact .inr (.inr h1)
theorem mem_putK {α : Type} {k : Int} {x : α} {p : Int × α} {M : List (Int × α)} : p ∈ putK k x M ↔ p = (k, x) ∨ (p ∈ M ∧ p.1 ≠ k) := by
  unfold putK; rw [mem_insK, mem_delK]
theorem Rising.del {α : Type} {k : Int} : ∀ {M : List (Int × α)}, Rising M → Rising (delK k M)
  | [], _ => List.Pairwise.nil
  | (a, x) :: r, h => by
    obtain ⟨h1, h2⟩ := List.pairwise_cons.1 h
    simp only [delK]
    by_cases e : a = k
    · rw [if_pos e]; exact Rising.del h2
    · rw [if_neg e]; exact List.pairwise_cons.2 ⟨fun p hp => h1 p (mem_delK.1 hp).1, Rising.del h2⟩
theorem Rising.ins {α : Type} {k : Int} {x : α} : ∀ {M : List (Int × α)}, Rising M → (∀ p ∈ M, p.1 ≠ k) → Rising (insK k x M)
  | [], _, _ => List.pairwise_singleton _ _
  | (a, y) :: r, h, hn => by
    obtain ⟨h1, h2⟩ := List.pairwise_cons.1 h
    simp only [insK]
    by_cases e : k < a
    · rw [if_pos e]
      refine List.pairwise_cons.2 ⟨fun p hp => ?_, h⟩
      rcases List.mem_cons.1 hp with rfl | hp
      · exact e
      · exact Int.lt_trans e (h1 p hp)
    · rw [if_neg e]
      have hne : a ≠ k := hn _ (List.mem_cons_self ..)
      refine List.pairwise_cons.2 ⟨fun p hp => ?_, Rising.ins h2 fun p hp => hn p (List.mem_cons_of_mem _ hp)⟩
      rcases mem_insK.1 hp with rfl | hp
      · show a < k; omega
      · exact h1 p hp
theorem Rising.put {α : Type} {k : Int} {x : α} {M : List (Int × α)} (h : Rising M) : Rising (putK k x M) := Rising.ins h.del fun p hp => (mem_delK.1 hp).2
theorem lookK_none {α : Type} {k : Int} : ∀ {M : List (Int × α)}, lookK k M = none ↔ ∀ p ∈ M, p.1 ≠ k
  | [] => by simp [lookK]
  | (a, x) :: r => by
    simp only [lookK]
    by_cases h : a = k
    · rw [if_pos h]
      simp only [reduceCtorEq, false_iff]
      exact fun hh => hh _ (List.mem_cons_self ..) h
    · rw [if_neg h, lookK_none]
      constructor
      · intro hh p hp
        rcases List.mem_cons.1 hp with rfl | hp
        · exact h
        · exact hh p hp
      · exact fun hh p hp => hh p (List.mem_cons_of_mem _ hp)
theorem lookK_some {α : Type} {k : Int} {x : α} : ∀ {M : List (Int × α)}, lookK k M = some x → (k, x) ∈ M
  | (a, y) :: r, h => by
    simp only [lookK] at h
    by_cases e : a = k
    · rw [if_pos e] at h
      injection h with h
      subst e h
      exact List.mem_cons_self ..
    · rw [if_neg e] at h
      exact List.mem_cons_of_mem _ (lookK_some h)
theorem lookK_of_mem {α : Type} {k : Int} {x : α} : ∀ {M : List (Int × α)}, Rising M → (k, x) ∈ M → lookK k M = some x
  | (a, y) :: r, h, hm => by
    obtain ⟨h1, h2⟩ := List.pairwise_cons.1 h
    simp only [lookK]
    rcases List.mem_cons.1 hm with e | hm
    · injection e with e1 e2
      subst e1 e2
      rw [if_pos rfl]
    · have := h1 _ hm
      rw [if_neg (by simp only at this; omega)]
      exact lookK_of_mem h2 hm
theorem delK_len {α : Type} {k : Int} : ∀ M : List (Int × α), Rising M → (delK k M).length + (if (lookK k M).isSome then 1 else 0) = M.length
  | [], _ => rfl
  | (a, x) :: r, h => by
    obtain ⟨h1, h2⟩ := List.pairwise_cons.1 h
    have ih := delK_len (k := k) r h2
    by_cases e : a = k
    · have hn : lookK k r = none := lookK_none.2 fun p hp => by have := h1 p hp; simp only at this; omega
      have hd : delK k ((a, x) :: r) = delK k r := by simp [delK, e]
      have hl : lookK k ((a, x) :: r) = some x := by simp [lookK, e]
      rw [hd]
      simp [hn] at ih
      simp [hl, ih]
    · have hd : delK k ((a, x) :: r) = (a, x) :: delK k r := by simp [delK, e]
      have hl : lookK k ((a, x) :: r) = lookK k r := by simp [lookK, e]
      simp only [hd, hl, List.length_cons]
      omega
theorem insK_len {α : Type} {k : Int} {x : α} : ∀ M : List (Int × α), (insK k x M).length = M.length + 1
  | [] => rfl
  | (a, y) :: r => by
    simp only [insK]
    by_cases e : k < a
    · rw [if_pos e]; rfl
    · rw [if_neg e, List.length_cons, insK_len r, List.length_cons]
theorem putK_len {α : Type} {k : Int} {x : α} (M : List (Int × α)) (h : Rising M) : (putK k x M).length = if (lookK k M).isSome then M.length else M.length + 1 := by
  have := delK_len (k := k) M h
  unfold putK
  rw [insK_len]
  by_cases e : (lookK k M).isSome = true
  · rw [if_pos e] at this ⊢; omega
  · rw [if_neg e] at this ⊢; omega

/-- Block b is a map of M. -/
def MapAt (w : World) (P : Program) (k : TypeId) (b : Nat) (M : List (Int × Value)) : Prop := w.ownsMap P k Hv b M.length (.map (kv M)) ∧ Rising M ∧ ∀ p ∈ M, 0 ≤ p.1 ∧ p.1 < 4294967296
theorem ownsMap_exact {w : World} {P : Program} {k : TypeId} {b n : Nat} {M : List (Int × Value)} (h : w.ownsMap P k Hv b n (.map (kv M))) : w.ownsMap P k Hv b M.length (.map (kv M)) := by
  obtain ⟨es, clock, h1, h2, h3, h4⟩ := h
  refine ⟨es, clock, h1, h2, ?_, h4⟩
  injection h4 with h4
  have e := congrArg List.length h4
  rw [Go.length_sorted] at e
  simp [kv] at e
  omega
theorem MapAt.new (w : World) (P : Program) (k : TypeId) : MapAt (w.alloc (.map #[] 0)) P k w.heap.size [] := ⟨World.ownsMap_made w P k Hv, List.Pairwise.nil, fun p hp => by simp at hp⟩
theorem MapAt.lt {w : World} {P : Program} {k : TypeId} {b : Nat} {M : List (Int × Value)} (h : MapAt w P k b M) : b < w.heap.size := h.1.lt
theorem MapAt.keep {w w' : World} {P : Program} {k : TypeId} {b : Nat} {M : List (Int × Value)} (h : MapAt w P k b M) (hb : w'.heap[b]? = w.heap[b]?) : MapAt w' P k b M := by
  obtain ⟨es, clock, h1, h2, h3, h4⟩ := h.1
  exact ⟨⟨es, clock, hb.trans h1, h2, h3, h4⟩, h.2⟩
theorem key_u32 {P : Program} {k : TypeId} (hk : P.underlying k = some (.int .u32)) {x : Int} (hx : 0 ≤ x ∧ x < 4294967296) : keyOf P k (.int .u32 x) = some (.int .u32 x) :=
  Maps.keyOf_int_mk hk (by simp [Lit.wf, IntKind.min, IntKind.max, IntKind.signed, IntKind.bits]; omega)
/-- m[x], with and without the word whether it is there. -/
theorem MapAt.look {w : World} {P : Program} {k : TypeId} {b : Nat} {M : List (Int × Value)} (h : MapAt w P k b M) {t e : TypeId} (hk : P.underlying k = some (.int .u32)) (ht : P.underlying t = some (.map k e)) {z : Value} (hz : (zeroValue e).run P w = .ok z w) {x : Int} (hx : 0 ≤ x ∧ x < 4294967296) :
    (Instr.lookup t (.map (some b)) (.int .u32 x) true).run P w = .ok (.tuple #[(lookK x M).getD z, .bool (lookK x M).isSome]) w := by
  obtain ⟨v, ps, hr, hv⟩ := h.1.look_ok (Maps.int_keyed hk) ht hz (zd := .held z) (zp := []) rfl (key_u32 hk hx)
  rw [kv_at] at hv
  rw [Hv.inv hv, kv_has] at hr
  exact hr
theorem MapAt.look1 {w : World} {P : Program} {k : TypeId} {b : Nat} {M : List (Int × Value)} (h : MapAt w P k b M) {t e : TypeId} (hk : P.underlying k = some (.int .u32)) (ht : P.underlying t = some (.map k e)) {z : Value} (hz : (zeroValue e).run P w = .ok z w) {x : Int} (hx : 0 ≤ x ∧ x < 4294967296) :
    (Instr.lookup t (.map (some b)) (.int .u32 x) false).run P w = .ok ((lookK x M).getD z) w := by
  obtain ⟨v, ps, hr, hv⟩ := h.1.lookup (Maps.int_keyed hk) ht hz (zd := .held z) (zp := []) rfl (key_u32 hk hx)
  rw [kv_at] at hv
  rw [Hv.inv hv] at hr
  exact hr
theorem MapAt.put {w : World} {P : Program} {k : TypeId} {b : Nat} {M : List (Int × Value)} (h : MapAt w P k b M) {t e : TypeId} (hk : P.underlying k = some (.int .u32)) (ht : P.underlying t = some (.map k e)) (hn : M.length < maxLen) {x : Int} (hx : 0 ≤ x ∧ x < 4294967296) (v : Value) :
    ∃ w', (Instr.mapUpdate t (.map (some b)) (.int .u32 x) v).run P w = .ok () w' ∧ MapAt w' P k b (putK x v M) ∧ w.grownBy w' (some b) := by
  obtain ⟨w', hr, ho, hg⟩ := h.1.store (Maps.int_keyed hk) ht hn (key_u32 hk hx) (show Hv v = some (.held v, []) from rfl)
  rw [kv_put] at ho
  refine ⟨w', hr, ⟨ownsMap_exact ho, h.2.1.put, fun p hp => ?_⟩, hg.grown⟩
  rcases mem_putK.1 hp with rfl | ⟨hp, _⟩
  · exact hx
  · exact h.2.2 p hp
theorem MapAt.strike {w : World} {P : Program} {k : TypeId} {b : Nat} {M : List (Int × Value)} (h : MapAt w P k b M) {t e : TypeId} (hk : P.underlying k = some (.int .u32)) (ht : P.underlying t = some (.map k e)) {x : Int} (hx : 0 ≤ x ∧ x < 4294967296) (ty : TypeId) :
    ∃ w', (Builtin.delete_ #[t, k] ty #[.map (some b), .int .u32 x]).run P w = .ok (.tuple #[]) w' ∧ MapAt w' P k b (delK x M) ∧ w.grownBy w' (some b) := by
  obtain ⟨w', hr, ho, hg⟩ := h.1.drop (Maps.int_keyed hk) ht (key_u32 hk hx) ty
  rw [kv_strike] at ho
  exact ⟨w', hr, ⟨ownsMap_exact ho, h.2.1.del, fun p hp => h.2.2 p (mem_delK.1 hp).1⟩, hg.grown⟩
theorem MapAt.count {w : World} {P : Program} {k : TypeId} {b : Nat} {M : List (Int × Value)} (h : MapAt w P k b M) {t e : TypeId} (ht : P.underlying t = some (.map k e)) (ty : TypeId) : (Builtin.len_ #[t] ty #[.map (some b)]).run P w = .ok (.int .i64 M.length) w := by
  rw [h.1.len ht ty, kv_size]
end Go.Proofs.Ytebfoigbiekeiaa
