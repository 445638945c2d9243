/-
  'append(s, make([]T, m)...)' to the call's own row of whole numbers: m zeros come behind. It speaks of no program.
-/
import Derived.Test.YtaieajfgcnaedaaDoorApp2
import Derived.Lib.AppendZerosOnto
import Derived.Laws.CopyRow
set_option linter.unusedVariables false
set_option linter.unusedSimpArgs false
namespace Go.Proofs.YtaieajfgcnaedaaDoor
open Go.RowKit

theorem zeroCells_one (k : IntKind) (m : Nat) : Builtin.zeroCells (Value.int k 0).cells m = (List.replicate m (Value.int k 0)).toArray := by
  have e : (Value.int k 0).cells = #[Value.int k 0] := rfl
  apply Array.ext
  · simp [Builtin.zeroCells, e]
  · intro i h1 h2
    simp [Builtin.zeroCells, e, Nat.mod_one]
theorem run_app0 {P : Program} (w : World) (base : Nat) (t tn ty e : TypeId) (k kq kn : IntKind) (bytes : Nat) (hE : Elem P t e k bytes) (htn : P.underlying tn = some (.int kn))
    (v : Value) (xs : List Int) (hown : Own w base e k v xs) (m : Nat) (h63 : xs.length + m ≤ maxLen) (hbytes : (xs.length + m) * bytes ≤ 140737488355328) (hbase : base ≤ w.heap.size) :
    ∃ v' w', (Builtin.append_ #[t, tn] ty #[v, .int kq m]).run P w = .ok v' w' ∧ Own w' base e k v' (xs ++ List.replicate m 0) ∧ w.grownBy w' v.ownBlock ∧ (∀ g, v'.ownBlock = some g → v.ownBlock = some g ∨ w.heap.size ≤ g) := by
  obtain ⟨ht, i, hi, hz, hsize, hby⟩ := hE
  subst hby
  have hm48 : m * i.bytes ≤ 281474976710656 := by
    have : m * i.bytes ≤ (xs.length + m) * i.bytes := Nat.mul_le_mul_right _ (by omega)
    omega
  have hmm : maxLen = 4611686018427387904 ∨ maxLen ≤ 9223372036854775807 := .inr (by simp [maxLen])
  have hsmall : ((xs.length + m : Nat) : Int) ≤ 9223372036854775807 := by simp only [maxLen] at h63; omega
  have hw : IntKind.i64.wrap (m : Int) = m := by rw [IntKind.wrap_i64]; omega
  have hneg : ¬ ((m : Int) < 0) := by omega
  have h48i : ¬ (281474976710656 < (m : Int) * (i.bytes : Int)) := by
    rw [← Int.natCast_mul]
    omega
  have hz0 := zeroCells_one k
  have hlen : (xs ++ List.replicate m 0).length = xs.length + m := by simp
  have grown : ∀ (old : Nat) (cs : Array Value), cs.toList = xs.map (Value.int k) → old < xs.length + m → ∀ (row : Option Nat),
      Own (w.drew.alloc (.cells (cs ++ Builtin.zeroCells (Value.int k 0).cells m ++ Builtin.zeroCells (Value.int k 0).cells (grownCap w (xs.length + m) old e - (xs.length + m))) e)) base e k
        (.slice (some ⟨w.heap.size, 0, none⟩) (xs.length + m) (grownCap w (xs.length + m) old e)) (xs ++ List.replicate m 0) ∧
      w.grownBy (w.drew.alloc (.cells (cs ++ Builtin.zeroCells (Value.int k 0).cells m ++ Builtin.zeroCells (Value.int k 0).cells (grownCap w (xs.length + m) old e - (xs.length + m))) e)) row := by
    intro old cs hcs ho row
    have hge := grownCap_ge w (xs.length + m) old e
    have hcm : grownCap w (xs.length + m) old e ≤ maxLen := grownCap_le_maxLen w (xs.length + m) old e h63
    have hcl : cs.size = xs.length := by rw [← Array.length_toList, hcs, List.length_map]
    refine ⟨⟨by simp, .inr ⟨w.heap.size, _, _, by rw [hlen], hbase, heap_alloc_new w.drew _, by rw [hlen]; exact hge, hcm, ?_, ?_⟩⟩, ⟨rfl, rfl, rfl, by simp, fun q hq _ => heap_alloc_old w.drew _ hq⟩⟩
    · rw [hz0, hz0]
      simp [hcl]; omega
    · rw [hz0, hz0, hlen]
      simp only [Array.toList_append, List.append_assoc, hcs, List.map_append, List.map_replicate]
      rw [← List.append_assoc]
      exact List.take_left' (by simp)
  rcases hown.2 with ⟨rfl, h0⟩ | ⟨g, cap, cur, rfl, hbg, hg, hnc, hcm, hcs, htake⟩
  · have hx : xs = [] := List.eq_nil_of_length_eq_zero h0
    subst hx
    by_cases hm : m = 0
    · subst hm
      refine ⟨.slice none 0 0, w, ?_, Own.nil _ _ _ _, World.grownBy.refl _ _, fun g hg => by cases hg⟩
      simp [Builtin.append_, run_underlying ht, run_underlying htn, sizeOf, typeInfo, hi, asInt, asIntOf, show IntKind.i64.wrap 0 = 0 by rw [IntKind.wrap_i64]; rfl]
    · have hr := Lib.run_append_nil_zeros (P := P) w t tn ty e i (.int k 0) kq kn ht htn hi hz m (by omega) (by omega) (by simpa using hsmall) hm48
      have hgr := grown 0 #[] rfl (by simp; omega) (Value.ownBlock (.slice none 0 0))
      simp only [List.length_nil, Nat.zero_add, List.nil_append, Array.empty_append] at hgr ⊢
      exact ⟨_, _, hr, hgr.1, hgr.2, fun g hg => .inr (Nat.le_of_eq (Option.some.inj hg))⟩
  · have hold := World.ownsRow.cells (g := g) hown rfl
    by_cases hroom : xs.length + m ≤ cap
    · have hst := run_storeCells_at P g (xs.length) e (List.replicate m (Value.int k 0)) 0 cur w hg (by rw [hcs]; simp; omega) (fun u hu => by rw [List.eq_of_mem_replicate hu]; rfl)
      simp only [Nat.add_zero] at hst
      have hcl : cur.toList.length = cap := by rw [Array.length_toList, hcs, Nat.mul_one]
      have hT : cur.toList.take xs.length = xs.map (Value.int k) := by simpa using htake
      have key : (Builtin.append_ #[t, tn] ty #[.slice (some ⟨g, 0, none⟩) xs.length cap, .int kq m]).run P w = .ok (.slice (some ⟨g, 0, none⟩) (xs.length + m) cap) (w.setRow g (cur.toList.take xs.length ++ List.replicate m (Value.int k 0) ++ cur.toList.drop (xs.length + (List.replicate m (Value.int k 0)).length)).toArray) := by
        by_cases hm : m = 0
        · subst hm
          simp only [List.replicate_zero, List.append_nil, List.length_nil, Nat.add_zero, List.take_append_drop, Array.toArray_toList] at hst ⊢
          rw [setRow_self w g cur e (0, 0) hg]
          simp [Builtin.append_, run_underlying ht, run_underlying htn, sizeOf, typeInfo, hi, hsize, asInt, asIntOf, show IntKind.i64.wrap 0 = 0 by rw [IntKind.wrap_i64]; rfl, hnc, Addr.add_lit, storeCells]
        · have hns : ¬ (m * i.size = 0) := Nat.mul_ne_zero hm (by omega)
          simp [Builtin.append_, run_underlying ht, run_underlying htn, sizeOf, typeInfo, zeroValue, hi, hz, hz0, hsize, asInt, asIntOf, hw, hneg, hns, h48i, hm, hroom, Addr.add_lit]
          simp at hst
          rw [hst]
          rfl
      refine ⟨.slice (some ⟨g, 0, none⟩) (xs.length + m) cap, _, key, ⟨by simp, .inr ⟨g, cap, _, by rw [hlen], hbg, setRow_heap w g cur _ e _ hg, by rw [hlen]; exact hroom, hcm, ?_, ?_⟩⟩, ⟨rfl, rfl, rfl, by simp, fun k _ hk => setRow_other w g k _ (fun e => hk (by simp [Value.ownBlock, e]))⟩, fun g' hg' => .inl hg'⟩
      · simp only [List.size_toArray, List.length_append, List.length_take, List.length_drop, hcl, List.length_replicate]
        omega
      · rw [hlen]
        simp only [List.map_append, List.map_replicate, hT, Nat.mul_one]
        rw [List.append_assoc, ← List.append_assoc]
        exact List.take_left' (by simp)
    · have hr := Lib.run_append_grow_zeros (P := P) w t tn ty e i (.int k 0) kq kn ht htn hi hz (some ⟨g, 0, none⟩) xs.length cap (xs.map (Value.int k)) (run_firstCells_some w.drew i.size xs.length _ _ _ _ (by simp [hsize]) hold) m (by omega) (by omega) (by omega) hsmall hm48 (growslice_fits (by omega) hbytes)
      have hgr := grown cap (xs.map (Value.int k)).toArray rfl (by omega) (Value.ownBlock (.slice (some ⟨g, 0, none⟩) xs.length cap))
      exact ⟨_, _, hr, hgr.1, hgr.2, fun g' hg' => .inr (Nat.le_of_eq (Option.some.inj hg'))⟩

theorem wpList_app0 {P : Program} {w : World} {ops : Array Oper} {rest : List Oper} {o : Oper} {a : Act} {Q : Exit → Act → World → Prop} (hw : Region.wanted o (yielded ops a.tmps) = true) (s x : Operand) (t tn e : TypeId) (k kq kn : IntKind) (bytes : Nat)
    (ho : o.op = .call { callee := .builtin .append, args := #[s, x], argTypes := #[t, tn] }) (hE : Elem P t e k bytes) (htn : P.underlying tn = some (.int kn)) (base : Nat)
    (v : Value) (xs : List Int) (hs : a.eval s = v) (hown : Own w base e k v xs) (m : Nat) (hx : a.eval x = .int kq m)
    (hbytes : (xs.length + m) * bytes ≤ 140737488355328) (h63 : xs.length + m ≤ maxLen) (hbase : base ≤ w.heap.size)
    (h : ∀ v' w', Own w' base e k v' (xs ++ List.replicate m 0) → w.grownBy w' v.ownBlock → (∀ g, v'.ownBlock = some g → v.ownBlock = some g ∨ w.heap.size ≤ g) → wpList P ops Q rest (a.put o.dst v') w') : wpList P ops Q (o :: rest) a w :=
  BigFrame.wpList_want hw fun _ hK => by
    obtain ⟨v', w', hr, h1, h2, h3⟩ := run_app0 w base t tn o.type e k kq kn bytes hE htn v xs hown m h63 hbytes hbase
    exact Lib.wp_append_run w s x t tn ho v (.int kq m) hs hx v' w' hr (hK _ _ (h v' w' h1 h2 h3))
end Go.Proofs.YtaieajfgcnaedaaDoor
