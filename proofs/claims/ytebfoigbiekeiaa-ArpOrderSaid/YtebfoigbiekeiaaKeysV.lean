/-
  slices.AppendSeq(nil, maps.Keys(m)), slices.Collect, maps.Keys at a map whose keys are words of 32 bits.
-/
import Derived.Test.YtebfoigbiekeiaaKeysU
import Derived.Maps.AppendAt
import Derived.Shelf.SlIter.Collect
set_option linter.unusedVariables false
set_option linter.unusedSimpArgs false
namespace Go.Proofs.Ytebfoigbiekeiaa
open Go Go.RowKit Go.Proofs
open Go.ChangeMaps (setBlock)
open Go.Shelf
open Go.Maps (Keyed)

set_option maxRecDepth 100000 in
set_option maxHeartbeats 4000000 in
theorem seqU_walk (n : Nat) (hn : 3 ≤ n) (Bm off b : Nat) (M : List (Int × Value)) (hMl : M.length ≤ 1000) (w : World) (hBm : Bm < w.heap.size) (hm : w.cell? ⟨Bm, off, none⟩ = some (.map (some b))) (hM : MapAt w Try.prog 28 b M) :
    CallsIn Fence.wide n Try.prog 67 #[.slice none 0 0, .func (.func 60) #[] #[.pointer (some ⟨Bm, off, none⟩)]] w fun e w' => Below w.heap.size w w' ∧ ∃ (v : Value) (ss : List Int), e = .returned v ∧ ss.Perm (keysOf M) ∧ w'.ownsRow w.heap.size 28 1 v ss.length (ss.map encU) := by
  refine callsIn_of_wp_marks Try.func67 rfl trivial ?_ rfl
  simp only [Try.ntmps67, List.size_toArray, List.length_cons, List.length_nil, Nat.reduceAdd, Nat.reduceSub, Array.replicate_succ, Array.replicate_zero, List.push_toArray, List.append_toArray, List.nil_append, List.cons_append]
  gi_wp2_with gi_in
  have hB0 : Below w.heap.size w (w.alloc (.cells #[.slice none 0 0] 84)) := (Below.refl _ w).alloc (Nat.le_refl _) _
  refine wpIn_rangeFunc_ownF rfl (by omega) (gf := 60) (lb := #[.pointer (some ⟨Bm, off, none⟩)]) rfl trivial (enters_of Try.func60 (by kernel_rfl) rfl)
    (keysU_stops (n - 1) (by omega) Bm off b M (w.alloc (.cells #[.slice none 0 0] 84)) (by simp; omega) ((hB0.cell (p := ⟨Bm, off, none⟩) hBm).trans hm) (hM.keep (hB0.block b hM.lt))) walksK_t (fun W l o o' _ h1 _ h2 => KeepsWalks.putObj _ h1 h2) (Below.refl _ _) (fun _ => rfl)
    (SeqAt w) (fun _ _ _ => False) (seqAt_own w _ (by simp)) (fun _ _ _ _ _ hs _ _ => hs)
    ⟨⟨_, World.alloc_heap_new w _, ⟨rfl, .inl ⟨rfl, rfl⟩⟩⟩, hB0⟩
    (fun x => { tmps := #[.slice none 0 0, .func (.func 60) #[] #[.pointer (some ⟨Bm, off, none⟩)], .pointer (some ⟨w.heap.size, 0, none⟩), undef, .slice none 0 0, .int .u32 x, .func (.func 60) #[] #[.pointer (some ⟨Bm, off, none⟩)], .int .u32 x, undef, undef, undef, undef, undef], defers := [] }) ?assign ?body ?done ?stop
  case assign =>
    intro l x W K hK
    gi_wp2_with gi_round_op_a
    exact hK
  case body =>
    rintro l pre x W ⟨⟨v, hv, hrow⟩, hB⟩ hlen
    have hc : W.cell? ⟨w.heap.size, 0, none⟩ = some v := by simp [World.cell?, hv]
    have hf : W.frozen? ⟨w.heap.size, 0, none⟩ = false := by simp [World.frozen?, hv]
    have hWl : w.heap.size < W.heap.size := (Array.getElem?_eq_some_iff.1 hv).1
    obtain ⟨i0, hi, hz0, hz1, hz2⟩ := info_parts (P := Try.prog) (e := 28) (z := .int .u32 0) (size := 1) (bytes := 4) (by kernel_rfl)
    have hvb : ∀ q, v.ownBlock = some q → w.heap.size + 1 ≤ q := fun q hq => (World.ownsRow.lt hrow q hq).1
    gi_wp2_with (first | (gi_at_builtin; refine hold ?_) | gi_round_op_a)
    refine hid ?_
    refine wpListIn_append_own _ rfl _ _ 84 rfl (w.heap.size + 1) 28 i0 (.int .u32 0) 1 4 Try.underlying84 hi hz0 hz1 hz2 rfl (by decide) _ _ _ rfl (hrow.alloc _) ⟨W.heap.size, 0, none⟩ 1 1 [.int .u32 x] rfl rfl (cell_one_new _ _ _) (by simp [Value.oneCell']) (by unfold maxLen; omega) (by omega) (by simp; omega) ?_
    intro v' w3 hown' hg3 hnil3
    have hv3 : w3.heap[w.heap.size]? = some (.cells #[v] 84 (0, 0)) := (hg3.block w.heap.size (by simp; omega) (fun e => by have := hvb _ e.symm; omega)).trans ((Below.heap_alloc _ _ _ hWl).trans hv)
    have hc3 : w3.cell? ⟨w.heap.size, 0, none⟩ = some v := by simp [World.cell?, hv3]
    have hf3 : w3.frozen? ⟨w.heap.size, 0, none⟩ = false := by simp [World.frozen?, hv3]
    have hk3 : KeepsOthers W w3 := (KeepsOthers.alloc W _).trans (KeepsOthers.of_grownBy hg3 (fun j o e1 e2 => by
      rcases (hrow.alloc (.cells #[.int .u32 x] 28)).2 with ⟨rfl, _⟩ | ⟨g1, c1, cur1, rfl, _, hh, _⟩
      · cases e1
      · injection e1 with e1
        subst e1
        rw [hh] at e2
        injection e2 with e2
        subst e2
        rfl))
    obtain ⟨g', cap', cur', rfl, hbase', hgb', hr1, hr2, hr3, hr4⟩ : ∃ g' cap' cur', v' = .slice (some ⟨g', 0, none⟩) (pre.length + 1) cap' ∧ w.heap.size + 1 ≤ g' ∧ w3.heap[g']? = some (.cells cur' 28 (0, 0)) ∧ pre.length + 1 ≤ cap' ∧ cap' ≤ maxLen ∧ cur'.size = cap' * 1 ∧ cur'.toList.take ((pre.length + 1) * 1) = pre.map encU ++ [encU x] := by
      rcases hown'.2 with ⟨_, h0⟩ | h'
      · exact absurd h0 (by omega)
      · exact h'
    have hb3 : Below w.heap.size w w3 := (hB.alloc hB.size _).grown hg3 (by have := hB.size; simp; omega) (fun k e => by have := hvb k e; omega)
    gi_wp2_with gi_round_op_a
    have hk4 := hk3.trans (KeepsOthers.setCell w3 ⟨w.heap.size, 0, none⟩ (.slice (some ⟨g', 0, none⟩) (pre.length + 1) cap'))
    refine ⟨hk4, hk4.walks, ⟨⟨_, Shelf.heap_setCell_box_b hv3, ?_⟩, hb3.setCell (Nat.le_refl _) _⟩⟩
    have hne : w.heap.size ≠ g' := by omega
    exact ⟨by simp, .inr ⟨g', cap', cur', by simp, hbase', (Below.heap_setCell _ _ _ _ (Ne.symm hne)).trans hgb', by simpa using hr1, hr2, hr3, by simpa using hr4⟩⟩
  case done =>
    rintro D ys W hD hS ⟨⟨v, hv, hrow⟩, hB⟩ hK
    have hc : W.cell? ⟨w.heap.size, 0, none⟩ = some v := by simp [World.cell?, hv]
    have hWl : w.heap.size < W.heap.size := (Array.getElem?_eq_some_iff.1 hv).1
    gi_wp2
    refine ⟨by simp, .inl ⟨_, _, rfl, run_takeDeferred hK, ?_⟩⟩
    refine ⟨_, results_tmp rfl _ _ _, hB.trans (belowK_b (w := w) (Nat.le_refl _) W D _ _ (by simp at hD; omega) hK rfl rfl), v, ys, rfl, hS, ?_⟩
    rcases hrow.2 with ⟨rfl, h0⟩ | ⟨g, cap, cur, rfl, q1, q2, q3⟩
    · exact ⟨hrow.1, .inl ⟨rfl, h0⟩⟩
    · have hne : g ≠ D := fun e => by subst e; rw [hK] at q2; cases q2
      exact ⟨hrow.1, .inr ⟨g, cap, cur, rfl, by omega, (World.putObj_heap_other hne).trans q2, q3⟩⟩
  case stop =>
    rintro D c pre W _ _ h _
    exact h.elim
end Go.Proofs.Ytebfoigbiekeiaa
