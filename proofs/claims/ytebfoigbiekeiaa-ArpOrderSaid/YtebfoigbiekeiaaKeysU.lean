/-
  slices.AppendSeq(nil, maps.Keys(m)) at a map whose keys are words of 32 bits: its keys, each once, in some order.
-/
import Derived.Test.YtebfoigbiekeiaaMapU
import Derived.Test.YtebfoigbiekeiaaApp
import Derived.RangeFuncFrom
import Derived.RangeFuncLeaves
import Derived.Shelf.Abstract
import Derived.Sort.MapsRangeIn
import Derived.WalkKit
import Derived.OwnWalkIn
import Derived.TacticsInMore
import Derived.RegionIn
import Derived.LoopNIn
import Derived.LoopIn
import Derived.Test.YtebfoigbiekeiaaProg
set_option linter.unusedVariables false
set_option linter.unusedSimpArgs false
namespace Go.Proofs.Ytebfoigbiekeiaa
open Go Go.RowKit Go.Proofs
open Go.ChangeMaps (setBlock)
open Go.Shelf
open Go.Maps (Keyed)

def encU (x : Int) : Value := .int .u32 x
theorem encU_inj {x y : Int} (h : encU x = encU y) : x = y := by simpa [encU] using h
def keysOf (M : List (Int × Value)) : List Int := M.map (·.1)
def CollectedU (M : List (Int × Value)) (left : Lit → Bool) (ss : List Int) : Prop := ss.Nodup ∧ ∀ x, x ∈ ss ↔ ((lookK x M).isSome = true ∧ left (.int .u32 x) = false)
theorem CollectedU.start (M : List (Int × Value)) : CollectedU M (Maps.has (DataW.map (kv M))) [] := ⟨List.nodup_nil, fun x => by rw [kv_has]; cases (lookK x M).isSome <;> simp⟩
theorem CollectedU.step {M : List (Int × Value)} {left : Lit → Bool} {ss : List Int} (h : CollectedU M left ss) {x : Int} (hlk : left (.int .u32 x) = true) (hh : (lookK x M).isSome = true) : CollectedU M (fun z => left z && !z.sameKey (.int .u32 x)) (ss ++ [x]) := by
  have hnew : x ∉ ss := fun hx => by have := ((h.2 x).1 hx).2; rw [hlk] at this; cases this
  refine ⟨List.nodup_append.2 ⟨h.1, by simp, fun a ha b hb => by simp at hb; subst hb; exact fun e => hnew (e ▸ ha)⟩, fun y => ?_⟩
  by_cases hy : y = x
  · subst hy; simp [hh, Lit.sameKey]
  · simp [h.2 y, hy, Lit.sameKey]
theorem keysOf_nodup {M : List (Int × Value)} (h : Rising M) : (keysOf M).Nodup := by
  unfold keysOf
  rw [List.nodup_iff_pairwise_ne, List.pairwise_map]
  exact h.imp fun hlt => by omega
theorem mem_keysOf {M : List (Int × Value)} {x : Int} : x ∈ keysOf M ↔ (lookK x M).isSome = true := by
  unfold keysOf
  constructor
  · intro h
    obtain ⟨p, hp, rfl⟩ := List.mem_map.1 h
    cases hl : lookK p.1 M with
    | some _ => rfl
    | none => exact absurd rfl (lookK_none.1 hl p hp)
  · intro h
    obtain ⟨v, hv⟩ := Option.isSome_iff_exists.1 h
    exact List.mem_map.2 ⟨_, lookK_some hv, rfl⟩
theorem CollectedU.perm {M : List (Int × Value)} {left : Lit → Bool} {ss : List Int} (h : CollectedU M left ss) (hr : Rising M) (hl : ∀ kl, left kl = false) : ss.Perm (keysOf M) :=
  (List.perm_ext_iff_of_nodup h.1 (keysOf_nodup hr)).2 fun x => by rw [h.2 x, hl, mem_keysOf]; simp
set_option maxRecDepth 100000 in
set_option maxHeartbeats 2000000 in
theorem keysU_in (n : Nat) (hn : 1 ≤ n) (l Bm off b : Nat) (M : List (Int × Value)) (J Jx : List Int → World → Prop) (W : World) (hJ : AbidesFrom W.heap.size J)
    (hY : ∀ pre x W1, J pre W1 → pre.length < M.length → YieldAt Fence.wide (n - 1) Try.prog l #[.int .u32 x] W1 fun e W' => (e = .returned (.bool true) ∧ J (pre ++ [x]) W' ∧ KeepsWalks W1 W') ∨ (e = .returned (.bool false) ∧ Jx (pre ++ [x]) W'))
    (hm : W.cell? ⟨Bm, off, none⟩ = some (.map (some b))) (hM : MapAt W Try.prog 28 b M) (h0 : J [] W) :
    CallsIn Fence.wide n Try.prog 60 #[.func (.yield l) #[] #[], .pointer (some ⟨Bm, off, none⟩)] W fun e W' => (∃ v, e = .returned v) ∧ ((∃ ss : List Int, ss.Perm (keysOf M) ∧ J ss W') ∨ (∃ pre, True ∧ Jx pre W')) := by
  refine callsIn_of_wp Try.func60 rfl trivial ?_ rfl
  simp only [Try.ntmps60, List.size_toArray, List.length_cons, List.length_nil, Nat.reduceAdd, Nat.reduceSub, Array.replicate_succ, Array.replicate_zero, List.push_toArray, List.append_toArray, List.nil_append, List.cons_append]
  gi_wp2_with (first
    | (gi_at_range; refine wpListIn_range_own _ rfl _ 70 rfl 28 78 (Maps.int_keyed Try.underlying28) Try.underlying70 _ b M.length _ rfl hM.1 ?_; intro w0 hrg0 hg0 hs0)
    | gi_in)
  go_frame
  gi_loopw [3] (fun _ wr => ∃ (left : Lit → Bool) (cnt : Nat) (ss : List Int), wr.ranges Try.prog 28 Hv b W.heap.size M.length (.map (kv M)) left cnt ∧ ss.length + cnt ≤ M.length ∧ CollectedU M left ss ∧ J ss wr)
    (fun _ wr => wr.rangeLeft b W.heap.size)
  case atStart =>
    refine ⟨_, _, [], hrg0, ?_, CollectedU.start M, hJ [] W w0 none h0 hg0 (fun r e => by cases e)⟩
    rw [kv_size]; simp
  case round =>
    obtain ⟨left, cnt, ss, hrg, hcs, hC, hJs⟩ := hrel
    gi_wp2_with (first
      | (gi_at_next; refine wpListIn_next_ranges _ rfl _ rfl 28 (Maps.int_keyed Try.underlying28) Hv encU id (fun key kl hk => by obtain ⟨x, hx, _⟩ := Maps.keyOf_int_inv Try.underlying28 hk; exact ⟨x, hx⟩) (fun v _ _ => ⟨v, rfl⟩) b W.heap.size M.length _ _ _ rfl hrg ?_ ?_)
      | gi_in)
    · intro hc0 hl0
      gi_wp2
      go_end0
      exact ⟨⟨_, rfl⟩, .inl ⟨ss, hC.perm hM.2.1 hl0, hJs⟩⟩
    · intro x c kl yd yp w2 cnt2 hkey hlk hv hat hrg2 hlt hg2 hs2 hen
      obtain ⟨x', ex, rfl, hwx⟩ := Maps.keyOf_int_inv Try.underlying28 hkey
      obtain rfl : x = x' := encU_inj ex
      have hJ2 : J ss w2 := hJ ss wr w2 (some W.heap.size) hJs hg2 (fun r e => by cases e; exact ⟨Nat.le_refl _, hrg.iter_walk⟩)
      obtain ⟨fn, tmps, assign, body, hy, hR⟩ := hY ss x w2 hJ2 (by omega)
      have hh : (lookK x M).isSome = true := by rw [← kv_has]; exact Maps.has_true_of_atKey hat
      have hC2 := hC.step hlk hh
      clear hs2
      gi_wp2
      refine hR.mono ?_
      rintro e W3 (⟨rfl, hJ3, hk3⟩ | ⟨rfl, hJx3⟩)
      · gi_wp2
        have hrg3 := hrg2.of_walks hk3
        go_roundw
        case rel => exact ⟨_, cnt2, ss ++ [x], hrg3, by simp; omega, hC2, hJ3⟩
        case measure => rw [hrg3.left_eq, hrg.left_eq]; exact hlt
      · gi_wp2
        refine bodyPost_ret (results_none rfl _ _ _) rfl ?_
        exact ⟨⟨_, rfl⟩, .inr ⟨ss ++ [x], trivial, hJx3⟩⟩
theorem keysU_stops (n : Nat) (hn : 1 ≤ n) (Bm off b : Nat) (M : List (Int × Value)) (w : World) (hBm : Bm < w.heap.size) (hm : w.cell? ⟨Bm, off, none⟩ = some (.map (some b))) (hM : MapAt w Try.prog 28 b M) :
    SeqStopsK Fence.wide n Try.prog 60 #[.pointer (some ⟨Bm, off, none⟩)] (fun x : Int => #[.int .u32 x]) KeepsWalks (fun ss => ss.Perm (keysOf M)) (fun _ => True) M.length w := by
  intro l J Jx W hB hJ hJx hY h0
  exact keysU_in n hn l Bm off b M J Jx W hJ hY ((hB.cell (p := ⟨Bm, off, none⟩) hBm).trans hm) (hM.keep (hB.block b hM.lt)) h0
theorem Shelf.heap_setCell_box_b {W : World} {B : Nat} {v v' : Value} {t : TypeId} (h : W.heap[B]? = some (.cells #[v] t (0, 0))) : (W.setCell ⟨B, 0, none⟩ v').heap[B]? = some (.cells #[v'] t (0, 0)) := by
  obtain ⟨hlt, hk⟩ := Array.getElem?_eq_some_iff.1 h
  show (W.heap.modify B _)[B]? = _
  rw [Array.getElem?_modify, if_pos rfl, h]
  rfl
structure SeqAt (w : World) (ss : List Int) (W : World) : Prop where
  box : ∃ v, W.heap[w.heap.size]? = some (.cells #[v] 84 (0, 0)) ∧ W.ownsRow (w.heap.size + 1) 28 1 v ss.length (ss.map encU)
  below : Below w.heap.size w W
theorem seqAt_own (w : World) (B : Nat) (hB : w.heap.size ≤ B) : OwnFrom B (SeqAt w) := by
  intro s W W' row h hg hr
  have hr' : ∀ r, row = some r → ∃ o : Obj, W.heap[r]? = some o ∧ o.isCells = false := fun r e => (hr r e).2
  obtain ⟨v, hv, hc⟩ := h.box
  refine ⟨⟨v, (grownBy_keeps_cells hg hr' hv rfl).trans hv, ?_⟩, h.below.grown hg h.below.size (fun k e => Nat.le_trans hB (hr k e).1)⟩
  rcases hc.2 with hc' | ⟨g, c, cur, q1, q2, q3, q4⟩
  · exact ⟨hc.1, .inl hc'⟩
  · exact ⟨hc.1, .inr ⟨g, c, cur, q1, q2, (grownBy_keeps_cells hg hr' q3 rfl).trans q3, q4⟩⟩
end Go.Proofs.Ytebfoigbiekeiaa
