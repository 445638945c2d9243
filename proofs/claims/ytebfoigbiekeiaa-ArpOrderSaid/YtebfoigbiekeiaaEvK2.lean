/-
  The walk over a map of one entry at the most.
-/
import Derived.Test.YtebfoigbiekeiaaEvP7
import Derived.RangeFuncFrom
import Derived.RangeFuncLeaves
import Derived.Shelf.Abstract
import Derived.Sort.MapsRangeIn
import Derived.WalkKit
import Derived.OwnWalkIn
import Derived.TacticsInMore
import Derived.RegionIn
import Derived.LoopNIn
import Derived.LoopIn
import Derived.Test.YtebfoigbiekeiaaProg
set_option linter.unusedVariables false
set_option linter.unusedSimpArgs false
namespace Go.Proofs.Ytebfoigbiekeiaa.Kev
open Go Go.RowKit Go.Ev Go.Proofs
open Go.ChangeMaps (setBlock)
open Go.Shelf
attribute [local go_sem] Oper.semAt_some
/-- between two rounds of a walk over a map of one entry at the most -/
structure WalkAt (W : World) (b ck : Nat) (es : Array MapEntry) (J : List Int → World → Prop) (ss : List Int) (wr : World) : Prop where
  it : ∃ seen c0, wr.heap[W.heap.size]? = some (.mapIter (some b) ck seen c0) ∧ ck ≤ c0 ∧ ((seen = #[] ∧ ss = []) ∨ ∃ e x, es = #[e] ∧ e.key = .int .u32 x ∧ seen = #[e.born] ∧ ss = [x])
  mp : wr.heap[b]? = some (.map es ck)
  inv : J ss wr
theorem next_none {P : Program} {w : World} {ty : TypeId} {r b ck c0 : Nat} {seen : Array Nat} {es : Array MapEntry} (hr : w.heap[r]? = some (.mapIter (some b) ck seen c0)) (hb : w.heap[b]? = some (.map es ck)) (hborn : Born es.toList ck) (hc : ck ≤ c0) (h : es = #[] ∨ ∃ e, es = #[e] ∧ seen = #[e.born]) :
    (Instr.next (.pointer (some ⟨r, 0, none⟩)) false ty).run P w = .ok (.tuple #[.bool false]) w := by
  rcases run_next_at (P := P) w ty r b ck c0 seen es ck hr hb hborn hc with ⟨_, hrun⟩ | ⟨e, he, _⟩
  · exact hrun
  · exfalso
    rcases h with rfl | ⟨e', rfl, rfl⟩
    · simp [leftOf] at he
    · simp [leftOf] at he
theorem next_one {P : Program} {w : World} {ty : TypeId} {r b ck c0 : Nat} {e : MapEntry} (hr : w.heap[r]? = some (.mapIter (some b) ck #[] c0)) (hb : w.heap[b]? = some (.map #[e] ck)) (hborn : Born [e] ck) (hc : ck ≤ c0) :
    ∃ w', (Instr.next (.pointer (some ⟨r, 0, none⟩)) false ty).run P w = .ok (.tuple #[.bool true, e.key, e.val]) w' ∧ w'.heap[r]? = some (.mapIter (some b) ck #[e.born] ck) ∧ w'.heap[b]? = some (.map #[e] ck) ∧ w.grownBy w' (some r) ∧
      (Instr.entry (.pointer (some ⟨r, 0, none⟩))).run P w' = .ok (.tuple #[e.key, e.val]) w' := by
  have hne : b ≠ r := fun h => by subst h; rw [hr] at hb; cases hb
  rcases run_next_at (P := P) w ty r b ck c0 #[] #[e] ck hr hb hborn hc with ⟨h0, _⟩ | ⟨e', he, w1, hal, hrun⟩
  · simp [leftOf] at h0
  · have e1 : e' = e := by simpa [leftOf] using he
    subst e1
    have hr1 : w1.heap[r]? = some (.mapIter (some b) ck #[] c0) := by rcases hal with rfl | rfl <;> exact hr
    have hb1 : w1.heap[b]? = some (.map #[e'] ck) := by rcases hal with rfl | rfl <;> exact hb
    have hset := MapKept.heap_set (o' := .mapIter (some b) ck ((#[] : Array Nat).push e'.born) ck) hr1
    have hb2 := (hset.2 b hne).trans hb1
    refine ⟨_, hrun, hset.1, hb2, ?_, ?_⟩
    · rcases hal with rfl | rfl <;> exact ⟨rfl, rfl, rfl, by simp [setBlock], fun i _ hi => hset.2 i (fun e1 => hi (by rw [e1]))⟩
    · exact run_entry_at _ r b ck #[] #[e'] ck e' hset.1 hb2 (by simp) (by simp)
set_option maxRecDepth 100000 in
set_option maxHeartbeats 2000000 in
theorem keys_walk (n : Nat) (hn : 1 ≤ n) (l Bm off b : Nat) (es : Array MapEntry) (ck : Nat) (J Jx : List Int → World → Prop) (W : World) (hJ : AbidesFrom W.heap.size J)
    (hY : ∀ pre x W1, J pre W1 → pre.length < 1 → YieldAt Fence.wide (n - 1) Try.prog l #[.int .u32 x] W1 fun e W' => (e = .returned (.bool true) ∧ J (pre ++ [x]) W' ∧ KeepsWalks W1 W') ∨ (e = .returned (.bool false) ∧ Jx (pre ++ [x]) W'))
    (hm : W.cell? ⟨Bm, off, none⟩ = some (.map (some b))) (hb : W.heap[b]? = some (.map es ck)) (hborn : Born es.toList ck) (h1 : es = #[] ∨ ∃ e x, es = #[e] ∧ e.key = .int .u32 x) (h0 : J [] W) :
    CallsIn Fence.wide n Try.prog 60 #[.func (.yield l) #[] #[], .pointer (some ⟨Bm, off, none⟩)] W fun e W' => (∃ v, e = .returned v) ∧ ((∃ ss : List Int, es.toList.map (·.key) = ss.map (.int .u32) ∧ J ss W') ∨ (∃ pre, True ∧ Jx pre W')) := by
  have hbl : b < W.heap.size := (Array.getElem?_eq_some_iff.1 hb).1
  refine callsIn_of_wp Try.func60 rfl trivial ?_ rfl
  simp only [Try.ntmps60, List.size_toArray, List.length_cons, List.length_nil, Nat.reduceAdd, Nat.reduceSub, Array.replicate_succ, Array.replicate_zero, List.push_toArray, List.append_toArray, List.nil_append, List.cons_append]
  gi_wp2_with gi_in
  rw [run_range_map W 70 _ _ b es ck Try.underlying70 hb]
  simp only [Result.andThen_ok]
  gi_wp2_with gi_in
  gi_loopw [3] (fun _ wr => ∃ ss, WalkAt W b ck es J ss wr) (fun _ wr => wr.rangeLeft b W.heap.size)
  case atStart =>
    exact ⟨[], ⟨#[], ck, World.alloc_heap_new W _, Nat.le_refl _, .inl ⟨rfl, rfl⟩⟩, (Below.heap_alloc _ _ b hbl).trans hb, hJ [] W _ none h0 (World.grownBy_alloc W _ none) (fun r e => by cases e)⟩
  case round =>
    obtain ⟨ss, ⟨seen, c0, hr, hc0, hcase⟩, hmp, hJs⟩ := hrel
    gi_wp2_with gi_in
    by_cases hd : es = #[] ∨ ∃ e, es = #[e] ∧ seen = #[e.born]
    · rw [next_none hr hmp hborn hc0 hd]
      simp only [Result.andThen_ok]
      gi_wp2_with gi_in
      go_end0
      refine ⟨⟨_, rfl⟩, .inl ⟨ss, ?_, hJs⟩⟩
      rcases hcase with ⟨rfl, rfl⟩ | ⟨e, x, rfl, hk, rfl, rfl⟩
      · rcases hd with rfl | ⟨e, rfl, h⟩
        · rfl
        · simp at h
      · simp [hk]
    · rcases hcase with ⟨rfl, rfl⟩ | ⟨e, x, rfl, hk, rfl, rfl⟩
      · rcases h1 with rfl | ⟨e, x, rfl, hk⟩
        · exact absurd (.inl rfl) hd
        · obtain ⟨w2, hrun, hr2, hb2, hg2, hen⟩ := next_one (P := Try.prog) (ty := 0) hr hmp hborn hc0
          have hJ2 : J [] w2 := hJ [] wr w2 (some W.heap.size) hJs hg2 (fun r e => by cases e; exact ⟨Nat.le_refl _, _, hr, rfl⟩)
          obtain ⟨fn, tmps, assign, body, hy, hR⟩ := hY [] x w2 hJ2 (by simp)
          rw [hrun]
          rw [hk] at hen ⊢
          simp only [Result.andThen_ok]
          gi_wp2_with gi_in
          refine hR.mono ?_
          rintro e' W3 (⟨rfl, hJ3, hk3⟩ | ⟨rfl, hJ3⟩)
          rotate_left
          · gi_wp2_with gi_in
            refine bodyPost_ret (results_none rfl _ _ _) rfl ?_
            exact ⟨⟨_, rfl⟩, .inr ⟨[x], hJ3⟩⟩
          gi_wp2_with gi_in
          have hr3 := hk3.same _ _ hr2 rfl
          have hb3 := hk3.same _ _ hb2 rfl
          go_roundw
          case rel => exact ⟨[x], ⟨#[e.born], ck, hr3, Nat.le_refl _, .inr ⟨e, x, rfl, hk, rfl, rfl⟩⟩, hb3, hJ3⟩
          case measure => simp [World.rangeLeft, hr3, hb3, hr, hmp, leftOf]
      · exact absurd (.inr ⟨e, rfl, rfl⟩) hd
theorem keys_stops (n : Nat) (hn : 1 ≤ n) (Bm off b : Nat) (es : Array MapEntry) (ck : Nat) (w : World) (hBm : Bm < w.heap.size) (hm : w.cell? ⟨Bm, off, none⟩ = some (.map (some b))) (hb : w.heap[b]? = some (.map es ck)) (hborn : Born es.toList ck) (h1 : es = #[] ∨ ∃ e x, es = #[e] ∧ e.key = .int .u32 x) :
    SeqStopsK Fence.wide n Try.prog 60 #[.pointer (some ⟨Bm, off, none⟩)] (fun x : Int => #[.int .u32 x]) KeepsWalks (fun ss => es.toList.map (·.key) = ss.map (.int .u32)) (fun _ => True) 1 w := by
  intro l J Jx W hB hJ hJx hY h0
  have hbl : b < w.heap.size := (Array.getElem?_eq_some_iff.1 hb).1
  exact keys_walk n hn l Bm off b es ck J Jx W hJ hY ((hB.cell (p := ⟨Bm, off, none⟩) hBm).trans hm) ((hB.block b hbl).trans hb) hborn h1 h0
theorem Shelf.heap_setCell_box_b {W : World} {B : Nat} {v v' : Value} {t : TypeId} (h : W.heap[B]? = some (.cells #[v] t (0, 0))) : (W.setCell ⟨B, 0, none⟩ v').heap[B]? = some (.cells #[v'] t (0, 0)) := by
  obtain ⟨hlt, hk⟩ := Array.getElem?_eq_some_iff.1 h
  show (W.heap.modify B _)[B]? = _
  rw [Array.getElem?_modify, if_pos rfl, h]
  rfl
structure SeqAt (w : World) (ss : List Int) (W : World) : Prop where
  box : ∃ v, W.heap[w.heap.size]? = some (.cells #[v] 84 (0, 0)) ∧ ((ss = [] ∧ v = .slice none 0 0) ∨ (∃ x g c cur, ss = [x] ∧ v = .slice (some ⟨g, 0, none⟩) 1 c ∧ w.heap.size < g ∧ 1 ≤ c ∧ W.heap[g]? = some (.cells cur 28 (0, 0)) ∧ cur.size = c ∧ cur.toList.take 1 = [.int .u32 x]))
  below : Below w.heap.size w W
theorem seqAt_own (w : World) (B : Nat) (hB : w.heap.size ≤ B) : OwnFrom B (SeqAt w) := by
  intro s W W' row h hg hr
  have hr' : ∀ r, row = some r → ∃ o : Obj, W.heap[r]? = some o ∧ o.isCells = false := fun r e => (hr r e).2
  obtain ⟨v, hv, hc⟩ := h.box
  refine ⟨⟨v, (grownBy_keeps_cells hg hr' hv rfl).trans hv, ?_⟩, h.below.grown hg h.below.size (fun k e => Nat.le_trans hB (hr k e).1)⟩
  rcases hc with hc | ⟨x, g, c, cur, q1, q2, q3, q4, q5, q6⟩
  · exact .inl hc
  · exact .inr ⟨x, g, c, cur, q1, q2, q3, q4, (grownBy_keeps_cells hg hr' q5 rfl).trans q5, q6⟩
set_option maxRecDepth 100000 in
set_option maxHeartbeats 2000000 in
theorem seq_walk (n : Nat) (hn : 3 ≤ n) (Bm off b : Nat) (es : Array MapEntry) (ck : Nat) (w : World) (hBm : Bm < w.heap.size) (hm : w.cell? ⟨Bm, off, none⟩ = some (.map (some b))) (hb : w.heap[b]? = some (.map es ck)) (hborn : Born es.toList ck) (h1 : es = #[] ∨ ∃ e x, es = #[e] ∧ e.key = .int .u32 x) :
    CallsIn Fence.wide n Try.prog 67 #[.slice none 0 0, .func (.func 60) #[] #[.pointer (some ⟨Bm, off, none⟩)]] w fun e w' => Below w.heap.size w w' ∧ ∃ ss : List Int, es.toList.map (·.key) = ss.map (.int .u32) ∧ ((ss = [] ∧ e = .returned (.slice none 0 0)) ∨ (∃ x g c cur, ss = [x] ∧ e = .returned (.slice (some ⟨g, 0, none⟩) 1 c) ∧ w.heap.size ≤ g ∧ 1 ≤ c ∧ w'.heap[g]? = some (.cells cur 28 (0, 0)) ∧ cur.size = c ∧ cur.toList.take 1 = [.int .u32 x])) := by
  have hbl : b < w.heap.size := (Array.getElem?_eq_some_iff.1 hb).1
  refine callsIn_of_wp_marks Try.func67 rfl trivial ?_ rfl
  simp only [Try.ntmps67, List.size_toArray, List.length_cons, List.length_nil, Nat.reduceAdd, Nat.reduceSub, Array.replicate_succ, Array.replicate_zero, List.push_toArray, List.append_toArray, List.nil_append, List.cons_append]
  gi_wp2_with gi_in
  have hB0 : Below w.heap.size w (w.alloc (.cells #[.slice none 0 0] 84)) := (Below.refl _ w).alloc (Nat.le_refl _) _
  refine wpIn_rangeFunc_ownF rfl (by omega) (gf := 60) (lb := #[.pointer (some ⟨Bm, off, none⟩)]) rfl trivial (enters_of Try.func60 (by kernel_rfl) rfl)
    (keys_stops (n - 1) (by omega) Bm off b es ck (w.alloc (.cells #[.slice none 0 0] 84)) (by simp; omega) ((hB0.cell (p := ⟨Bm, off, none⟩) hBm).trans hm) ((hB0.block b hbl).trans hb) hborn h1) walksK_t (fun W l o o' _ h1 _ h2 => KeepsWalks.putObj _ h1 h2) (Below.refl _ _) (fun _ => rfl)
    (SeqAt w) (fun _ _ _ => False) (seqAt_own w _ (by simp)) (fun _ _ _ _ _ hs _ _ => hs)
    ⟨⟨_, World.alloc_heap_new w _, .inl ⟨rfl, rfl⟩⟩, hB0⟩
    (fun x => { tmps := #[.slice none 0 0, .func (.func 60) #[] #[.pointer (some ⟨Bm, off, none⟩)], .pointer (some ⟨w.heap.size, 0, none⟩), undef, .slice none 0 0, .int .u32 x, .func (.func 60) #[] #[.pointer (some ⟨Bm, off, none⟩)], .int .u32 x, undef, undef, undef, undef, undef], defers := [] }) ?assign ?body ?done ?stop
  case assign =>
    intro l x W K hK
    gi_wp2_with gi_in
    exact hK
  case body =>
    rintro l pre x W ⟨⟨v, hv, hcase⟩, hB⟩ hlen
    have hpre : pre = [] := List.eq_nil_of_length_eq_zero (by omega)
    subst hpre
    rcases hcase with ⟨_, rfl⟩ | ⟨_, _, _, _, h, _⟩
    · have hc : W.cell? ⟨w.heap.size, 0, none⟩ = some (.slice none 0 0) := by simp [World.cell?, hv]
      have hf : W.frozen? ⟨w.heap.size, 0, none⟩ = false := by simp [World.frozen?, hv]
      have hWl : w.heap.size < W.heap.size := (Array.getElem?_eq_some_iff.1 hv).1
      obtain ⟨i0, hi, hz0, hz1, hz2⟩ := info_parts (P := Try.prog) (e := 28) (z := .int .u32 0) (size := 1) (bytes := 4) (by kernel_rfl)
      gi_wp2_with gi_in
      have hcap := cut_ge 1 0 28 (W.tape W.drawn (Question.appendCap 1 0 28))
      generalize (Question.appendCap 1 0 28).cut (W.tape W.drawn (Question.appendCap 1 0 28)) = c at hcap
      have hk : KeepsOthers W ((((W.setCell ⟨w.heap.size, 0, none⟩ (.slice (some ⟨W.heap.size + 1, 0, none⟩) 1 c)).alloc (.cells #[.int .u32 x] 28)).alloc (.cells (#[.int .u32 x] ++ Builtin.zeroCells #[.int .u32 0] (c - 1)) 28)).drew) :=
        (((KeepsOthers.setCell _ _ _).trans (.alloc _ _)).trans (.alloc _ _)).trans ⟨Nat.le_refl _, fun _ _ h _ => h⟩
      have hsz : (W.setCell ⟨w.heap.size, 0, none⟩ (.slice (some ⟨W.heap.size + 1, 0, none⟩) 1 c)).heap.size = W.heap.size := by simp [World.setCell]
      refine ⟨hk, hk.walks, ⟨⟨.slice (some ⟨W.heap.size + 1, 0, none⟩) 1 c, ?_, .inr ⟨x, W.heap.size + 1, c, #[.int .u32 x] ++ Builtin.zeroCells #[.int .u32 0] (c - 1), rfl, rfl, by omega, hcap, ?_, ?_, ?_⟩⟩, ?_⟩⟩
      · show ((((W.setCell ⟨w.heap.size, 0, none⟩ (.slice (some ⟨W.heap.size + 1, 0, none⟩) 1 c)).alloc (.cells #[.int .u32 x] 28)).alloc (.cells (#[.int .u32 x] ++ Builtin.zeroCells #[.int .u32 0] (c - 1)) 28))).heap[w.heap.size]? = _
        rw [Below.heap_alloc _ _ _ (by rw [World.size_alloc, hsz]; omega), Below.heap_alloc _ _ _ (by rw [hsz]; omega)]
        exact Shelf.heap_setCell_box_b hv
      · have := World.alloc_heap_new ((W.setCell ⟨w.heap.size, 0, none⟩ (.slice (some ⟨W.heap.size + 1, 0, none⟩) 1 c)).alloc (.cells #[.int .u32 x] 28)) (.cells (#[.int .u32 x] ++ Builtin.zeroCells #[.int .u32 0] (c - 1)) 28)
        rw [World.size_alloc, hsz] at this
        exact this
      · simp [Builtin.zeroCells]; omega
      · simp
      · exact (((hB.setCell (p := ⟨w.heap.size, 0, none⟩) (Nat.le_refl _) _).alloc (by rw [hsz]; omega) _).alloc (by rw [World.size_alloc, hsz]; omega) _).trans ⟨rfl, rfl, rfl, Nat.le_refl _, fun _ _ => rfl⟩
    · simp at h
  case done =>
    rintro D ys W hD hS ⟨⟨v, hv, hcase⟩, hB⟩ hK
    have hc : W.cell? ⟨w.heap.size, 0, none⟩ = some v := by simp [World.cell?, hv]
    have hWl : w.heap.size < W.heap.size := (Array.getElem?_eq_some_iff.1 hv).1
    gi_wp2_with gi_in
    refine ⟨by simp, .inl ⟨_, _, rfl, run_takeDeferred hK, ?_⟩⟩
    refine ⟨_, results_tmp rfl _ _ _, hB.trans (belowK_b (w := w) (Nat.le_refl _) W D _ _ (by simp at hD; omega) hK rfl rfl), ys, hS, ?_⟩
    rcases hcase with ⟨rfl, rfl⟩ | ⟨x, g, c, cur, rfl, rfl, q3, q4, q5, q6, q7⟩
    · exact .inl ⟨rfl, rfl⟩
    · refine .inr ⟨x, g, c, cur, rfl, rfl, by omega, q4, ?_, q6, q7⟩
      have hne : g ≠ D := fun e => by subst e; rw [hK] at q5; cases q5
      exact (World.putObj_heap_other hne).trans q5
  case stop =>
    rintro D c pre W _ _ h _
    exact h.elim
theorem seq_calls (Bm off b : Nat) (es : Array MapEntry) (ck : Nat) (w : World) (hBm : Bm < w.heap.size) (hm : w.cell? ⟨Bm, off, none⟩ = some (.map (some b))) (hb : w.heap[b]? = some (.map es ck)) (hborn : Born es.toList ck) (h1 : es = #[] ∨ ∃ e x, es = #[e] ∧ e.key = .int .u32 x) :
    Calls Try.prog 67 #[.slice none 0 0, .func (.func 60) #[] #[.pointer (some ⟨Bm, off, none⟩)]] w fun e w' => Below w.heap.size w w' ∧ ∃ ss : List Int, es.toList.map (·.key) = ss.map (.int .u32) ∧ ((ss = [] ∧ e = .returned (.slice none 0 0)) ∨ (∃ x g c cur, ss = [x] ∧ e = .returned (.slice (some ⟨g, 0, none⟩) 1 c) ∧ w.heap.size ≤ g ∧ 1 ≤ c ∧ w'.heap[g]? = some (.cells cur 28 (0, 0)) ∧ cur.size = c ∧ cur.toList.take 1 = [.int .u32 x])) :=
  (callsIn_wide (n := 3)).1 (seq_walk 3 (by omega) Bm off b es ck w hBm hm hb hborn h1)
end Go.Proofs.Ytebfoigbiekeiaa.Kev
namespace Go.Proofs.Ytebfoigbiekeiaa.Kev
open Go Go.RowKit Go.Ev Go.Proofs
variable {V : Vn} {μ : Map} {h : Hp} {w w' : World}
theorem HR.keep (k : HR V μ h w) (hB : Below w.heap.size w w') : HR V μ h w' ∧ Ext μ h w μ h w' := by
  refine ⟨⟨fun id b e => ?_, k.apart, k.fresh, fun id l e => Nat.lt_of_lt_of_le (k.inW id l e) hB.size⟩, ⟨.refl _, hB.size, fun b hb hw => ⟨hB.block b hb, hw⟩, hB.os, hB.tape, hB.output, Nat.le_refl _, fun _ _ => rfl⟩⟩
  obtain ⟨l, p, q⟩ := k.blk id b e
  exact ⟨l, p, BR.world (hB.block _ (k.inW _ _ p)) q⟩
theorem HR.found (k : HR V μ h w) (hB : Below w.heap.size w w') {g : Nat} {cur : Array Value} {e : TypeId} {cs : List AVal} (hg : w.heap.size ≤ g) (hb : w'.heap[g]? = some (.cells cur e (0, 0))) (hv : VRs V μ cs (cur.toList.take cs.length)) (hl : cs.length ≤ cur.size) :
    HR V (μ.add h.nx ⟨g, 0, cur.size⟩) (h.alloc (.cells cs false)).2 w' ∧ Ext μ h w (μ.add h.nx ⟨g, 0, cur.size⟩) (h.alloc (.cells cs false)).2 w' := by
  obtain ⟨k2, x2⟩ := HR.keep k hB
  have hfr : μ h.nx = none := k.fresh h.nx (Nat.le_refl _)
  have hlt : g < w'.heap.size := (Array.getElem?_eq_some_iff.1 hb).1
  refine ⟨HR.add (h := h) (w' := w') h.t ⟨g, 0, cur.size⟩ (.cells cs false) k2 ⟨cur, e, 0, 0, hb, rfl, by simpa using hl, by simpa using hv, fun _ => .inl rfl⟩ hlt (fun i a m _ hm => by have := k.inW i m hm; show m.b ≠ g; omega), ⟨Map.add_le hfr _, hB.size, ?_, hB.os, hB.tape, hB.output, (by simp only [Hp.alloc, Pos.toNat_succ]; omega), fun i hi => (by simp only [Map.add]; rw [if_neg (fun e => by subst e; omega)])⟩⟩
  intro b hb2 hw
  refine ⟨hB.block b hb2, ?_⟩
  rintro ⟨j, a, l, ha, har, hl2, he⟩
  by_cases hj : j = h.nx
  · subst hj; rw [Map.add_same] at hl2; cases hl2
    have : g = b := he
    omega
  · simp only [Hp.alloc, PT.get_set_ne _ _ _ _ (Ne.symm hj)] at ha
    simp only [Map.add, if_neg hj] at hl2
    exact hw ⟨j, a, l, ha, har, hl2, he⟩
/-- slices.AppendSeq(nil, maps.Keys(m)), where m has one entry at the most -/
def hk251 (args : List AVal) (h : Hp) : Option (AVal × Hp) :=
  match args with
  | [.nilslice, .func f [] [.ptr b o]] =>
    if f = 60 then match h.load1 b o with
      | some (.map id) => match h.t.get id with
        | some (.map []) => some (.nilslice, h)
        | some (.map [(.int .u32 x, _)]) => some (.slice h.nx 0 1 none 1, (h.alloc (.cells [.int .u32 x] false)).2)
        | _ => none
      | _ => none
    else none
  | _ => none
def hook17 : FuncId → Option (List AVal → Hp → Option (AVal × Hp)) := fun f => if f = 67 then some hk251 else none
theorem hook17_ov {E : Env} (hE : E.hook = hook17) : OvHook E := by
  intro X f kk args h H v h' hk ho e
  rw [hE] at hk
  unfold hook17 at hk
  split at hk
  · cases hk
    unfold hk251 at e ⊢
    split at e
    · rename_i f b o
      split at e
      · rename_i hf
        split at e
        · rename_i id h1
          split at e
          · rename_i h2
            cases e
            refine ⟨H, ?_, ho⟩
            simp only [hf, if_true, ho.load1 h1, ho.at_ h2]
          · rename_i x y h2
            cases e
            refine ⟨_, ?_, ho.alloc _⟩
            simp only [hf, if_true, ho.load1 h1, ho.at_ h2, Hp.alloc, ho.nx]
          · simp at e
        · simp at e
      · simp at e
    · simp at e
  · simp at hk
theorem name251 : Try.f67.name ≠ "runtime.NumGoroutine" := by
  have h2 : (Try.f67.name == "runtime.NumGoroutine") = false := by kernel_rfl
  intro h
  rw [h] at h2
  simp at h2
theorem hook17_ok {E : Env} (hE : E.hook = hook17) : HookOk V Try.prog [] E := by
  refine ⟨fun f kk hk => ?_, fun f kk args h v h' μ w args' hk e k hg ha => ?_⟩
  · rw [hE] at hk
    unfold hook17 at hk
    split at hk
    · rename_i hf
      subst hf
      exact ⟨Try.f67, Try.func67, name251, by kernel_rfl⟩
    · simp at hk
  · rw [hE] at hk
    unfold hook17 at hk
    split at hk
    · rename_i hf
      subst hf
      cases hk
      unfold hk251 at e
      split at e
      · rename_i f b o
        split at e
        · rename_i hf
          subst hf
          split at e
          · rename_i id h1
            -- the arguments
            simp only [VRs] at ha
            obtain ⟨v1, l1, q1, r1, v2, l2, q2, r2, q3⟩ := ha
            subst q3
            rw [VR] at r1; subst r1
            rw [VR] at r2
            obtain ⟨a', c', rfl, p1, p2⟩ := r2
            simp only [VRs] at p1 p2
            obtain ⟨v3, l3, p2, r3, p3⟩ := p2
            subst p3
            obtain ⟨lb, hlb, rfl⟩ := VR_ptr.1 r3
            have ea : a' = #[] := Array.toList_inj.1 p1
            have ec : c' = #[.pointer (some ⟨lb.b, lb.s + o, none⟩)] := Array.toList_inj.1 p2
            have eargs : args' = #[.slice none 0 0, .func (.func 60) a' c'] := Array.toList_inj.1 (by rw [q1, q2])
            subst ea; subst ec; subst eargs
            obtain ⟨l', u, hl', hc, hu⟩ := k.load1 h1
            rw [hlb] at hl'; cases hl'
            rw [VR] at hu
            obtain ⟨lm, hlm, rfl⟩ := hu
            have hBm := k.inW _ _ hlb
            split at e
            · rename_i hg2
              cases e
              obtain ⟨lm', es', ck, hm', hw, hM⟩ := k.mapOf hg2
              rw [hlm] at hm'; cases hm'
              have hborn := k.born hg2 hlm hw
              have hes : es' = #[] := Array.toList_inj.1 (by simpa [MR] using hM)
              refine (seq_calls lb.b (lb.s + o) lm.b es' ck w hBm hc hw hborn (.inl hes)).mono ?_
              rintro e w' ⟨hB, ss, hss, hcase⟩
              subst hes
              have hs0 : ss = [] := by cases ss with
                | nil => rfl
                | cons a b => simp at hss
              subst hs0
              rcases hcase with ⟨_, rfl⟩ | ⟨_, _, _, _, h0, _⟩
              · obtain ⟨k2, x2⟩ := HR.keep k hB
                exact ⟨_, μ, rfl, (by rw [VR]), k2, x2⟩
              · simp at h0
            · rename_i x y hg2
              cases e
              obtain ⟨lm', es', ck, hm', hw, hM⟩ := k.mapOf hg2
              rw [hlm] at hm'; cases hm'
              have hborn := k.born hg2 hlm hw
              simp only [MR] at hM
              obtain ⟨en, el, e1, hk1, hv1, e2⟩ := hM
              subst e2
              have hkey : en.key = .int .u32 x := VR_int.1 hk1
              have hes : es' = #[en] := Array.toList_inj.1 e1
              refine (seq_calls lb.b (lb.s + o) lm.b es' ck w hBm hc hw hborn (.inr ⟨en, x, hes, hkey⟩)).mono ?_
              rintro e w' ⟨hB, ss, hss, hcase⟩
              subst hes
              have hs0 : ss = [x] := by
                match ss, hss with
                | [], hss => simp at hss
                | [z], hss => simp [hkey] at hss; rw [hss]
                | a :: b :: c, hss => simp at hss
              subst hs0
              rcases hcase with ⟨h0, _⟩ | ⟨x', g, c, cur, h0, rfl, hgw, hc1, hgb, hcs, htk⟩
              · simp at h0
              · simp at h0
                subst h0
                obtain ⟨k2, x2⟩ := HR.found k hB (cs := [.int .u32 x]) hgw hgb (by
                  show VRs V μ [.int .u32 x] (cur.toList.take 1)
                  rw [htk]
                  exact VRs_cons (VR_int.2 rfl) (by rw [VRs])) (by simp; omega)
                exact ⟨_, _, rfl, VR_slice_mk (rc := c) (cap := none) (o := 0) (Map.add_same _ _ _) (fun c hc => by cases hc) (fun _ => .inl ⟨hc1, rfl, by show 0 + 0 + c * 1 = cur.size; omega⟩), k2, x2⟩
            · simp at e
          · simp at e
        · simp at e
      · simp at e
    · simp at hk
end Go.Proofs.Ytebfoigbiekeiaa.Kev
