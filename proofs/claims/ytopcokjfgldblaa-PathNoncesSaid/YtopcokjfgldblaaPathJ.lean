/-
  LAYER 15, WALK: the law's 'do': a deed on both; they tell the same.
-/
import Derived.Test.YtopcokjfgldblaaPathI
import Derived.Deep.RegionHeld3
set_option linter.unusedVariables false
set_option linter.unusedSimpArgs false
namespace Go.Proofs.Ytopcokjfgldblaa
open Go.RowKit

set_option maxHeartbeats 2000000 in
theorem do_0 (gx gy : Nat) (p : PR) (w : World) (n a b : Int) (m : Bool) (nonce : Int) (ok : p.Ok n) (h : Pair w gx gy w p p) :
    Calls Try.prog 22 #[.pointer (some ⟨gx, 0, none⟩), .pointer (some ⟨gy, 0, none⟩), .agg #[.int .i64 0, .int .i64 a, .int .i64 b, .bool m, .int .u64 nonce]] w fun e w' => e = .returned (.bool true) ∧ Pair w' gx gy w (sampQ a p) (sampQ a p) := by
  have nx : w.heap.size ≠ gx := by have := h.x.lt; omega
  have ny : w.heap.size ≠ gy := by have := h.y.lt; omega
  have hB : Below w.heap.size w (w.alloc (.cells #[.int .i64 0, .int .i64 a, .int .i64 b, .bool m, .int .u64 nonce] 50)) := (Below.refl _ _).alloc (Nat.le_refl _) _
  have hP : Pair (w.alloc (.cells #[.int .i64 0, .int .i64 a, .int .i64 b, .bool m, .int .u64 nonce] 50)) gx gy (w.alloc (.cells #[.int .i64 0, .int .i64 a, .int .i64 b, .bool m, .int .u64 nonce] 50)) p p := (h.below hB).self
  have hG := Grow2.ofBelow (gx := gx) (gy := gy) hB
  have hN : Hid ((w.alloc (.cells #[.int .i64 0, .int .i64 a, .int .i64 b, .bool m, .int .u64 nonce] 50)).heap[w.heap.size]? = _) := hid (heap_alloc_new w _)
  have OK := hid ok; clear ok h hB
  go_enter Try.func22, Try.ntmps22
  go_wp2_with fail
  have D1 : (w.alloc (.cells #[.int .i64 0, .int .i64 a, .int .i64 b, .bool m, .int .u64 nonce] 50)).cell? ⟨w.heap.size, 1, none⟩ = some (.int .i64 a) := cellOf hN.out rfl
  clear hN
  generalize (w.alloc (.cells #[.int .i64 0, .int .i64 a, .int .i64 b, .bool m, .int .u64 nonce] 50)) = W at *
  have hP0 := hP.drew
  generalize w.heap.size = H at *
  go_region_held3 (fun w' => w'.cell? ⟨H, 1, none⟩ = some (.int .i64 a)) (first | exact D1 | exact hPx.cell D1 nx ny | exact hPy.cell D1 nx ny) (first | (go_at_call 12; (first | refine Calls.mono (pairX hPy (fun w' h' => samp_any gx p w' n a OK.out h')) ?_ | refine Calls.mono (pairX hP0 (fun w' h' => samp_any gx p w' n a OK.out h')) ?_ | refine Calls.mono (pairX hP (fun w' h' => samp_any gx p w' n a OK.out h')) ?_); rintro e w1 ⟨rfl, hPx⟩) | (go_at_call 29; (first | refine Calls.mono (pairY hPx (fun w' h' => rsamp_any gy p w' n a OK.out h')) ?_ | refine Calls.mono (pairY hP0 (fun w' h' => rsamp_any gy p w' n a OK.out h')) ?_ | refine Calls.mono (pairY hP (fun w' h' => rsamp_any gy p w' n a OK.out h')) ?_); rintro e w2 ⟨rfl, hPy⟩))
  all_goals
    go_wp2
    go_ret
    first | exact ⟨rfl, hPy.rebase w hG⟩ | exact ⟨rfl, hPx.rebase w hG⟩

set_option maxHeartbeats 2000000 in
theorem do_1 (gx gy : Nat) (p : PR) (w : World) (n a b : Int) (m : Bool) (nonce : Int) (ok : p.Ok n) (h : Pair w gx gy w p p) :
    Calls Try.prog 22 #[.pointer (some ⟨gx, 0, none⟩), .pointer (some ⟨gy, 0, none⟩), .agg #[.int .i64 1, .int .i64 a, .int .i64 b, .bool m, .int .u64 nonce]] w fun e w' => e = .returned (.bool true) ∧ Pair w' gx gy w (growQ a m b p) (growQ a m b p) := by
  have nx : w.heap.size ≠ gx := by have := h.x.lt; omega
  have ny : w.heap.size ≠ gy := by have := h.y.lt; omega
  have hB : Below w.heap.size w (w.alloc (.cells #[.int .i64 1, .int .i64 a, .int .i64 b, .bool m, .int .u64 nonce] 50)) := (Below.refl _ _).alloc (Nat.le_refl _) _
  have hP : Pair (w.alloc (.cells #[.int .i64 1, .int .i64 a, .int .i64 b, .bool m, .int .u64 nonce] 50)) gx gy (w.alloc (.cells #[.int .i64 1, .int .i64 a, .int .i64 b, .bool m, .int .u64 nonce] 50)) p p := (h.below hB).self
  have hG := Grow2.ofBelow (gx := gx) (gy := gy) hB
  have hN : Hid ((w.alloc (.cells #[.int .i64 1, .int .i64 a, .int .i64 b, .bool m, .int .u64 nonce] 50)).heap[w.heap.size]? = _) := hid (heap_alloc_new w _)
  have OK := hid ok; clear ok h hB
  go_enter Try.func22, Try.ntmps22
  go_wp2_with fail
  have D1 : (w.alloc (.cells #[.int .i64 1, .int .i64 a, .int .i64 b, .bool m, .int .u64 nonce] 50)).cell? ⟨w.heap.size, 1, none⟩ = some (.int .i64 a) := cellOf hN.out rfl
  have D3 : (w.alloc (.cells #[.int .i64 1, .int .i64 a, .int .i64 b, .bool m, .int .u64 nonce] 50)).cell? ⟨w.heap.size, 3, none⟩ = some (.bool m) := cellOf hN.out rfl
  have D2 : (w.alloc (.cells #[.int .i64 1, .int .i64 a, .int .i64 b, .bool m, .int .u64 nonce] 50)).cell? ⟨w.heap.size, 2, none⟩ = some (.int .i64 b) := cellOf hN.out rfl
  clear hN
  generalize (w.alloc (.cells #[.int .i64 1, .int .i64 a, .int .i64 b, .bool m, .int .u64 nonce] 50)) = W at *
  have hP0 := hP.drew
  generalize w.heap.size = H at *
  go_region_held3 (fun w' => w'.cell? ⟨H, 1, none⟩ = some (.int .i64 a) ∧ w'.cell? ⟨H, 3, none⟩ = some (.bool m) ∧ w'.cell? ⟨H, 2, none⟩ = some (.int .i64 b)) (first | exact ⟨D1, D3, D2⟩ | exact ⟨hPx.cell D1 nx ny, hPx.cell D3 nx ny, hPx.cell D2 nx ny⟩ | exact ⟨hPy.cell D1 nx ny, hPy.cell D3 nx ny, hPy.cell D2 nx ny⟩) (first | (go_at_call 18; (first | refine Calls.mono (pairX hPy (fun w' h' => grow_any gx p w' n a b m OK.out h')) ?_ | refine Calls.mono (pairX hP0 (fun w' h' => grow_any gx p w' n a b m OK.out h')) ?_ | refine Calls.mono (pairX hP (fun w' h' => grow_any gx p w' n a b m OK.out h')) ?_); rintro e w1 ⟨rfl, hPx⟩) | (go_at_call 30; (first | refine Calls.mono (pairY hPx (fun w' h' => rgrow_any gy p w' n a b m OK.out h')) ?_ | refine Calls.mono (pairY hP0 (fun w' h' => rgrow_any gy p w' n a b m OK.out h')) ?_ | refine Calls.mono (pairY hP (fun w' h' => rgrow_any gy p w' n a b m OK.out h')) ?_); rintro e w2 ⟨rfl, hPy⟩))
  all_goals
    go_wp2
    go_ret
    first | exact ⟨rfl, hPy.rebase w hG⟩ | exact ⟨rfl, hPx.rebase w hG⟩

set_option maxHeartbeats 2000000 in
theorem do_2 (gx gy : Nat) (p : PR) (w : World) (n a b : Int) (m : Bool) (nonce : Int) (ok : p.Ok n) (h : Pair w gx gy w p p) :
    Calls Try.prog 22 #[.pointer (some ⟨gx, 0, none⟩), .pointer (some ⟨gy, 0, none⟩), .agg #[.int .i64 2, .int .i64 a, .int .i64 b, .bool m, .int .u64 nonce]] w fun e w' => e = .returned (.bool true) ∧ Pair w' gx gy w (fastP p) (fastP p) := by
  have nx : w.heap.size ≠ gx := by have := h.x.lt; omega
  have ny : w.heap.size ≠ gy := by have := h.y.lt; omega
  have hB : Below w.heap.size w (w.alloc (.cells #[.int .i64 2, .int .i64 a, .int .i64 b, .bool m, .int .u64 nonce] 50)) := (Below.refl _ _).alloc (Nat.le_refl _) _
  have hP : Pair (w.alloc (.cells #[.int .i64 2, .int .i64 a, .int .i64 b, .bool m, .int .u64 nonce] 50)) gx gy (w.alloc (.cells #[.int .i64 2, .int .i64 a, .int .i64 b, .bool m, .int .u64 nonce] 50)) p p := (h.below hB).self
  have hG := Grow2.ofBelow (gx := gx) (gy := gy) hB
  have hN : Hid ((w.alloc (.cells #[.int .i64 2, .int .i64 a, .int .i64 b, .bool m, .int .u64 nonce] 50)).heap[w.heap.size]? = _) := hid (heap_alloc_new w _)
  have OK := hid ok; clear ok h hB
  go_enter Try.func22, Try.ntmps22
  go_wp2_with (first | (go_at_call 19; (first | refine Calls.mono (pairX hPy (fun w' h' => fast_calls gx p w' n OK.out h')) ?_ | refine Calls.mono (pairX hP0 (fun w' h' => fast_calls gx p w' n OK.out h')) ?_ | refine Calls.mono (pairX hP (fun w' h' => fast_calls gx p w' n OK.out h')) ?_); rintro e w1 ⟨rfl, hPx⟩) | (go_at_call 31; (first | refine Calls.mono (pairY hPx (fun w' h' => rfast_calls gy p w' n OK.out h')) ?_ | refine Calls.mono (pairY hP0 (fun w' h' => rfast_calls gy p w' n OK.out h')) ?_ | refine Calls.mono (pairY hP (fun w' h' => rfast_calls gy p w' n OK.out h')) ?_); rintro e w2 ⟨rfl, hPy⟩))
  go_ret
  exact ⟨rfl, hPy.rebase w hG⟩

set_option maxHeartbeats 2000000 in
theorem do_3 (gx gy : Nat) (p : PR) (w : World) (n a b : Int) (m : Bool) (nonce : Int) (ok : p.Ok n) (h : Pair w gx gy w p p) :
    Calls Try.prog 22 #[.pointer (some ⟨gx, 0, none⟩), .pointer (some ⟨gy, 0, none⟩), .agg #[.int .i64 3, .int .i64 a, .int .i64 b, .bool m, .int .u64 nonce]] w fun e w' => e = .returned (.bool true) ∧ Pair w' gx gy w (lateP p) (lateP p) := by
  have nx : w.heap.size ≠ gx := by have := h.x.lt; omega
  have ny : w.heap.size ≠ gy := by have := h.y.lt; omega
  have hB : Below w.heap.size w (w.alloc (.cells #[.int .i64 3, .int .i64 a, .int .i64 b, .bool m, .int .u64 nonce] 50)) := (Below.refl _ _).alloc (Nat.le_refl _) _
  have hP : Pair (w.alloc (.cells #[.int .i64 3, .int .i64 a, .int .i64 b, .bool m, .int .u64 nonce] 50)) gx gy (w.alloc (.cells #[.int .i64 3, .int .i64 a, .int .i64 b, .bool m, .int .u64 nonce] 50)) p p := (h.below hB).self
  have hG := Grow2.ofBelow (gx := gx) (gy := gy) hB
  have hN : Hid ((w.alloc (.cells #[.int .i64 3, .int .i64 a, .int .i64 b, .bool m, .int .u64 nonce] 50)).heap[w.heap.size]? = _) := hid (heap_alloc_new w _)
  have OK := hid ok; clear ok h hB
  go_enter Try.func22, Try.ntmps22
  go_wp2_with (first | (go_at_call 16; (first | refine Calls.mono (pairX hPy (fun w' h' => late_calls gx p w' n OK.out h')) ?_ | refine Calls.mono (pairX hP0 (fun w' h' => late_calls gx p w' n OK.out h')) ?_ | refine Calls.mono (pairX hP (fun w' h' => late_calls gx p w' n OK.out h')) ?_); rintro e w1 ⟨rfl, hPx⟩) | (go_at_call 32; (first | refine Calls.mono (pairY hPx (fun w' h' => rlate_calls gy p w' n OK.out h')) ?_ | refine Calls.mono (pairY hP0 (fun w' h' => rlate_calls gy p w' n OK.out h')) ?_ | refine Calls.mono (pairY hP (fun w' h' => rlate_calls gy p w' n OK.out h')) ?_); rintro e w2 ⟨rfl, hPy⟩))
  go_ret
  exact ⟨rfl, hPy.rebase w hG⟩

set_option maxHeartbeats 2000000 in
theorem do_4 (gx gy : Nat) (p : PR) (w : World) (n a b : Int) (m : Bool) (nonce : Int) (ok : p.Ok n) (h : Pair w gx gy w p p) :
    Calls Try.prog 22 #[.pointer (some ⟨gx, 0, none⟩), .pointer (some ⟨gy, 0, none⟩), .agg #[.int .i64 4, .int .i64 a, .int .i64 b, .bool m, .int .u64 nonce]] w fun e w' => e = .returned (.bool true) ∧ Pair w' gx gy w (faultP p) (faultP p) := by
  have nx : w.heap.size ≠ gx := by have := h.x.lt; omega
  have ny : w.heap.size ≠ gy := by have := h.y.lt; omega
  have hB : Below w.heap.size w (w.alloc (.cells #[.int .i64 4, .int .i64 a, .int .i64 b, .bool m, .int .u64 nonce] 50)) := (Below.refl _ _).alloc (Nat.le_refl _) _
  have hP : Pair (w.alloc (.cells #[.int .i64 4, .int .i64 a, .int .i64 b, .bool m, .int .u64 nonce] 50)) gx gy (w.alloc (.cells #[.int .i64 4, .int .i64 a, .int .i64 b, .bool m, .int .u64 nonce] 50)) p p := (h.below hB).self
  have hG := Grow2.ofBelow (gx := gx) (gy := gy) hB
  have hN : Hid ((w.alloc (.cells #[.int .i64 4, .int .i64 a, .int .i64 b, .bool m, .int .u64 nonce] 50)).heap[w.heap.size]? = _) := hid (heap_alloc_new w _)
  have OK := hid ok; clear ok h hB
  go_enter Try.func22, Try.ntmps22
  go_wp2_with (first | (go_at_call 17; (first | refine Calls.mono (pairX hPy (fun w' h' => fault_calls gx p w' n OK.out h')) ?_ | refine Calls.mono (pairX hP0 (fun w' h' => fault_calls gx p w' n OK.out h')) ?_ | refine Calls.mono (pairX hP (fun w' h' => fault_calls gx p w' n OK.out h')) ?_); rintro e w1 ⟨rfl, hPx⟩) | (go_at_call 33; (first | refine Calls.mono (pairY hPx (fun w' h' => rfault_calls gy p w' n OK.out h')) ?_ | refine Calls.mono (pairY hP0 (fun w' h' => rfault_calls gy p w' n OK.out h')) ?_ | refine Calls.mono (pairY hP (fun w' h' => rfault_calls gy p w' n OK.out h')) ?_); rintro e w2 ⟨rfl, hPy⟩))
  go_ret
  exact ⟨rfl, hPy.rebase w hG⟩

set_option maxHeartbeats 2000000 in
theorem do_5 (gx gy : Nat) (p : PR) (w : World) (n a b : Int) (m : Bool) (nonce : Int) (ok : p.Ok n) (h : Pair w gx gy w p p) :
    Calls Try.prog 22 #[.pointer (some ⟨gx, 0, none⟩), .pointer (some ⟨gy, 0, none⟩), .agg #[.int .i64 5, .int .i64 a, .int .i64 b, .bool m, .int .u64 nonce]] w fun e w' => e = .returned (.bool true) ∧ Pair w' gx gy w (goodP p) (goodP p) := by
  have nx : w.heap.size ≠ gx := by have := h.x.lt; omega
  have ny : w.heap.size ≠ gy := by have := h.y.lt; omega
  have hB : Below w.heap.size w (w.alloc (.cells #[.int .i64 5, .int .i64 a, .int .i64 b, .bool m, .int .u64 nonce] 50)) := (Below.refl _ _).alloc (Nat.le_refl _) _
  have hP : Pair (w.alloc (.cells #[.int .i64 5, .int .i64 a, .int .i64 b, .bool m, .int .u64 nonce] 50)) gx gy (w.alloc (.cells #[.int .i64 5, .int .i64 a, .int .i64 b, .bool m, .int .u64 nonce] 50)) p p := (h.below hB).self
  have hG := Grow2.ofBelow (gx := gx) (gy := gy) hB
  have hN : Hid ((w.alloc (.cells #[.int .i64 5, .int .i64 a, .int .i64 b, .bool m, .int .u64 nonce] 50)).heap[w.heap.size]? = _) := hid (heap_alloc_new w _)
  have OK := hid ok; clear ok h hB
  go_enter Try.func22, Try.ntmps22
  go_wp2_with (first | (go_at_call 15; (first | refine Calls.mono (pairX hPy (fun w' h' => good_calls gx p w' h')) ?_ | refine Calls.mono (pairX hP0 (fun w' h' => good_calls gx p w' h')) ?_ | refine Calls.mono (pairX hP (fun w' h' => good_calls gx p w' h')) ?_); rintro e w1 ⟨rfl, hPx⟩) | (go_at_call 34; (first | refine Calls.mono (pairY hPx (fun w' h' => rgood_calls gy p w' h')) ?_ | refine Calls.mono (pairY hP0 (fun w' h' => rgood_calls gy p w' h')) ?_ | refine Calls.mono (pairY hP (fun w' h' => rgood_calls gy p w' h')) ?_); rintro e w2 ⟨rfl, hPy⟩))
  go_ret
  exact ⟨rfl, hPy.rebase w hG⟩

set_option maxHeartbeats 2000000 in
theorem do_6 (gx gy : Nat) (p : PR) (w : World) (n a b : Int) (m : Bool) (nonce : Int) (ok : p.Ok n) (h : Pair w gx gy w p p) :
    Calls Try.prog 22 #[.pointer (some ⟨gx, 0, none⟩), .pointer (some ⟨gy, 0, none⟩), .agg #[.int .i64 6, .int .i64 a, .int .i64 b, .bool m, .int .u64 nonce]] w fun e w' => e = .returned (.bool true) ∧ Pair w' gx gy w (beatQ nonce a p) (beatQ nonce a p) := by
  have nx : w.heap.size ≠ gx := by have := h.x.lt; omega
  have ny : w.heap.size ≠ gy := by have := h.y.lt; omega
  have hB : Below w.heap.size w (w.alloc (.cells #[.int .i64 6, .int .i64 a, .int .i64 b, .bool m, .int .u64 nonce] 50)) := (Below.refl _ _).alloc (Nat.le_refl _) _
  have hP : Pair (w.alloc (.cells #[.int .i64 6, .int .i64 a, .int .i64 b, .bool m, .int .u64 nonce] 50)) gx gy (w.alloc (.cells #[.int .i64 6, .int .i64 a, .int .i64 b, .bool m, .int .u64 nonce] 50)) p p := (h.below hB).self
  have hG := Grow2.ofBelow (gx := gx) (gy := gy) hB
  have hN : Hid ((w.alloc (.cells #[.int .i64 6, .int .i64 a, .int .i64 b, .bool m, .int .u64 nonce] 50)).heap[w.heap.size]? = _) := hid (heap_alloc_new w _)
  have OK := hid ok; clear ok h hB
  go_enter Try.func22, Try.ntmps22
  go_wp2_with fail
  have D4 : (w.alloc (.cells #[.int .i64 6, .int .i64 a, .int .i64 b, .bool m, .int .u64 nonce] 50)).cell? ⟨w.heap.size, 4, none⟩ = some (.int .u64 nonce) := cellOf hN.out rfl
  have D1 : (w.alloc (.cells #[.int .i64 6, .int .i64 a, .int .i64 b, .bool m, .int .u64 nonce] 50)).cell? ⟨w.heap.size, 1, none⟩ = some (.int .i64 a) := cellOf hN.out rfl
  clear hN
  generalize (w.alloc (.cells #[.int .i64 6, .int .i64 a, .int .i64 b, .bool m, .int .u64 nonce] 50)) = W at *
  have hP0 := hP.drew
  generalize w.heap.size = H at *
  go_region_held3 (fun w' => w'.cell? ⟨H, 4, none⟩ = some (.int .u64 nonce) ∧ w'.cell? ⟨H, 1, none⟩ = some (.int .i64 a)) (first | exact ⟨D4, D1⟩ | exact ⟨hPx.cell D4 nx ny, hPx.cell D1 nx ny⟩ | exact ⟨hPy.cell D4 nx ny, hPy.cell D1 nx ny⟩) (first | (go_at_call 23; (first | refine Calls.mono (pairX hPy (fun w' h' => beat_any gx p w' nonce a h')) ?_ | refine Calls.mono (pairX hP0 (fun w' h' => beat_any gx p w' nonce a h')) ?_ | refine Calls.mono (pairX hP (fun w' h' => beat_any gx p w' nonce a h')) ?_); rintro e w1 ⟨rfl, hPx⟩) | (go_at_call 35; (first | refine Calls.mono (pairY hPx (fun w' h' => rbeat_any gy p w' nonce a h')) ?_ | refine Calls.mono (pairY hP0 (fun w' h' => rbeat_any gy p w' nonce a h')) ?_ | refine Calls.mono (pairY hP (fun w' h' => rbeat_any gy p w' nonce a h')) ?_); rintro e w2 ⟨rfl, hPy⟩))
  all_goals
    go_wp2
    go_ret
    first | exact ⟨rfl, hPy.rebase w hG⟩ | exact ⟨rfl, hPx.rebase w hG⟩

set_option maxHeartbeats 2000000 in
theorem do_d (gx gy : Nat) (p : PR) (w : World) (n a b : Int) (m : Bool) (nonce : Int) (ok : p.Ok n) (h : Pair w gx gy w p p) (d : Int) (q0 : ¬ d = 0) (q1 : ¬ d = 1) (q2 : ¬ d = 2) (q3 : ¬ d = 3) (q4 : ¬ d = 4) (q5 : ¬ d = 5) (q6 : ¬ d = 6) :
    Calls Try.prog 22 #[.pointer (some ⟨gx, 0, none⟩), .pointer (some ⟨gy, 0, none⟩), .agg #[.int .i64 d, .int .i64 a, .int .i64 b, .bool m, .int .u64 nonce]] w fun e w' => e = .returned (.bool true) ∧ Pair w' gx gy w (answQ nonce a p) (answQ nonce a p) := by
  have nx : w.heap.size ≠ gx := by have := h.x.lt; omega
  have ny : w.heap.size ≠ gy := by have := h.y.lt; omega
  have hB : Below w.heap.size w (w.alloc (.cells #[.int .i64 d, .int .i64 a, .int .i64 b, .bool m, .int .u64 nonce] 50)) := (Below.refl _ _).alloc (Nat.le_refl _) _
  have hP : Pair (w.alloc (.cells #[.int .i64 d, .int .i64 a, .int .i64 b, .bool m, .int .u64 nonce] 50)) gx gy (w.alloc (.cells #[.int .i64 d, .int .i64 a, .int .i64 b, .bool m, .int .u64 nonce] 50)) p p := (h.below hB).self
  have hG := Grow2.ofBelow (gx := gx) (gy := gy) hB
  have hN : Hid ((w.alloc (.cells #[.int .i64 d, .int .i64 a, .int .i64 b, .bool m, .int .u64 nonce] 50)).heap[w.heap.size]? = _) := hid (heap_alloc_new w _)
  have OK := hid ok; clear ok h hB
  go_enter Try.func22, Try.ntmps22
  go_wp2_with (first | (go_at_call 24; (first | refine Calls.mono (pairX hPy (fun w' h' => answ_any gx p w' n nonce a OK.out h')) ?_ | refine Calls.mono (pairX hP0 (fun w' h' => answ_any gx p w' n nonce a OK.out h')) ?_ | refine Calls.mono (pairX hP (fun w' h' => answ_any gx p w' n nonce a OK.out h')) ?_); rintro e w1 ⟨rfl, hPx⟩; have E1 := hPx.cell (cellOf (i := 1) hN.out rfl) nx ny; have E4 := hPx.cell (cellOf (i := 4) hN.out rfl) nx ny) | (go_at_call 36; (first | refine Calls.mono (pairY hPx (fun w' h' => ransw_any gy p w' n nonce a OK.out h')) ?_ | refine Calls.mono (pairY hP0 (fun w' h' => ransw_any gy p w' n nonce a OK.out h')) ?_ | refine Calls.mono (pairY hP (fun w' h' => ransw_any gy p w' n nonce a OK.out h')) ?_); rintro e w2 ⟨rfl, hPy⟩))
  go_ret
  exact ⟨rfl, hPy.rebase w hG⟩

theorem do_calls (gx gy : Nat) (p : PR) (w : World) (n d a b : Int) (m : Bool) (nonce : Int) (ok : p.Ok n) (h : Pair w gx gy w p p) :
    Calls Try.prog 22 #[.pointer (some ⟨gx, 0, none⟩), .pointer (some ⟨gy, 0, none⟩), .agg #[.int .i64 d, .int .i64 a, .int .i64 b, .bool m, .int .u64 nonce]] w fun e w' => e = .returned (.bool true) ∧ Pair w' gx gy w (deedP d a b m nonce p) (deedP d a b m nonce p) := by
  unfold deedP
  by_cases e0 : d = 0
  · subst e0; simp only [if_true]; exact do_0 gx gy p w n a b m nonce ok h
  rw [if_neg e0]
  by_cases e1 : d = 1
  · subst e1; simp only [if_true]; exact do_1 gx gy p w n a b m nonce ok h
  rw [if_neg e1]
  by_cases e2 : d = 2
  · subst e2; simp only [if_true]; exact do_2 gx gy p w n a b m nonce ok h
  rw [if_neg e2]
  by_cases e3 : d = 3
  · subst e3; simp only [if_true]; exact do_3 gx gy p w n a b m nonce ok h
  rw [if_neg e3]
  by_cases e4 : d = 4
  · subst e4; simp only [if_true]; exact do_4 gx gy p w n a b m nonce ok h
  rw [if_neg e4]
  by_cases e5 : d = 5
  · subst e5; simp only [if_true]; exact do_5 gx gy p w n a b m nonce ok h
  rw [if_neg e5]
  by_cases e6 : d = 6
  · subst e6; simp only [if_true]; exact do_6 gx gy p w n a b m nonce ok h
  rw [if_neg e6]
  exact do_d gx gy p w n a b m nonce ok h d e0 e1 e2 e3 e4 e5 e6
end Go.Proofs.Ytopcokjfgldblaa
