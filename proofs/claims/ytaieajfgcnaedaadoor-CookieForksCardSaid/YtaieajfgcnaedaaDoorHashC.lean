/-
  LAYER 5, WALKS: (*hash.Hash).round. A hash in memory; the table.
-/
import Derived.Test.YtaieajfgcnaedaaDoorHashB
import Derived.Test.YtaieajfgcnaedaaDoorOctN
import Derived.Deep.QuietTactic
import Derived.BigQuiet
import Derived.StillTailTactics
import Derived.Deep.CutRange
import Derived.Laws.CopyOwn
set_option linter.unusedVariables false
set_option linter.unusedSimpArgs false
namespace Go.Proofs.YtaieajfgcnaedaaDoor
open Go.RowKit
attribute [local go_sem] u_xor u_and u_or u_not u_add u_wadd u_sh u_mod u_compl

/-- A fact that no tactic looks into. -/
structure Box (p : Prop) : Prop where
  out : p
theorem grown_drew' {B : Nat} {w w1 : World} (h : Below B w w1) : Below B w w1.drew := below_drewN h 1
def wv (x : W32) : Value := .int .u32 (uw x)
def V8.cells (v : V8) : Array Value := #[.int .u32 (uw v.a), .int .u32 (uw v.b), .int .u32 (uw v.c), .int .u32 (uw v.d), .int .u32 (uw v.e), .int .u32 (uw v.f), .int .u32 (uw v.g), .int .u32 (uw v.h)]
/-- Block g is a hash. -/
def IsH (w : World) (g : Nat) (v : V8) (rest : Value) (n : Int) : Prop :=
  w.heap[g]? = some (.cells #[.int .u32 (uw v.a), .int .u32 (uw v.b), .int .u32 (uw v.c), .int .u32 (uw v.d), .int .u32 (uw v.e), .int .u32 (uw v.f), .int .u32 (uw v.g), .int .u32 (uw v.h), rest, .int .u64 n] 74 (0, 0))
/-- The table lies in its variable. -/
def Tab (w : World) : Prop := 0 < w.heap.size ∧ ∀ i, i < 64 → w.cell? ⟨0, i, none⟩ = some (.int .u32 (uw (kTab.getD i 0)))
theorem Tab.below {w w' : World} (h : Tab w) (hb : Below w.heap.size w w') : Tab w' := ⟨Nat.lt_of_lt_of_le h.1 hb.size, fun i hi => (hb.cell (p := ⟨0, i, none⟩) (by exact h.1)).trans (h.2 i hi)⟩
theorem cellOf {w : World} {g i : Nat} {cs : Array Value} {t : TypeId} {v : Value} (hg : w.heap[g]? = some (.cells cs t (0, 0))) (e : cs[i]? = some v) : w.cell? ⟨g, i, none⟩ = some v := by simp [World.cell?, hg, e]
theorem hs {w : World} {g i : Nat} {cs : Array Value} {t : TypeId} {v : Value} (hg : w.heap[g]? = some (.cells cs t (0, 0))) : (w.setCell ⟨g, i, none⟩ v).heap[g]? = some (.cells (cs.setIfInBounds i v) t (0, 0)) := heap_setCell_same _ _ _ _ _ _ hg

/-- The row of the schedule, of which k words stand. -/
def wCells (ws : List W32) : Array Value := (ws.map wv ++ List.replicate (64 - ws.length) (Value.int .u32 0)).toArray
theorem wCells_size (ws : List W32) (h : ws.length ≤ 64) : (wCells ws).size = 64 := by simp [wCells]; omega
theorem wCells_get (ws : List W32) (i : Nat) (h : i < ws.length) : (wCells ws)[i]? = some (.int .u32 (uw (ws.getD i 0))) := by
  simp [wCells, wv, List.getElem?_append_left, h, List.getD_eq_getElem?_getD]
theorem wCells_set (ws : List W32) (x : W32) (h : ws.length < 64) : (wCells ws).setIfInBounds ws.length (.int .u32 (uw x)) = wCells (ws ++ [x]) := by
  apply Array.ext'
  have e : 64 - ws.length = (64 - (ws.length + 1)) + 1 := by omega
  simp only [wCells, Array.toList_setIfInBounds, List.map_append, List.map_cons, List.map_nil, List.length_append, List.length_cons, List.length_nil]
  rw [e, List.replicate_succ, List.set_append_right _ _ (by simp)]
  simp [wv]
theorem wCells_free (ws : List W32) (h : ws.length < 64) : (wCells ws)[ws.length]? = some (.int .u32 0) := by
  unfold wCells
  rw [List.getElem?_toArray, List.getElem?_append_right (by simp)]
  have : 0 < 64 - ws.length := by omega
  simp [this]
theorem sched_len (b : List Int) : ∀ n, (sched b n).length = n
  | 0 => rfl
  | n + 1 => by simp [sched, sched_len b n]
theorem sched_take (b : List Int) (n i : Nat) (h : i < n) (hn : n ≤ 64) : (sched b n).getD i 0 = (sched b 64).getD i 0 := by
  have key : ∀ m, n ≤ m → (sched b m).getD i 0 = (sched b n).getD i 0 := by
    intro m hm
    induction m with
    | zero => have : n = 0 := by omega
              omega
    | succ m ih =>
      rcases Nat.lt_or_ge m n with h' | h'
      · have : m + 1 = n := by omega
        rw [this]
      · rw [← ih h']
        simp [sched, List.getD_eq_getElem?_getD, List.getElem?_append_left, sched_len, show i < m by omega]
  exact (key 64 hn).symm
theorem word4 (a b c d : Nat) (ha : a < 256) (hb : b < 256) (hc : c < 256) (hd : d < 256) :
    (BitVec.ofNat 32 a <<< 24 ||| BitVec.ofNat 32 b <<< 16 ||| BitVec.ofNat 32 c <<< 8 ||| BitVec.ofNat 32 d).toNat = ((a * 256 + b) * 256 + c) * 256 + d := by
  simp only [BitVec.toNat_or, BitVec.toNat_shiftLeft, BitVec.toNat_ofNat, Nat.shiftLeft_eq]
  rw [Nat.mod_eq_of_lt (show a < 2 ^ 32 by omega), Nat.mod_eq_of_lt (show b < 2 ^ 32 by omega), Nat.mod_eq_of_lt (show c < 2 ^ 32 by omega), Nat.mod_eq_of_lt (show d < 2 ^ 32 by omega),
    Nat.mod_eq_of_lt (show a * 2 ^ 24 < 2 ^ 32 by omega), Nat.mod_eq_of_lt (show b * 2 ^ 16 < 2 ^ 32 by omega), Nat.mod_eq_of_lt (show c * 2 ^ 8 < 2 ^ 32 by omega)]
  have e1 := Nat.two_pow_add_eq_or_of_lt (i := 24) (show b * 2 ^ 16 < 2 ^ 24 by omega) a
  have e2 := Nat.two_pow_add_eq_or_of_lt (i := 16) (show c * 2 ^ 8 < 2 ^ 16 by omega) (a * 256 + b)
  have e3 := Nat.two_pow_add_eq_or_of_lt (i := 8) (show d < 2 ^ 8 by omega) ((a * 256 + b) * 256 + c)
  rw [show a * 2 ^ 24 = 2 ^ 24 * a by omega, ← e1, show 2 ^ 24 * a + b * 2 ^ 16 = 2 ^ 16 * (a * 256 + b) by omega, ← e2, show 2 ^ 16 * (a * 256 + b) + c * 2 ^ 8 = 2 ^ 8 * ((a * 256 + b) * 256 + c) by omega, ← e3]
  omega
theorem word_num (xs : List Int) (k : Nat) (h : 4 * k + 4 ≤ xs.length) (hb : Bytes xs) : numI ((xs.drop (4 * k)).take 4) = uw (wordAt xs k) := by
  unfold uw
  have e : (xs.drop (4 * k)).take 4 = [xs.getD (4 * k) 0, xs.getD (4 * k + 1) 0, xs.getD (4 * k + 2) 0, xs.getD (4 * k + 3) 0] := by
    apply List.ext_getElem
    · simp; omega
    · intro i h1 h2
      have hi : i < 4 := by simpa using h2
      rcases (show i = 0 ∨ i = 1 ∨ i = 2 ∨ i = 3 by omega) with rfl | rfl | rfl | rfl <;> simp [List.getD_eq_getElem?_getD, show 4 * k < xs.length by omega, show 4 * k + 1 < xs.length by omega, show 4 * k + 2 < xs.length by omega, show 4 * k + 3 < xs.length by omega]
  rw [e]
  obtain ⟨a, ha⟩ := Int.eq_ofNat_of_zero_le (hb.at_ (4 * k)).1
  obtain ⟨b, hb'⟩ := Int.eq_ofNat_of_zero_le (hb.at_ (4 * k + 1)).1
  obtain ⟨c, hc⟩ := Int.eq_ofNat_of_zero_le (hb.at_ (4 * k + 2)).1
  obtain ⟨d, hd⟩ := Int.eq_ofNat_of_zero_le (hb.at_ (4 * k + 3)).1
  have a1 := (hb.at_ (4 * k)).2
  have b1 := (hb.at_ (4 * k + 1)).2
  have c1 := (hb.at_ (4 * k + 2)).2
  have d1 := (hb.at_ (4 * k + 3)).2
  unfold wordAt byteV numI
  rw [ha] at a1 ⊢
  rw [hb'] at b1 ⊢
  rw [hc] at c1 ⊢
  rw [hd] at d1 ⊢
  rw [BitVec.ofInt_natCast, BitVec.ofInt_natCast, BitVec.ofInt_natCast, BitVec.ofInt_natCast, word4 a b c d (by omega) (by omega) (by omega) (by omega)]
  simp only [List.foldl]
  omega

/-- The eight words, of which the first k have been added to. -/
def V8.list (v : V8) : List W32 := [v.a, v.b, v.c, v.d, v.e, v.f, v.g, v.h]
theorem V8.list_len (v : V8) : v.list.length = 8 := rfl
theorem V8.cells_get (v : V8) (k : Nat) (h : k < 8) : v.cells[k]? = some (.int .u32 (uw (v.list.getD k 0))) := by
  rcases (show k = 0 ∨ k = 1 ∨ k = 2 ∨ k = 3 ∨ k = 4 ∨ k = 5 ∨ k = 6 ∨ k = 7 by omega) with rfl | rfl | rfl | rfl | rfl | rfl | rfl | rfl <;> rfl
def wordsCells (l : List W32) (rest : Value) (n : Int) : Array Value := (l.map wv ++ [rest, .int .u64 n]).toArray
theorem wordsCells_get (l : List W32) (rest : Value) (n : Int) (i : Nat) (h : i < l.length) : (wordsCells l rest n)[i]? = some (.int .u32 (uw (l.getD i 0))) := by
  simp [wordsCells, wv, List.getElem?_append_left, h, List.getD_eq_getElem?_getD]
theorem wordsCells_set (l : List W32) (rest : Value) (n : Int) (i : Nat) (x : W32) (h : i < l.length) : (wordsCells l rest n).setIfInBounds i (.int .u32 (uw x)) = wordsCells (l.set i x) rest n := by
  apply Array.ext'
  simp only [wordsCells, Array.toList_setIfInBounds]
  rw [List.set_append_left _ _ (by simpa using h), List.map_set]
  rfl
def addK (v u : V8) (k : Nat) : List W32 := (List.range 8).map fun i => if i < k then v.list.getD i 0 + u.list.getD i 0 else v.list.getD i 0
theorem addK_len (v u : V8) (k : Nat) : (addK v u k).length = 8 := by simp [addK]
theorem addK_zero (v u : V8) : addK v u 0 = v.list := rfl
theorem addK_eight (v u : V8) : addK v u 8 = (addV v u).list := rfl
theorem addK_at (v u : V8) (k : Nat) (h : k < 8) : (addK v u k).getD k 0 = v.list.getD k 0 := by
  simp [addK, List.getD_eq_getElem?_getD, h]
theorem addK_succ (v u : V8) (k : Nat) (h : k < 8) : (addK v u k).set k (v.list.getD k 0 + u.list.getD k 0) = addK v u (k + 1) := by
  apply List.ext_getElem
  · simp [addK]
  · intro i h1 h2
    rw [List.getElem_set]
    by_cases e : k = i
    · subst e; simp [addK]
    · have : i < k + 1 ↔ i < k := by omega
      simp [addK, e, this]

set_option maxHeartbeats 6000000 in
set_option maxRecDepth 100000 in
theorem round_calls (g c : Nat) (A : Option Addr) (v : V8) (rest : Value) (n : Int) (xs : List Int) (hx : xs.length = 64) (w : World) (hT : Tab w) (hH : IsH w g v rest n) (hg0 : g ≠ 0) (hR : Rd w .u8 A xs) (hb : Bytes xs) (hc : 64 ≤ c) (hcm : c ≤ 9223372036854775807) :
    Calls Tryd.prog 39 #[.pointer (some ⟨g, 0, none⟩), .slice A 64 c] w fun e w' => e = .returned (.tuple #[]) ∧ IsH w' g (compress v xs) rest n ∧ w.grownBy w' (some g) := by
  have HT := hid hT; have HH := hid hH; have HR := hid hR; have HB := hid hb; have HX := hid hx
  clear hT hH hR hb hx
  go_enter Tryd.func39, Tryd.ntmps39
  go_wp2_with fail
  have hW0 : Hid ((w.alloc (.cells #[Value.int IntKind.u32 0, Value.int IntKind.u32 0, Value.int IntKind.u32 0, Value.int IntKind.u32 0, Value.int IntKind.u32 0, Value.int IntKind.u32 0, Value.int IntKind.u32 0, Value.int IntKind.u32 0, Value.int IntKind.u32 0, Value.int IntKind.u32 0, Value.int IntKind.u32 0, Value.int IntKind.u32 0, Value.int IntKind.u32 0, Value.int IntKind.u32 0, Value.int IntKind.u32 0, Value.int IntKind.u32 0, Value.int IntKind.u32 0, Value.int IntKind.u32 0, Value.int IntKind.u32 0, Value.int IntKind.u32 0, Value.int IntKind.u32 0, Value.int IntKind.u32 0, Value.int IntKind.u32 0, Value.int IntKind.u32 0, Value.int IntKind.u32 0, Value.int IntKind.u32 0, Value.int IntKind.u32 0, Value.int IntKind.u32 0, Value.int IntKind.u32 0, Value.int IntKind.u32 0, Value.int IntKind.u32 0, Value.int IntKind.u32 0, Value.int IntKind.u32 0, Value.int IntKind.u32 0, Value.int IntKind.u32 0, Value.int IntKind.u32 0, Value.int IntKind.u32 0, Value.int IntKind.u32 0, Value.int IntKind.u32 0, Value.int IntKind.u32 0, Value.int IntKind.u32 0, Value.int IntKind.u32 0, Value.int IntKind.u32 0, Value.int IntKind.u32 0, Value.int IntKind.u32 0, Value.int IntKind.u32 0, Value.int IntKind.u32 0, Value.int IntKind.u32 0, Value.int IntKind.u32 0, Value.int IntKind.u32 0, Value.int IntKind.u32 0, Value.int IntKind.u32 0, Value.int IntKind.u32 0, Value.int IntKind.u32 0, Value.int IntKind.u32 0, Value.int IntKind.u32 0, Value.int IntKind.u32 0, Value.int IntKind.u32 0, Value.int IntKind.u32 0, Value.int IntKind.u32 0, Value.int IntKind.u32 0, Value.int IntKind.u32 0, Value.int IntKind.u32 0, Value.int IntKind.u32 0] 89)).heap[w.heap.size]? = some (.cells (wCells (sched xs 0)) 89 (0, 0))) := hid (heap_alloc_new _ _)
  go_loopw [17] (fun i wr => ∃ k : Nat, k ≤ 64 ∧ i = .int .i64 k ∧ wr.heap[w.heap.size]? = some (.cells (wCells (sched xs k)) 89 (0, 0)) ∧ Below w.heap.size w wr) (fun i _ => 64 - (intOf i).toNat)
  case atStart => exact ⟨0, by omega, rfl, hW0.out, (Below.refl _ _).alloc (Nat.le_refl _) _⟩
  case round =>
    obtain ⟨k, hk, rfl, hW, hB⟩ := hrel
    clear hW0
    have HW := hid hW; clear hW
    by_cases hlt : k < 16
    · have hk16 : (k : Int) < 16 := by omega
      have c0 := cellOf HW.out (by have := wCells_free (sched xs k) (by rw [sched_len]; omega); rw [sched_len] at this; exact this)
      have f0 : wr.frozen? ⟨w.heap.size, k, none⟩ = false := frozen_of_row _ _ _ _ _ HW.out
      have hRr := HR.out.below hB
      have HN := hid (num_calls c 64 (4 * k) 4 A xs HX.out wr hRr HB.out (by omega) (by omega) (by omega) hc hcm)
      rw [word_num xs k (by rw [HX.out]; omega) HB.out] at HN
      have HS : Hid ((wCells (sched xs k)).setIfInBounds k (.int .u32 (uw (wordAt xs k))) = wCells (sched xs (k + 1))) := by
        have := wCells_set (sched xs k) (wordAt xs k) (by rw [sched_len]; omega)
        rw [sched_len] at this
        show _ = _
        rw [this]
        simp [sched, hlt]
      generalize wordAt xs k = W at *
      clear hRr
      go_wp2_with (go_at_call 45; refine Calls.mono HN.out ?_; rintro e w' ⟨rfl, rfl⟩)
      go_roundw
      case rel =>
        have h2 := hs (i := k) (v := .int .u32 (uw W)) HW.out
        rw [HS.out] at h2
        exact ⟨k + 1, by omega, by go_num, h2, hB.setCell (Nat.le_refl _) _⟩
      case measure => simp [intOf]; omega
    · by_cases hlt2 : k < 64
      · obtain ⟨m, rfl⟩ : ∃ m, k = m + 16 := ⟨k - 16, by omega⟩
        clear hlt
        have hm0 : (0 : Int) ≤ (m : Int) := by omega
        have hm1 : (m : Int) < 48 := by omega
        have hl := sched_len xs (m + 16)
        have a16 := cellOf HW.out (wCells_get (sched xs (m + 16)) m (by omega))
        have a15 := cellOf HW.out (wCells_get (sched xs (m + 16)) (m + 1) (by omega))
        have a7 := cellOf HW.out (wCells_get (sched xs (m + 16)) (m + 9) (by omega))
        have a2 := cellOf HW.out (wCells_get (sched xs (m + 16)) (m + 14) (by omega))
        have c0 := cellOf HW.out (by have := wCells_free (sched xs (m + 16)) (by omega); rw [hl] at this; exact this)
        have f0 : wr.frozen? ⟨w.heap.size, m + 16, none⟩ = false := frozen_of_row _ _ _ _ _ HW.out
        have HS : Box ((wCells (sched xs (m + 16))).setIfInBounds (m + 16) (.int .u32 (uw (schedNext (sched xs (m + 16)) (m + 16)))) = wCells (sched xs (m + 16 + 1))) := by
          have := wCells_set (sched xs (m + 16)) (schedNext (sched xs (m + 16)) (m + 16)) (by omega)
          rw [hl] at this
          refine ⟨?_⟩
          rw [this]
          simp [sched, show ¬ m + 16 < 16 by omega]
        have HE : Box (schedNext (sched xs (m + 16)) (m + 16) = (sched xs (m + 16)).getD m 0 + (rotr ((sched xs (m + 16)).getD (m + 1) 0) 7 ^^^ rotr ((sched xs (m + 16)).getD (m + 1) 0) 18 ^^^ (sched xs (m + 16)).getD (m + 1) 0 >>> 3) + (sched xs (m + 16)).getD (m + 9) 0 + (rotr ((sched xs (m + 16)).getD (m + 14) 0) 17 ^^^ rotr ((sched xs (m + 16)).getD (m + 14) 0) 19 ^^^ (sched xs (m + 16)).getD (m + 14) 0 >>> 10)) := ⟨rfl⟩
        generalize (sched xs (m + 16)).getD m 0 = q16 at *
        generalize (sched xs (m + 16)).getD (m + 1) 0 = q15 at *
        generalize (sched xs (m + 16)).getD (m + 9) 0 = q7 at *
        generalize (sched xs (m + 16)).getD (m + 14) 0 = q2 at *
        generalize schedNext (sched xs (m + 16)) (m + 16) = N at *
        have HB' := hid hB
        clear hB
        clear hl
        go_wp2_with fail
        go_quiet (fail)
        go_wp2_with fail
        have e3 := u_shr q15 3 8 (by decide)
        have e10 := u_shr q2 10 1024 (by decide)
        have W1 : (wr.drewN nq).cell? ⟨w.heap.size, m, none⟩ = some (.int .u32 (uw q16)) := a16
        have W2 : (wr.drewN nq).cell? ⟨w.heap.size, m + 9, none⟩ = some (.int .u32 (uw q7)) := a7
        have W3 : (wr.drewN nq).cell? ⟨w.heap.size, m + 16, none⟩ = some (.int .u32 0) := c0
        have W4 : (wr.drewN nq).frozen? ⟨w.heap.size, m + 16, none⟩ = false := f0
        have WH : Hid ((wr.drewN nq).heap[w.heap.size]? = _) := HW
        have WB : Hid (Below w.heap.size w (wr.drewN nq)) := hid (below_drewN HB'.out nq)
        clear a16 a15 a7 a2 c0 f0
        generalize wr.drewN nq = W at *
        have i1 : (0 : Int) ≤ (m : Int) + 9 := by omega
        have i2 : (m : Int) + 9 < 64 := by omega
        have i3 : ((m : Int) + 9).toNat = m + 9 := by omega
        have i4 : (0 : Int) ≤ (m : Int) + 16 := by omega
        have i5 : (m : Int) + 16 < 64 := by omega
        have i6 : ((m : Int) + 16).toNat = m + 16 := by omega
        have i7 : (m : Int) < 64 := by omega
        have e16 : IntKind.i64.wrap (m : Int) = (m : Int) := IntWalk.i64_in _ (by omega)
        have e7 : IntKind.i64.wrap ((m : Int) + 16 - 7) = (m : Int) + 9 := by rw [show (m : Int) + 16 - 7 = (m : Int) + 9 by omega]; exact IntWalk.i64_in _ (by omega)
        refine wp_region_still_tail 29 (by kernel_rfl) (by kernel_rfl) ?_
        simp only [List.take_succ_cons, List.take_zero, List.drop_succ_cons, List.drop_zero]
        change wpStill _ _ W.drew _ _ _
        repeat still_step
        still_call ((urot7 q15 _).mono fun e w' h => ⟨h.1, h.2.symm⟩)
        repeat still_step
        still_call ((urot18 q15 _).mono fun e w' h => ⟨h.1, h.2.symm⟩)
        repeat still_step
        still_call ((urot17 q2 _).mono fun e w' h => ⟨h.1, h.2.symm⟩)
        repeat still_step
        still_call ((urot19 q2 _).mono fun e w' h => ⟨h.1, h.2.symm⟩)
        repeat still_step
        refine wpStill_nil ?_
        clear e3 e10 e16 e7
        go_wp2
        go_roundw
        case rel =>
          have h2 := hs (i := m + 16) (v := .int .u32 (uw N)) WH.out
          rw [HS.out] at h2
          refine ⟨m + 16 + 1, by omega, by go_num, ?_, grown_drew' (WB.out.setCell (Nat.le_refl _) _)⟩
          rw [← HE.out]
          exact h2
        case measure => simp [intOf]; omega
      · obtain rfl : k = 64 := by omega
        clear hlt hlt2 hk
        have HB' := hid hB
        have hHr : IsH wr g v rest n := by
          have := hB.block g (lt_of_block HH.out)
          unfold IsH; rw [this]; exact HH.out
        have hTr := HT.out.below hB
        have hgl := lt_of_block HH.out
        have HHr := hid hHr; have HTr := hid hTr
        clear hHr hTr hB
        have x0 := cellOf (i := 0) HHr.out rfl
        have x1 := cellOf (i := 1) HHr.out rfl
        have x2 := cellOf (i := 2) HHr.out rfl
        have x3 := cellOf (i := 3) HHr.out rfl
        have x4 := cellOf (i := 4) HHr.out rfl
        have x5 := cellOf (i := 5) HHr.out rfl
        have x6 := cellOf (i := 6) HHr.out rfl
        have x7 := cellOf (i := 7) HHr.out rfl
        go_wp2_with fail
        have hV0 : Hid ((wr.alloc (.cells #[Value.int IntKind.u32 (uw v.a), Value.int IntKind.u32 (uw v.b), Value.int IntKind.u32 (uw v.c), Value.int IntKind.u32 (uw v.d), Value.int IntKind.u32 (uw v.e), Value.int IntKind.u32 (uw v.f), Value.int IntKind.u32 (uw v.g), Value.int IntKind.u32 (uw v.h)] 72)).heap[wr.heap.size]? = some (.cells (rounds8 (sched xs 64) v 0).cells 72 (0, 0))) := hid (heap_alloc_new _ _)
        have hsz0 := HB'.out.size
        have hBv : Hid (Below wr.heap.size wr (wr.alloc (.cells #[Value.int IntKind.u32 (uw v.a), Value.int IntKind.u32 (uw v.b), Value.int IntKind.u32 (uw v.c), Value.int IntKind.u32 (uw v.d), Value.int IntKind.u32 (uw v.e), Value.int IntKind.u32 (uw v.f), Value.int IntKind.u32 (uw v.g), Value.int IntKind.u32 (uw v.h)] 72))) := hid ((Below.refl _ _).alloc (Nat.le_refl _) _)
        clear x0 x1 x2 x3 x4 x5 x6 x7
        have hHlt : w.heap.size < wr.heap.size := lt_of_block HW.out
        have hgr : g < wr.heap.size := lt_of_block HHr.out
        generalize wr.alloc (.cells #[Value.int IntKind.u32 (uw v.a), Value.int IntKind.u32 (uw v.b), Value.int IntKind.u32 (uw v.c), Value.int IntKind.u32 (uw v.d), Value.int IntKind.u32 (uw v.e), Value.int IntKind.u32 (uw v.f), Value.int IntKind.u32 (uw v.g), Value.int IntKind.u32 (uw v.h)] 72) = wv0 at *
        obtain ⟨wo, rfl⟩ : ∃ wo : World, wo = wr := ⟨_, rfl⟩
        rw [show ((64 : Nat) : Int) = 64 from rfl]
        go_loopw [75] (fun i w2 => ∃ k : Nat, k ≤ 64 ∧ i = .int .i64 k ∧ w2.heap[wo.heap.size]? = some (.cells (rounds8 (sched xs 64) v k).cells 72 (0, 0)) ∧ Below wo.heap.size wo w2) (fun i _ => 64 - (intOf i).toNat)
        case atStart => exact ⟨0, by omega, rfl, hV0.out, hBv.out⟩
        case round =>
          obtain ⟨k, hk, rfl, hV, hB2⟩ := hrel
          clear hV0 hBv
          by_cases hlt : k < 64
          · have hk16 : (k : Int) < 64 := by omega
            have hk0 : (0 : Int) ≤ (k : Int) := by omega
            have hWw : wr.heap[w.heap.size]? = some (.cells (wCells (sched xs 64)) 89 (0, 0)) := (hB2.block _ hHlt).trans HW.out
            have wk := cellOf hWw (wCells_get (sched xs 64) k (by rw [sched_len]; omega))
            have tk := (HTr.out.below hB2).2 k hlt
            have HST : Box (rounds8 (sched xs 64) v (k + 1) = step (rounds8 (sched xs 64) v k) (kTab.getD k 0) ((sched xs 64).getD k 0)) := ⟨rfl⟩
            generalize kTab.getD k 0 = K at *
            generalize (sched xs 64).getD k 0 = Wk at *
            generalize rounds8 (sched xs 64) v k = R0 at *
            obtain ⟨ra, rb, rc, rd, re, rf, rg, rh⟩ := R0
            have HV := hid hV; clear hV
            have r0 : wr.cell? ⟨wo.heap.size, 0, none⟩ = some (.int .u32 (uw ra)) := cellOf HV.out rfl
            have r1 : wr.cell? ⟨wo.heap.size, 1, none⟩ = some (.int .u32 (uw rb)) := cellOf HV.out rfl
            have r2 : wr.cell? ⟨wo.heap.size, 2, none⟩ = some (.int .u32 (uw rc)) := cellOf HV.out rfl
            have r3 : wr.cell? ⟨wo.heap.size, 3, none⟩ = some (.int .u32 (uw rd)) := cellOf HV.out rfl
            have r4 : wr.cell? ⟨wo.heap.size, 4, none⟩ = some (.int .u32 (uw re)) := cellOf HV.out rfl
            have r5 : wr.cell? ⟨wo.heap.size, 5, none⟩ = some (.int .u32 (uw rf)) := cellOf HV.out rfl
            have r6 : wr.cell? ⟨wo.heap.size, 6, none⟩ = some (.int .u32 (uw rg)) := cellOf HV.out rfl
            have r7 : wr.cell? ⟨wo.heap.size, 7, none⟩ = some (.int .u32 (uw rh)) := cellOf HV.out rfl
            have rfz : ∀ i, wr.frozen? ⟨wo.heap.size, i, none⟩ = false := fun i => frozen_of_row _ _ i _ _ HV.out
            have HB3 := hid hB2
            clear hB2 hWw
            go_wp2_with fail
            go_quiet (fail)
            go_wp2_with fail
            have r0' : (wr.drewN nq).cell? ⟨wo.heap.size, 0, none⟩ = some (.int .u32 (uw ra)) := r0
            have r1' : (wr.drewN nq).cell? ⟨wo.heap.size, 1, none⟩ = some (.int .u32 (uw rb)) := r1
            have r2' : (wr.drewN nq).cell? ⟨wo.heap.size, 2, none⟩ = some (.int .u32 (uw rc)) := r2
            have r3' : (wr.drewN nq).cell? ⟨wo.heap.size, 3, none⟩ = some (.int .u32 (uw rd)) := r3
            have r4' : (wr.drewN nq).cell? ⟨wo.heap.size, 4, none⟩ = some (.int .u32 (uw re)) := r4
            have r5' : (wr.drewN nq).cell? ⟨wo.heap.size, 5, none⟩ = some (.int .u32 (uw rf)) := r5
            have r6' : (wr.drewN nq).cell? ⟨wo.heap.size, 6, none⟩ = some (.int .u32 (uw rg)) := r6
            have r7' : (wr.drewN nq).cell? ⟨wo.heap.size, 7, none⟩ = some (.int .u32 (uw rh)) := r7
            have wk' : (wr.drewN nq).cell? ⟨w.heap.size, k, none⟩ = some (.int .u32 (uw Wk)) := wk
            have tk' : (wr.drewN nq).cell? ⟨0, k, none⟩ = some (.int .u32 (uw K)) := tk
            have rfz' : ∀ i, (wr.drewN nq).frozen? ⟨wo.heap.size, i, none⟩ = false := rfz
            have HV' : Hid ((wr.drewN nq).heap[wo.heap.size]? = _) := HV
            have HB3' : Hid (Below wo.heap.size wo (wr.drewN nq)) := hid (below_drewN HB3.out _)
            clear r0 r1 r2 r3 r4 r5 r6 r7 wk tk rfz HV HB3
            generalize wr.drewN nq = W1 at *
            have r0 := r0'
            clear r0'
            have r1 := r1'
            clear r1'
            have r2 := r2'
            clear r2'
            have r3 := r3'
            clear r3'
            have r4 := r4'
            clear r4'
            have r5 := r5'
            clear r5'
            have r6 := r6'
            clear r6'
            have r7 := r7'
            clear r7'
            have wk := wk'
            clear wk'
            have tk := tk'
            clear tk'
            have rfz := rfz'
            clear rfz'
            have HV := HV'
            clear HV'
            have HB3 := HB3'
            clear HB3'
            refine wp_region_still_lit (by kernel_rfl) (by kernel_rfl) ?_
            change wpStill _ _ W1.drew _ _ _
            repeat still_step
            still_call ((urot6 re _).mono fun e w' h => ⟨h.1, h.2.symm⟩)
            repeat still_step
            still_call ((urot11 re _).mono fun e w' h => ⟨h.1, h.2.symm⟩)
            repeat still_step
            still_call ((urot25 re _).mono fun e w' h => ⟨h.1, h.2.symm⟩)
            repeat still_step
            refine wpStill_nil ?_
            go_wp2_with fail
            have r0' : (W1.drew).cell? ⟨wo.heap.size, 0, none⟩ = some (.int .u32 (uw ra)) := r0
            have r1' : (W1.drew).cell? ⟨wo.heap.size, 1, none⟩ = some (.int .u32 (uw rb)) := r1
            have r2' : (W1.drew).cell? ⟨wo.heap.size, 2, none⟩ = some (.int .u32 (uw rc)) := r2
            have r3' : (W1.drew).cell? ⟨wo.heap.size, 3, none⟩ = some (.int .u32 (uw rd)) := r3
            have r4' : (W1.drew).cell? ⟨wo.heap.size, 4, none⟩ = some (.int .u32 (uw re)) := r4
            have r5' : (W1.drew).cell? ⟨wo.heap.size, 5, none⟩ = some (.int .u32 (uw rf)) := r5
            have r6' : (W1.drew).cell? ⟨wo.heap.size, 6, none⟩ = some (.int .u32 (uw rg)) := r6
            have r7' : (W1.drew).cell? ⟨wo.heap.size, 7, none⟩ = some (.int .u32 (uw rh)) := r7
            have wk' : (W1.drew).cell? ⟨w.heap.size, k, none⟩ = some (.int .u32 (uw Wk)) := wk
            have tk' : (W1.drew).cell? ⟨0, k, none⟩ = some (.int .u32 (uw K)) := tk
            have rfz' : ∀ i, (W1.drew).frozen? ⟨wo.heap.size, i, none⟩ = false := rfz
            have HV' : Hid ((W1.drew).heap[wo.heap.size]? = _) := HV
            have HB3' : Hid (Below wo.heap.size wo (W1.drew)) := hid (below_drewN HB3.out 1)
            clear r0 r1 r2 r3 r4 r5 r6 r7 wk tk rfz HV HB3
            generalize W1.drew = W2 at *
            have r0 := r0'
            clear r0'
            have r1 := r1'
            clear r1'
            have r2 := r2'
            clear r2'
            have r3 := r3'
            clear r3'
            have r4 := r4'
            clear r4'
            have r5 := r5'
            clear r5'
            have r6 := r6'
            clear r6'
            have r7 := r7'
            clear r7'
            have wk := wk'
            clear wk'
            have tk := tk'
            clear tk'
            have rfz := rfz'
            clear rfz'
            have HV := HV'
            clear HV'
            have HB3 := HB3'
            clear HB3'
            refine wp_region_still_lit (by kernel_rfl) (by kernel_rfl) ?_
            change wpStill _ _ W2.drew _ _ _
            repeat still_step
            still_call ((urot2 ra _).mono fun e w' h => ⟨h.1, h.2.symm⟩)
            repeat still_step
            still_call ((urot13 ra _).mono fun e w' h => ⟨h.1, h.2.symm⟩)
            repeat still_step
            still_call ((urot22 ra _).mono fun e w' h => ⟨h.1, h.2.symm⟩)
            repeat still_step
            refine wpStill_nil ?_
            go_wp2_with fail
            have r0' : (W2.drew).cell? ⟨wo.heap.size, 0, none⟩ = some (.int .u32 (uw ra)) := r0
            have r1' : (W2.drew).cell? ⟨wo.heap.size, 1, none⟩ = some (.int .u32 (uw rb)) := r1
            have r2' : (W2.drew).cell? ⟨wo.heap.size, 2, none⟩ = some (.int .u32 (uw rc)) := r2
            have r3' : (W2.drew).cell? ⟨wo.heap.size, 3, none⟩ = some (.int .u32 (uw rd)) := r3
            have r4' : (W2.drew).cell? ⟨wo.heap.size, 4, none⟩ = some (.int .u32 (uw re)) := r4
            have r5' : (W2.drew).cell? ⟨wo.heap.size, 5, none⟩ = some (.int .u32 (uw rf)) := r5
            have r6' : (W2.drew).cell? ⟨wo.heap.size, 6, none⟩ = some (.int .u32 (uw rg)) := r6
            have HV' : Hid ((W2.drew).heap[wo.heap.size]? = _) := HV
            have HB3' : Hid (Below wo.heap.size wo (W2.drew)) := hid (below_drewN HB3.out 1)
            clear r0 r1 r2 r3 r4 r5 r6 r7 wk tk rfz HV HB3
            rw [show ({ heap := W2.heap, tape := W2.tape, drawn := W2.drawn + 1, os := W2.os, output := W2.output } : World) = W2.drew from rfl]
            generalize W2.drew = W3 at *
            refine wp_region_still_tail 2 (by kernel_rfl) (by kernel_rfl) ?_
            simp only [List.take_succ_cons, List.take_zero, List.drop_succ_cons, List.drop_zero]
            change wpStill _ _ W3.drew _ _ _
            repeat still_step
            refine wpStill_nil ?_
            refine wpList_copy_splice rfl (.tmp 136) (.tmp 137) 67 67 rfl 38 (by kernel_rfl) (by kernel_rfl) (some ⟨wo.heap.size, 1, none⟩) (some ⟨wo.heap.size, 0, none⟩) 7 7 7 8 rfl rfl wo.heap.size 1 [.int .u32 (uw ra), .int .u32 (uw rb), .int .u32 (uw rc), .int .u32 (uw rd), .int .u32 (uw re), .int .u32 (uw rf), .int .u32 (uw rg), .int .u32 (uw rh)] 72 HV'.out [.int .u32 (uw ra), .int .u32 (uw rb), .int .u32 (uw rc), .int .u32 (uw rd), .int .u32 (uw re), .int .u32 (uw rf), .int .u32 (uw rg)] rfl (fun _ => ⟨rfl, _, rfl, ?_⟩) (Nat.le_refl 8) (by simp [Value.oneCell']) wo.heap.size wo (below_drewN HB3'.out 1) (Nat.le_refl _) ?_
            · intro j v' hj
              rcases j with _ | _ | _ | _ | _ | _ | _ | j
              · injection hj with hj; rw [← hj]; exact r0'
              · injection hj with hj; rw [← hj]; exact r1'
              · injection hj with hj; rw [← hj]; exact r2'
              · injection hj with hj; rw [← hj]; exact r3'
              · injection hj with hj; rw [← hj]; exact r4'
              · injection hj with hj; rw [← hj]; exact r5'
              · injection hj with hj; rw [← hj]; exact r6'
              · simp at hj
            intro W4 HG4 hB4
            clear r0' r1' r2' r3' r4' r5' r6' HV' HB3'
            have HB4 := hid hB4
            clear hB4
            have HG : Hid (W4.heap[wo.heap.size]? = some (.cells #[.int .u32 (uw ra), .int .u32 (uw ra), .int .u32 (uw rb), .int .u32 (uw rc), .int .u32 (uw rd), .int .u32 (uw re), .int .u32 (uw rf), .int .u32 (uw rg)] 72 (0, 0))) := hid HG4.out
            clear HG4
            have s4 : W4.cell? ⟨wo.heap.size, 4, none⟩ = some (.int .u32 (uw rd)) := cellOf HG.out rfl
            have s0 : W4.cell? ⟨wo.heap.size, 0, none⟩ = some (.int .u32 (uw ra)) := cellOf HG.out rfl
            have sf : ∀ i, W4.frozen? ⟨wo.heap.size, i, none⟩ = false := fun i => frozen_of_row _ _ i _ _ HG.out
            go_wp2_with fail
            go_roundw
            case rel =>
              have h2 := hs (i := 0) (v := .int .u32 (uw ((rh + (rotr re 6 ^^^ rotr re 11 ^^^ rotr re 25) + (re &&& rf ^^^ ~~~re &&& rg) + K + Wk) + ((rotr ra 2 ^^^ rotr ra 13 ^^^ rotr ra 22) + (ra &&& rb ^^^ ra &&& rc ^^^ rb &&& rc))))) (hs (i := 4) (v := .int .u32 (uw (rd + (rh + (rotr re 6 ^^^ rotr re 11 ^^^ rotr re 25) + (re &&& rf ^^^ ~~~re &&& rg) + K + Wk)))) HG.out)
              refine ⟨k + 1, by omega, by go_num, ?_, (HB4.out.setCell (Nat.le_refl _) _).setCell (Nat.le_refl _) _⟩
              rw [HST.out]
              exact h2
            case measure => simp [intOf]; omega
          · obtain rfl : k = 64 := by omega
            clear hlt hk
            have HHv : Hid (wr.heap[g]? = some (.cells (wordsCells (addK v (rounds8 (sched xs 64) v 64) 0) rest n) 74 (0, 0))) := hid ((hB2.block _ hgr).trans (by rw [addK_zero]; exact HHr.out))
            have HVv : Hid (wr.heap[wo.heap.size]? = some (.cells (rounds8 (sched xs 64) v 64).cells 72 (0, 0))) := hid hV
            have HEQ : Box (compress v xs = addV v (rounds8 (sched xs 64) v 64)) := ⟨rfl⟩
            generalize rounds8 (sched xs 64) v 64 = R at *
            have HGr : Hid (w.grownBy wr (some g)) := hid (grown_trans (grown_below HB'.out) (grown_below hB2))
            have hgwo : Hid (g ≠ wo.heap.size) := hid (Nat.ne_of_lt hgr)
            clear hB2 hV
            go_wp2_with fail
            obtain ⟨wp, rfl⟩ : ∃ wp : World, wp = wr := ⟨_, rfl⟩
            rw [show ((64 : Nat) : Int) = 64 from rfl]
            go_loopw [149] (fun i w2 => ∃ k : Nat, k ≤ 8 ∧ i = .int .i64 k ∧ w2.heap[g]? = some (.cells (wordsCells (addK v R k) rest n) 74 (0, 0)) ∧ w2.heap[wo.heap.size]? = some (.cells R.cells 72 (0, 0)) ∧ w.grownBy w2 (some g)) (fun i _ => 8 - (intOf i).toNat)
            case atStart => exact ⟨0, by omega, rfl, HHv.out, HVv.out, HGr.out⟩
            case round =>
              obtain ⟨k, hk, rfl, hH2, hV2, hG2⟩ := hrel
              clear HHv HVv HGr
              have HH2 := hid hH2; have HV2 := hid hV2; have HG2 := hid hG2
              clear hH2 hV2 hG2
              by_cases hlt : k < 8
              · have hk16 : (k : Int) < 8 := by omega
                have hk0 : (0 : Int) ≤ (k : Int) := by omega
                have c0 : wr.cell? ⟨g, k, none⟩ = some (.int .u32 (uw (v.list.getD k 0))) := cellOf HH2.out (by rw [wordsCells_get _ _ _ _ (by rw [addK_len]; exact hlt), addK_at _ _ _ hlt])
                have c1 : wr.cell? ⟨wo.heap.size, k, none⟩ = some (.int .u32 (uw (R.list.getD k 0))) := cellOf HV2.out (V8.cells_get R k hlt)
                have f0 : wr.frozen? ⟨g, k, none⟩ = false := frozen_of_row _ _ _ _ _ HH2.out
                have HS : Box ((wordsCells (addK v R k) rest n).setIfInBounds k (.int .u32 (uw (v.list.getD k 0 + R.list.getD k 0))) = wordsCells (addK v R (k + 1)) rest n) := ⟨by rw [wordsCells_set _ _ _ _ _ (by rw [addK_len]; exact hlt), addK_succ _ _ _ hlt]⟩
                generalize v.list.getD k 0 = P0 at *
                generalize R.list.getD k 0 = P1 at *
                go_wp2_with fail
                refine wp_region_still_tail 13 (by kernel_rfl) (by kernel_rfl) ?_
                simp only [List.take_succ_cons, List.take_zero, List.drop_succ_cons, List.drop_zero]
                change wpStill _ _ wr.drew _ _ _
                repeat still_step
                refine wpStill_nil ?_
                go_wp2_with fail
                go_roundw
                case rel =>
                  have h2 := hs (i := k) (v := .int .u32 (uw (P0 + P1))) HH2.out
                  rw [HS.out] at h2
                  refine ⟨k + 1, by omega, by go_num, h2, ?_, grown_trans (grown_drewN HG2.out 1) (grown_set _ _ _ _)⟩
                  exact (Below.heap_setCell _ _ _ _ hgwo.out.symm).trans HV2.out
                case measure => simp [intOf]; omega
              · obtain rfl : k = 8 := by omega
                clear hlt hk
                go_wp2
                refine bodyPost_end (results_none rfl _ _ _) rfl ⟨rfl, ?_, HG2.out⟩
                have := HH2.out
                rw [addK_eight] at this
                rw [HEQ.out]
                exact this
end Go.Proofs.YtaieajfgcnaedaaDoor
