/-
  LAYER 5, WALKS: a nil hash; two sums compared; HashNone, HashSame, HashKeys.
-/
import Derived.Test.YtaieajfgcnaedaaDoorHashH
import Derived.ChangeKeysEq
set_option linter.unusedVariables false
set_option linter.unusedSimpArgs false
namespace Go.Proofs.YtaieajfgcnaedaaDoor
open Go.RowKit

theorem eq_items {P : Program} {e : TypeId} {i : TypeInfo} {k : IntKind} (d : Nat) (hi : P.info? e = some i) (he : P.underlying e = some (.int k)) (hs : i.size = 1) (xs : List Int) (w : World) :
    ∀ is : List Nat, (∀ j ∈ is, j < xs.length) → (Op.eqItems (d + 1) e 1 ((xs.map (Value.int k)).toArray) ((xs.map (Value.int k)).toArray) is).run P w = .ok true w := by
  intro is
  induction is with
  | nil => intro _; simp [Op.eqItems]
  | cons j is ih =>
    intro h
    have hj : j < xs.length := h j (by simp)
    have hv : ((xs.map (Value.int k)).toArray)[j]? = some (.int k (xs[j])) := by simp [hj]
    have hp : (part e ((xs.map (Value.int k)).toArray) j).run P w = .ok (.int k (xs[j])) w := by
      simp [part, isAgg, run_underlying he, hv, hj]
    simp only [Op.eqItems, Nat.mul_one, Sem.run_bind, hp, Result.andThen_ok, run_equalIn_int w d e k k _ _ he, beq_self_eq_true, Bool.not_true, Bool.false_eq_true, if_false]
    exact ih (fun j hj => h j (by simp [hj]))
/-- Two arrays of whole numbers that are one. -/
theorem eq_arr {P : Program} {t e : TypeId} {n : Nat} {i : TypeInfo} {k : IntKind} (hu : P.underlying t = some (.array n e)) (hi : P.info? e = some i) (he : P.underlying e = some (.int k)) (hs : i.size = 1) (hc : P.cellsOf e = 1) (xs : List Int) (hl : xs.length = n) (w : World) :
    (binOp .eql t (.agg ((xs.map (Value.int k)).toArray)) (.agg ((xs.map (Value.int k)).toArray))).run P w = .ok (.bool true) w := by
  have h1 := run_equalIn_array w 9999 ((xs.map (Value.int k)).toArray) ((xs.map (Value.int k)).toArray) hu hi
  rw [hc, eq_items 9998 hi he hs xs w (List.range n) (fun j hj => by rw [hl]; exact List.mem_range.1 hj)] at h1
  rw [run_eql_struct, h1]
  rfl
theorem eq32 (xs : List Int) (hl : xs.length = 32) (w : World) : (binOp .eql 24 (.agg ((xs.map (Value.int .u8)).toArray)) (.agg ((xs.map (Value.int .u8)).toArray))).run Tryd.prog w = .ok (.bool true) w := by
  obtain ⟨i, hi, _, hs, _⟩ := elemB.2
  exact eq_arr Tryd.underlying24 hi Tryd.underlying5 hs (by kernel_rfl) xs hl w

theorem write_nil (w : World) (A : Option Addr) (n c : Nat) : Calls Tryd.prog 20 #[.pointer none, .slice A n c] w fun e w' => e = .returned (.int .i64 1) ∧ w = w' := by
  go_enter Tryd.func20, Tryd.ntmps20
  go_wp2
  go_ret
  exact ⟨rfl, rfl⟩
theorem fork_nil (w : World) : Calls Tryd.prog 22 #[.pointer none] w fun e w' => e = .returned (.pointer none) ∧ w = w' := by
  go_enter Tryd.func22, Tryd.ntmps22
  go_wp2
  go_ret
  exact ⟨rfl, rfl⟩
set_option maxRecDepth 100000 in
theorem hsum_nil (w : World) : Calls Tryd.prog 21 #[.pointer none] w fun e w' => e = .returned (.agg (((List.replicate 32 0).map (Value.int .u8)).toArray)) ∧ Below w.heap.size w w' := by
  go_enter Tryd.func21, Tryd.ntmps21
  go_wp2_with (with_reducible refine hold_op (o := ⟨some 13, _, _, _, _, _⟩) ?_)
  have hO0 : (w.alloc (.cells #[Value.int IntKind.u8 0, Value.int IntKind.u8 0, Value.int IntKind.u8 0, Value.int IntKind.u8 0, Value.int IntKind.u8 0, Value.int IntKind.u8 0, Value.int IntKind.u8 0, Value.int IntKind.u8 0, Value.int IntKind.u8 0, Value.int IntKind.u8 0, Value.int IntKind.u8 0, Value.int IntKind.u8 0, Value.int IntKind.u8 0, Value.int IntKind.u8 0, Value.int IntKind.u8 0, Value.int IntKind.u8 0, Value.int IntKind.u8 0, Value.int IntKind.u8 0, Value.int IntKind.u8 0, Value.int IntKind.u8 0, Value.int IntKind.u8 0, Value.int IntKind.u8 0, Value.int IntKind.u8 0, Value.int IntKind.u8 0, Value.int IntKind.u8 0, Value.int IntKind.u8 0, Value.int IntKind.u8 0, Value.int IntKind.u8 0, Value.int IntKind.u8 0, Value.int IntKind.u8 0, Value.int IntKind.u8 0, Value.int IntKind.u8 0] 24)).heap[w.heap.size]? = some (.cells (((List.replicate 32 0).map (Value.int .u8)).toArray) 24 (0, 0)) := heap_alloc_new _ _
  have hB0 : Below w.heap.size w (w.alloc (.cells #[Value.int IntKind.u8 0, Value.int IntKind.u8 0, Value.int IntKind.u8 0, Value.int IntKind.u8 0, Value.int IntKind.u8 0, Value.int IntKind.u8 0, Value.int IntKind.u8 0, Value.int IntKind.u8 0, Value.int IntKind.u8 0, Value.int IntKind.u8 0, Value.int IntKind.u8 0, Value.int IntKind.u8 0, Value.int IntKind.u8 0, Value.int IntKind.u8 0, Value.int IntKind.u8 0, Value.int IntKind.u8 0, Value.int IntKind.u8 0, Value.int IntKind.u8 0, Value.int IntKind.u8 0, Value.int IntKind.u8 0, Value.int IntKind.u8 0, Value.int IntKind.u8 0, Value.int IntKind.u8 0, Value.int IntKind.u8 0, Value.int IntKind.u8 0, Value.int IntKind.u8 0, Value.int IntKind.u8 0, Value.int IntKind.u8 0, Value.int IntKind.u8 0, Value.int IntKind.u8 0, Value.int IntKind.u8 0, Value.int IntKind.u8 0] 24)) := (Below.refl _ _).alloc (Nat.le_refl _) _
  have HO0 := hid hO0; have HB0 := hid hB0
  clear hO0 hB0
  generalize w.alloc (.cells #[Value.int IntKind.u8 0, Value.int IntKind.u8 0, Value.int IntKind.u8 0, Value.int IntKind.u8 0, Value.int IntKind.u8 0, Value.int IntKind.u8 0, Value.int IntKind.u8 0, Value.int IntKind.u8 0, Value.int IntKind.u8 0, Value.int IntKind.u8 0, Value.int IntKind.u8 0, Value.int IntKind.u8 0, Value.int IntKind.u8 0, Value.int IntKind.u8 0, Value.int IntKind.u8 0, Value.int IntKind.u8 0, Value.int IntKind.u8 0, Value.int IntKind.u8 0, Value.int IntKind.u8 0, Value.int IntKind.u8 0, Value.int IntKind.u8 0, Value.int IntKind.u8 0, Value.int IntKind.u8 0, Value.int IntKind.u8 0, Value.int IntKind.u8 0, Value.int IntKind.u8 0, Value.int IntKind.u8 0, Value.int IntKind.u8 0, Value.int IntKind.u8 0, Value.int IntKind.u8 0, Value.int IntKind.u8 0, Value.int IntKind.u8 0] 24) = w1 at *
  have HS : Hid ((((List.replicate 32 (0 : Int)).map (Value.int .u8)).toArray).size = 32) := hid (by simp)
  have HO : Hid ((((List.replicate 32 (0 : Int)).map (Value.int .u8)).toArray).all (·.oneCell') = true) := hid (map_one _)
  obtain ⟨R, hR⟩ : ∃ R, R = ((List.replicate 32 (0 : Int)).map (Value.int .u8)).toArray := ⟨_, rfl⟩
  rw [← hR] at HO0 HS HO
  have HR : Box (R = ((List.replicate 32 (0 : Int)).map (Value.int .u8)).toArray) := ⟨hR⟩
  clear hR
  refine hid ?_
  refine wpList_load_row rfl 24 (.tmp 2) rfl w.heap.size rfl 24 R (0, 0) _ HO0.out Tryd.underlying24 rfl (by rw [HS.out]; kernel_rfl) ?_
  refine wpList_store_row rfl 24 (.tmp 2) (.tmp 13) rfl w.heap.size R rfl rfl 24 R HO0.out (by rw [HS.out]; kernel_rfl) rfl HO.out ?_
  rw [setRow_self w1 w.heap.size R 24 (0, 0) HO0.out]
  go_wp2
  refine bodyPost_ret (v := .agg R) ?_ rfl ⟨by rw [HR.out], HB0.out⟩
  exact results_cell_row (p := 2) rfl _ w1 w.heap.size 24 R (0, 0) _ rfl HO0.out Tryd.underlying24 rfl (by rw [HS.out]; kernel_rfl)
set_option maxRecDepth 100000 in
theorem HashNone_calls (w : World) (hT : Tab w) (A : Option Addr) (n c : Nat) :
    Calls Tryd.prog 7 #[.slice A n c] w fun e w' => e = .returned (.bool true) ∧ Below w.heap.size w w' := by
  have HT := hid hT; clear hT
  have h0 := eq32 (List.replicate 32 0) (by simp)
  have HE : Box (((List.replicate 32 (0 : Int)).map (Value.int .u8)).toArray = #[Value.int IntKind.u8 0, Value.int IntKind.u8 0, Value.int IntKind.u8 0, Value.int IntKind.u8 0, Value.int IntKind.u8 0, Value.int IntKind.u8 0, Value.int IntKind.u8 0, Value.int IntKind.u8 0, Value.int IntKind.u8 0, Value.int IntKind.u8 0, Value.int IntKind.u8 0, Value.int IntKind.u8 0, Value.int IntKind.u8 0, Value.int IntKind.u8 0, Value.int IntKind.u8 0, Value.int IntKind.u8 0, Value.int IntKind.u8 0, Value.int IntKind.u8 0, Value.int IntKind.u8 0, Value.int IntKind.u8 0, Value.int IntKind.u8 0, Value.int IntKind.u8 0, Value.int IntKind.u8 0, Value.int IntKind.u8 0, Value.int IntKind.u8 0, Value.int IntKind.u8 0, Value.int IntKind.u8 0, Value.int IntKind.u8 0, Value.int IntKind.u8 0, Value.int IntKind.u8 0, Value.int IntKind.u8 0, Value.int IntKind.u8 0]) := ⟨rfl⟩
  rw [HE.out] at h0
  go_enter Tryd.func7, Tryd.ntmps7
  go_wp2_with (go_at_call 14; refine hold ?_)
  refine hid ?_
  refine Calls.mono (live_calls w HT.out) ?_
  rintro e w1 ⟨rfl, hB1⟩
  have HB1 := hid hB1
  clear hB1
  go_wp2_with (first | (go_at_call 20; refine Calls.mono (write_nil _ _ _ _) ?_; rintro e w' ⟨rfl, rfl⟩) | (go_at_call 22; refine Calls.mono (fork_nil _) ?_; rintro e w' ⟨rfl, rfl⟩) | (go_at_call 21; refine Calls.mono (hsum_nil _) ?_; rintro e w2 ⟨rfl, hB2⟩; rw [HE.out]; have HB2 := hid hB2; clear hB2))
  go_ret
  exact ⟨rfl, below_then HB1.out HB2.out⟩
end Go.Proofs.YtaieajfgcnaedaaDoor
