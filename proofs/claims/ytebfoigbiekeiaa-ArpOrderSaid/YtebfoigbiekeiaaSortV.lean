/-
  slices.Sort, slices.Sorted(maps.Keys(m)) at words of 32 bits; a cache's sorted addresses.
-/
import Derived.Test.YtebfoigbiekeiaaSortU
import Derived.Test.YtebfoigbiekeiaaArpA
set_option linter.unusedVariables false
set_option linter.unusedSimpArgs false
namespace Go.Proofs.Ytebfoigbiekeiaa
open Go.RowKit

theorem insertion_nil (w : World) : Calls Try.prog 73 #[.slice none 0 0, .int .i64 0, .int .i64 0] w fun e w' => (∃ v, e = .returned v) ∧ w = w' := by
  go_enter Try.func73, Try.ntmps73
  go_wp2_with fail
  go_loopw [6] (fun i w' => i = .int .i64 1 ∧ w' = w) (fun _ _ => 0)
  case atStart => exact ⟨rfl, rfl⟩
  case round =>
    obtain ⟨rfl, rfl⟩ := hrel
    go_wp2
    go_end0
    exact ⟨⟨_, rfl⟩, rfl⟩
theorem wp_index {P : Program} {w : World} {o : Oper} {a : Act} {K : Act → World → Prop} {Q : Exit → Act → World → Prop} (t : TypeId) (x i : Operand) (ho : o.op = .index t x i) (v : Value) (h : (Instr.index t (a.eval x) (a.eval i)).run P w = .ok v w) (hk : K (a.put o.dst v) w) : o.wp P a w K Q := by
  unfold Oper.wp
  simp only [execOp, ho, Sem.run_bind, h, Result.andThen_ok, Sem.run_pure]
  exact hk
set_option maxRecDepth 100000 in
theorem len64_0 (w : World) : Calls Try.prog 83 #[.int .u64 0] w fun e w' => (∃ r : Int, e = .returned (.int .i64 r)) ∧ w = w' := by
  go_enter Try.func83, Try.ntmps83
  go_wp2_with (with_reducible refine hold_op (o := ⟨some 22, _, _, _, _, _⟩) ?_)
  refine hid ?_
  refine BigFrame.wpList_want rfl fun K hK => wp_index _ _ _ rfl (.int .u8 0) (by kernel_rfl) (hK _ _ ?_)
  dsimp only [Act.put]
  go_wp2
  go_ret
  exact ⟨⟨_, rfl⟩, rfl⟩
set_option maxRecDepth 100000 in
theorem len64_1 (w : World) : Calls Try.prog 83 #[.int .u64 1] w fun e w' => (∃ r : Int, e = .returned (.int .i64 r)) ∧ w = w' := by
  go_enter Try.func83, Try.ntmps83
  go_wp2_with (with_reducible refine hold_op (o := ⟨some 22, _, _, _, _, _⟩) ?_)
  refine hid ?_
  refine BigFrame.wpList_want rfl fun K hK => wp_index _ _ _ rfl (.int .u8 1) (by kernel_rfl) (hK _ _ ?_)
  dsimp only [Act.put]
  go_wp2
  go_ret
  exact ⟨⟨_, rfl⟩, rfl⟩
set_option maxRecDepth 100000 in
theorem len64_2 (w : World) : Calls Try.prog 83 #[.int .u64 2] w fun e w' => (∃ r : Int, e = .returned (.int .i64 r)) ∧ w = w' := by
  go_enter Try.func83, Try.ntmps83
  go_wp2_with (with_reducible refine hold_op (o := ⟨some 22, _, _, _, _, _⟩) ?_)
  refine hid ?_
  refine BigFrame.wpList_want rfl fun K hK => wp_index _ _ _ rfl (.int .u8 2) (by kernel_rfl) (hK _ _ ?_)
  dsimp only [Act.put]
  go_wp2
  go_ret
  exact ⟨⟨_, rfl⟩, rfl⟩
set_option maxRecDepth 100000 in
theorem len64_3 (w : World) : Calls Try.prog 83 #[.int .u64 3] w fun e w' => (∃ r : Int, e = .returned (.int .i64 r)) ∧ w = w' := by
  go_enter Try.func83, Try.ntmps83
  go_wp2_with (with_reducible refine hold_op (o := ⟨some 22, _, _, _, _, _⟩) ?_)
  refine hid ?_
  refine BigFrame.wpList_want rfl fun K hK => wp_index _ _ _ rfl (.int .u8 2) (by kernel_rfl) (hK _ _ ?_)
  dsimp only [Act.put]
  go_wp2
  go_ret
  exact ⟨⟨_, rfl⟩, rfl⟩
set_option maxRecDepth 100000 in
theorem len64_4 (w : World) : Calls Try.prog 83 #[.int .u64 4] w fun e w' => (∃ r : Int, e = .returned (.int .i64 r)) ∧ w = w' := by
  go_enter Try.func83, Try.ntmps83
  go_wp2_with (with_reducible refine hold_op (o := ⟨some 22, _, _, _, _, _⟩) ?_)
  refine hid ?_
  refine BigFrame.wpList_want rfl fun K hK => wp_index _ _ _ rfl (.int .u8 3) (by kernel_rfl) (hK _ _ ?_)
  dsimp only [Act.put]
  go_wp2
  go_ret
  exact ⟨⟨_, rfl⟩, rfl⟩
set_option maxRecDepth 100000 in
theorem len64_5 (w : World) : Calls Try.prog 83 #[.int .u64 5] w fun e w' => (∃ r : Int, e = .returned (.int .i64 r)) ∧ w = w' := by
  go_enter Try.func83, Try.ntmps83
  go_wp2_with (with_reducible refine hold_op (o := ⟨some 22, _, _, _, _, _⟩) ?_)
  refine hid ?_
  refine BigFrame.wpList_want rfl fun K hK => wp_index _ _ _ rfl (.int .u8 3) (by kernel_rfl) (hK _ _ ?_)
  dsimp only [Act.put]
  go_wp2
  go_ret
  exact ⟨⟨_, rfl⟩, rfl⟩
set_option maxRecDepth 100000 in
theorem len64_6 (w : World) : Calls Try.prog 83 #[.int .u64 6] w fun e w' => (∃ r : Int, e = .returned (.int .i64 r)) ∧ w = w' := by
  go_enter Try.func83, Try.ntmps83
  go_wp2_with (with_reducible refine hold_op (o := ⟨some 22, _, _, _, _, _⟩) ?_)
  refine hid ?_
  refine BigFrame.wpList_want rfl fun K hK => wp_index _ _ _ rfl (.int .u8 3) (by kernel_rfl) (hK _ _ ?_)
  dsimp only [Act.put]
  go_wp2
  go_ret
  exact ⟨⟨_, rfl⟩, rfl⟩
set_option maxRecDepth 100000 in
theorem len64_7 (w : World) : Calls Try.prog 83 #[.int .u64 7] w fun e w' => (∃ r : Int, e = .returned (.int .i64 r)) ∧ w = w' := by
  go_enter Try.func83, Try.ntmps83
  go_wp2_with (with_reducible refine hold_op (o := ⟨some 22, _, _, _, _, _⟩) ?_)
  refine hid ?_
  refine BigFrame.wpList_want rfl fun K hK => wp_index _ _ _ rfl (.int .u8 3) (by kernel_rfl) (hK _ _ ?_)
  dsimp only [Act.put]
  go_wp2
  go_ret
  exact ⟨⟨_, rfl⟩, rfl⟩
set_option maxRecDepth 100000 in
theorem len64_8 (w : World) : Calls Try.prog 83 #[.int .u64 8] w fun e w' => (∃ r : Int, e = .returned (.int .i64 r)) ∧ w = w' := by
  go_enter Try.func83, Try.ntmps83
  go_wp2_with (with_reducible refine hold_op (o := ⟨some 22, _, _, _, _, _⟩) ?_)
  refine hid ?_
  refine BigFrame.wpList_want rfl fun K hK => wp_index _ _ _ rfl (.int .u8 4) (by kernel_rfl) (hK _ _ ?_)
  dsimp only [Act.put]
  go_wp2
  go_ret
  exact ⟨⟨_, rfl⟩, rfl⟩
set_option maxRecDepth 100000 in
theorem len64_9 (w : World) : Calls Try.prog 83 #[.int .u64 9] w fun e w' => (∃ r : Int, e = .returned (.int .i64 r)) ∧ w = w' := by
  go_enter Try.func83, Try.ntmps83
  go_wp2_with (with_reducible refine hold_op (o := ⟨some 22, _, _, _, _, _⟩) ?_)
  refine hid ?_
  refine BigFrame.wpList_want rfl fun K hK => wp_index _ _ _ rfl (.int .u8 4) (by kernel_rfl) (hK _ _ ?_)
  dsimp only [Act.put]
  go_wp2
  go_ret
  exact ⟨⟨_, rfl⟩, rfl⟩
set_option maxRecDepth 100000 in
theorem len64_10 (w : World) : Calls Try.prog 83 #[.int .u64 10] w fun e w' => (∃ r : Int, e = .returned (.int .i64 r)) ∧ w = w' := by
  go_enter Try.func83, Try.ntmps83
  go_wp2_with (with_reducible refine hold_op (o := ⟨some 22, _, _, _, _, _⟩) ?_)
  refine hid ?_
  refine BigFrame.wpList_want rfl fun K hK => wp_index _ _ _ rfl (.int .u8 4) (by kernel_rfl) (hK _ _ ?_)
  dsimp only [Act.put]
  go_wp2
  go_ret
  exact ⟨⟨_, rfl⟩, rfl⟩
set_option maxRecDepth 100000 in
theorem len64_11 (w : World) : Calls Try.prog 83 #[.int .u64 11] w fun e w' => (∃ r : Int, e = .returned (.int .i64 r)) ∧ w = w' := by
  go_enter Try.func83, Try.ntmps83
  go_wp2_with (with_reducible refine hold_op (o := ⟨some 22, _, _, _, _, _⟩) ?_)
  refine hid ?_
  refine BigFrame.wpList_want rfl fun K hK => wp_index _ _ _ rfl (.int .u8 4) (by kernel_rfl) (hK _ _ ?_)
  dsimp only [Act.put]
  go_wp2
  go_ret
  exact ⟨⟨_, rfl⟩, rfl⟩
set_option maxRecDepth 100000 in
theorem len64_12 (w : World) : Calls Try.prog 83 #[.int .u64 12] w fun e w' => (∃ r : Int, e = .returned (.int .i64 r)) ∧ w = w' := by
  go_enter Try.func83, Try.ntmps83
  go_wp2_with (with_reducible refine hold_op (o := ⟨some 22, _, _, _, _, _⟩) ?_)
  refine hid ?_
  refine BigFrame.wpList_want rfl fun K hK => wp_index _ _ _ rfl (.int .u8 4) (by kernel_rfl) (hK _ _ ?_)
  dsimp only [Act.put]
  go_wp2
  go_ret
  exact ⟨⟨_, rfl⟩, rfl⟩
theorem len64_calls (n : Nat) (hn : n ≤ 12) (w : World) : Calls Try.prog 83 #[.int .u64 n] w fun e w' => (∃ r : Int, e = .returned (.int .i64 r)) ∧ w = w' := by
  match n, hn with
  | 0, _ => exact len64_0 w
  | 1, _ => exact len64_1 w
  | 2, _ => exact len64_2 w
  | 3, _ => exact len64_3 w
  | 4, _ => exact len64_4 w
  | 5, _ => exact len64_5 w
  | 6, _ => exact len64_6 w
  | 7, _ => exact len64_7 w
  | 8, _ => exact len64_8 w
  | 9, _ => exact len64_9 w
  | 10, _ => exact len64_10 w
  | 11, _ => exact len64_11 w
  | 12, _ => exact len64_12 w
theorem len_calls (n : Nat) (hn : n ≤ 12) (w : World) : Calls Try.prog 69 #[.int .u64 n] w fun e w' => (∃ r : Int, e = .returned (.int .i64 r)) ∧ w = w' := by
  have hw : IntKind.u64.wrap (n : Int) = (n : Int) := by rw [IntKind.wrap_u64]; omega
  go_enter Try.func69, Try.ntmps69
  go_wp2_with (go_at_call 83; refine Calls.mono (len64_calls n hn _) ?_; rintro e w1 ⟨⟨r, rfl⟩, rfl⟩)
  go_ret
  exact ⟨⟨_, rfl⟩, rfl⟩
end Go.Proofs.Ytebfoigbiekeiaa
