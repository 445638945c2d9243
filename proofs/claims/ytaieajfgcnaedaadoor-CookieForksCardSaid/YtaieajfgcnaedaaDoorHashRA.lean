/-
  LAYER 5, THE REFERENCE's WALKS: turn at the turns that it uses.
-/
import Derived.Test.YtaieajfgcnaedaaDoorHashC
set_option linter.unusedVariables false
set_option linter.unusedSimpArgs false
namespace Go.Proofs.YtaieajfgcnaedaaDoor
open Go.RowKit

theorem turn2 (x : W32) (w : World) : Calls Tryd.prog 37 #[.int .u32 (uw x), .int .i64 2] w fun e w' => e = .returned (.int .u32 (uw (rotr x 2))) ∧ w' = w.drew := by
  have h0 := u_lo x
  have h1 := u_hi x
  have e1 : IntKind.i64.wrap 30 = 30 := by decide
  have e2 : IntKind.i64.wrap (32 - 2) = 30 := by decide
  go_enter Tryd.func37, Tryd.ntmps37
  go_wp2_with fail
  refine wp_region_still_lit (by kernel_rfl) (by kernel_rfl) ?_
  change wpStill _ _ w.drew _ _ _
  repeat still_step
  refine wpStill_nil ?_
  go_wp2
  go_ret
  refine ⟨ret_int ?_, rfl⟩
  show bits BinOp.or IntKind.u32 (uw x / 4) (uw x * 1073741824 % 4294967296) = _
  unfold uw
  rw [shl_bv x 30 1073741824 (by decide), shr_bv x 2 4 (by decide), bits_or_bv]
  rfl
theorem turn6 (x : W32) (w : World) : Calls Tryd.prog 37 #[.int .u32 (uw x), .int .i64 6] w fun e w' => e = .returned (.int .u32 (uw (rotr x 6))) ∧ w' = w.drew := by
  have h0 := u_lo x
  have h1 := u_hi x
  have e1 : IntKind.i64.wrap 26 = 26 := by decide
  have e2 : IntKind.i64.wrap (32 - 6) = 26 := by decide
  go_enter Tryd.func37, Tryd.ntmps37
  go_wp2_with fail
  refine wp_region_still_lit (by kernel_rfl) (by kernel_rfl) ?_
  change wpStill _ _ w.drew _ _ _
  repeat still_step
  refine wpStill_nil ?_
  go_wp2
  go_ret
  refine ⟨ret_int ?_, rfl⟩
  show bits BinOp.or IntKind.u32 (uw x / 64) (uw x * 67108864 % 4294967296) = _
  unfold uw
  rw [shl_bv x 26 67108864 (by decide), shr_bv x 6 64 (by decide), bits_or_bv]
  rfl
theorem turn7 (x : W32) (w : World) : Calls Tryd.prog 37 #[.int .u32 (uw x), .int .i64 7] w fun e w' => e = .returned (.int .u32 (uw (rotr x 7))) ∧ w' = w.drew := by
  have h0 := u_lo x
  have h1 := u_hi x
  have e1 : IntKind.i64.wrap 25 = 25 := by decide
  have e2 : IntKind.i64.wrap (32 - 7) = 25 := by decide
  go_enter Tryd.func37, Tryd.ntmps37
  go_wp2_with fail
  refine wp_region_still_lit (by kernel_rfl) (by kernel_rfl) ?_
  change wpStill _ _ w.drew _ _ _
  repeat still_step
  refine wpStill_nil ?_
  go_wp2
  go_ret
  refine ⟨ret_int ?_, rfl⟩
  show bits BinOp.or IntKind.u32 (uw x / 128) (uw x * 33554432 % 4294967296) = _
  unfold uw
  rw [shl_bv x 25 33554432 (by decide), shr_bv x 7 128 (by decide), bits_or_bv]
  rfl
theorem turn11 (x : W32) (w : World) : Calls Tryd.prog 37 #[.int .u32 (uw x), .int .i64 11] w fun e w' => e = .returned (.int .u32 (uw (rotr x 11))) ∧ w' = w.drew := by
  have h0 := u_lo x
  have h1 := u_hi x
  have e1 : IntKind.i64.wrap 21 = 21 := by decide
  have e2 : IntKind.i64.wrap (32 - 11) = 21 := by decide
  go_enter Tryd.func37, Tryd.ntmps37
  go_wp2_with fail
  refine wp_region_still_lit (by kernel_rfl) (by kernel_rfl) ?_
  change wpStill _ _ w.drew _ _ _
  repeat still_step
  refine wpStill_nil ?_
  go_wp2
  go_ret
  refine ⟨ret_int ?_, rfl⟩
  show bits BinOp.or IntKind.u32 (uw x / 2048) (uw x * 2097152 % 4294967296) = _
  unfold uw
  rw [shl_bv x 21 2097152 (by decide), shr_bv x 11 2048 (by decide), bits_or_bv]
  rfl
theorem turn13 (x : W32) (w : World) : Calls Tryd.prog 37 #[.int .u32 (uw x), .int .i64 13] w fun e w' => e = .returned (.int .u32 (uw (rotr x 13))) ∧ w' = w.drew := by
  have h0 := u_lo x
  have h1 := u_hi x
  have e1 : IntKind.i64.wrap 19 = 19 := by decide
  have e2 : IntKind.i64.wrap (32 - 13) = 19 := by decide
  go_enter Tryd.func37, Tryd.ntmps37
  go_wp2_with fail
  refine wp_region_still_lit (by kernel_rfl) (by kernel_rfl) ?_
  change wpStill _ _ w.drew _ _ _
  repeat still_step
  refine wpStill_nil ?_
  go_wp2
  go_ret
  refine ⟨ret_int ?_, rfl⟩
  show bits BinOp.or IntKind.u32 (uw x / 8192) (uw x * 524288 % 4294967296) = _
  unfold uw
  rw [shl_bv x 19 524288 (by decide), shr_bv x 13 8192 (by decide), bits_or_bv]
  rfl
theorem turn17 (x : W32) (w : World) : Calls Tryd.prog 37 #[.int .u32 (uw x), .int .i64 17] w fun e w' => e = .returned (.int .u32 (uw (rotr x 17))) ∧ w' = w.drew := by
  have h0 := u_lo x
  have h1 := u_hi x
  have e1 : IntKind.i64.wrap 15 = 15 := by decide
  have e2 : IntKind.i64.wrap (32 - 17) = 15 := by decide
  go_enter Tryd.func37, Tryd.ntmps37
  go_wp2_with fail
  refine wp_region_still_lit (by kernel_rfl) (by kernel_rfl) ?_
  change wpStill _ _ w.drew _ _ _
  repeat still_step
  refine wpStill_nil ?_
  go_wp2
  go_ret
  refine ⟨ret_int ?_, rfl⟩
  show bits BinOp.or IntKind.u32 (uw x / 131072) (uw x * 32768 % 4294967296) = _
  unfold uw
  rw [shl_bv x 15 32768 (by decide), shr_bv x 17 131072 (by decide), bits_or_bv]
  rfl
theorem turn18 (x : W32) (w : World) : Calls Tryd.prog 37 #[.int .u32 (uw x), .int .i64 18] w fun e w' => e = .returned (.int .u32 (uw (rotr x 18))) ∧ w' = w.drew := by
  have h0 := u_lo x
  have h1 := u_hi x
  have e1 : IntKind.i64.wrap 14 = 14 := by decide
  have e2 : IntKind.i64.wrap (32 - 18) = 14 := by decide
  go_enter Tryd.func37, Tryd.ntmps37
  go_wp2_with fail
  refine wp_region_still_lit (by kernel_rfl) (by kernel_rfl) ?_
  change wpStill _ _ w.drew _ _ _
  repeat still_step
  refine wpStill_nil ?_
  go_wp2
  go_ret
  refine ⟨ret_int ?_, rfl⟩
  show bits BinOp.or IntKind.u32 (uw x / 262144) (uw x * 16384 % 4294967296) = _
  unfold uw
  rw [shl_bv x 14 16384 (by decide), shr_bv x 18 262144 (by decide), bits_or_bv]
  rfl
theorem turn19 (x : W32) (w : World) : Calls Tryd.prog 37 #[.int .u32 (uw x), .int .i64 19] w fun e w' => e = .returned (.int .u32 (uw (rotr x 19))) ∧ w' = w.drew := by
  have h0 := u_lo x
  have h1 := u_hi x
  have e1 : IntKind.i64.wrap 13 = 13 := by decide
  have e2 : IntKind.i64.wrap (32 - 19) = 13 := by decide
  go_enter Tryd.func37, Tryd.ntmps37
  go_wp2_with fail
  refine wp_region_still_lit (by kernel_rfl) (by kernel_rfl) ?_
  change wpStill _ _ w.drew _ _ _
  repeat still_step
  refine wpStill_nil ?_
  go_wp2
  go_ret
  refine ⟨ret_int ?_, rfl⟩
  show bits BinOp.or IntKind.u32 (uw x / 524288) (uw x * 8192 % 4294967296) = _
  unfold uw
  rw [shl_bv x 13 8192 (by decide), shr_bv x 19 524288 (by decide), bits_or_bv]
  rfl
theorem turn22 (x : W32) (w : World) : Calls Tryd.prog 37 #[.int .u32 (uw x), .int .i64 22] w fun e w' => e = .returned (.int .u32 (uw (rotr x 22))) ∧ w' = w.drew := by
  have h0 := u_lo x
  have h1 := u_hi x
  have e1 : IntKind.i64.wrap 10 = 10 := by decide
  have e2 : IntKind.i64.wrap (32 - 22) = 10 := by decide
  go_enter Tryd.func37, Tryd.ntmps37
  go_wp2_with fail
  refine wp_region_still_lit (by kernel_rfl) (by kernel_rfl) ?_
  change wpStill _ _ w.drew _ _ _
  repeat still_step
  refine wpStill_nil ?_
  go_wp2
  go_ret
  refine ⟨ret_int ?_, rfl⟩
  show bits BinOp.or IntKind.u32 (uw x / 4194304) (uw x * 1024 % 4294967296) = _
  unfold uw
  rw [shl_bv x 10 1024 (by decide), shr_bv x 22 4194304 (by decide), bits_or_bv]
  rfl
theorem turn25 (x : W32) (w : World) : Calls Tryd.prog 37 #[.int .u32 (uw x), .int .i64 25] w fun e w' => e = .returned (.int .u32 (uw (rotr x 25))) ∧ w' = w.drew := by
  have h0 := u_lo x
  have h1 := u_hi x
  have e1 : IntKind.i64.wrap 7 = 7 := by decide
  have e2 : IntKind.i64.wrap (32 - 25) = 7 := by decide
  go_enter Tryd.func37, Tryd.ntmps37
  go_wp2_with fail
  refine wp_region_still_lit (by kernel_rfl) (by kernel_rfl) ?_
  change wpStill _ _ w.drew _ _ _
  repeat still_step
  refine wpStill_nil ?_
  go_wp2
  go_ret
  refine ⟨ret_int ?_, rfl⟩
  show bits BinOp.or IntKind.u32 (uw x / 33554432) (uw x * 128 % 4294967296) = _
  unfold uw
  rw [shl_bv x 7 128 (by decide), shr_bv x 25 33554432 (by decide), bits_or_bv]
  rfl
end Go.Proofs.YtaieajfgcnaedaaDoor
