/-
  LAYER 5, WALKS: math/bits.RotateLeft32 at the turns that the hash uses.
-/
import Derived.Test.YtaieajfgcnaedaaDoorBv
import Derived.Test.YtaieajfgcnaedaaDoorProg
import Derived.IntWalk
set_option linter.unusedVariables false
set_option linter.unusedSimpArgs false
namespace Go.Proofs.YtaieajfgcnaedaaDoor
open Go.RowKit

theorem rot2_calls (x : W32) (w : World) : Calls Tryd.prog 50 #[.int .u32 (x.toNat : Int), .int .i64 (-2)] w fun e w' => e = .returned (.int .u32 ((rotr x 2).toNat : Int)) ∧ w = w' := by
  have h0 := bv_lo x
  have h1 := bv_hi x
  have e : bits .and .u64 (IntKind.u64.wrap (-2)) 31 = 30 := by decide
  go_enter Tryd.func50, Tryd.ntmps50
  go_wp2
  go_ret
  refine ⟨ret_int ?_, rfl⟩
  show bits BinOp.or IntKind.u32 (↑(BitVec.toNat x) * 1073741824 % 4294967296) (↑(BitVec.toNat x) / 4) = _
  rw [shl_bv x 30 1073741824 (by decide), shr_bv x 2 4 (by decide), bits_or_bv, BitVec.or_comm]
  rfl

theorem rot6_calls (x : W32) (w : World) : Calls Tryd.prog 50 #[.int .u32 (x.toNat : Int), .int .i64 (-6)] w fun e w' => e = .returned (.int .u32 ((rotr x 6).toNat : Int)) ∧ w = w' := by
  have h0 := bv_lo x
  have h1 := bv_hi x
  have e : bits .and .u64 (IntKind.u64.wrap (-6)) 31 = 26 := by decide
  go_enter Tryd.func50, Tryd.ntmps50
  go_wp2
  go_ret
  refine ⟨ret_int ?_, rfl⟩
  show bits BinOp.or IntKind.u32 (↑(BitVec.toNat x) * 67108864 % 4294967296) (↑(BitVec.toNat x) / 64) = _
  rw [shl_bv x 26 67108864 (by decide), shr_bv x 6 64 (by decide), bits_or_bv, BitVec.or_comm]
  rfl

theorem rot7_calls (x : W32) (w : World) : Calls Tryd.prog 50 #[.int .u32 (x.toNat : Int), .int .i64 (-7)] w fun e w' => e = .returned (.int .u32 ((rotr x 7).toNat : Int)) ∧ w = w' := by
  have h0 := bv_lo x
  have h1 := bv_hi x
  have e : bits .and .u64 (IntKind.u64.wrap (-7)) 31 = 25 := by decide
  go_enter Tryd.func50, Tryd.ntmps50
  go_wp2
  go_ret
  refine ⟨ret_int ?_, rfl⟩
  show bits BinOp.or IntKind.u32 (↑(BitVec.toNat x) * 33554432 % 4294967296) (↑(BitVec.toNat x) / 128) = _
  rw [shl_bv x 25 33554432 (by decide), shr_bv x 7 128 (by decide), bits_or_bv, BitVec.or_comm]
  rfl

theorem rot11_calls (x : W32) (w : World) : Calls Tryd.prog 50 #[.int .u32 (x.toNat : Int), .int .i64 (-11)] w fun e w' => e = .returned (.int .u32 ((rotr x 11).toNat : Int)) ∧ w = w' := by
  have h0 := bv_lo x
  have h1 := bv_hi x
  have e : bits .and .u64 (IntKind.u64.wrap (-11)) 31 = 21 := by decide
  go_enter Tryd.func50, Tryd.ntmps50
  go_wp2
  go_ret
  refine ⟨ret_int ?_, rfl⟩
  show bits BinOp.or IntKind.u32 (↑(BitVec.toNat x) * 2097152 % 4294967296) (↑(BitVec.toNat x) / 2048) = _
  rw [shl_bv x 21 2097152 (by decide), shr_bv x 11 2048 (by decide), bits_or_bv, BitVec.or_comm]
  rfl

theorem rot13_calls (x : W32) (w : World) : Calls Tryd.prog 50 #[.int .u32 (x.toNat : Int), .int .i64 (-13)] w fun e w' => e = .returned (.int .u32 ((rotr x 13).toNat : Int)) ∧ w = w' := by
  have h0 := bv_lo x
  have h1 := bv_hi x
  have e : bits .and .u64 (IntKind.u64.wrap (-13)) 31 = 19 := by decide
  go_enter Tryd.func50, Tryd.ntmps50
  go_wp2
  go_ret
  refine ⟨ret_int ?_, rfl⟩
  show bits BinOp.or IntKind.u32 (↑(BitVec.toNat x) * 524288 % 4294967296) (↑(BitVec.toNat x) / 8192) = _
  rw [shl_bv x 19 524288 (by decide), shr_bv x 13 8192 (by decide), bits_or_bv, BitVec.or_comm]
  rfl

theorem rot17_calls (x : W32) (w : World) : Calls Tryd.prog 50 #[.int .u32 (x.toNat : Int), .int .i64 (-17)] w fun e w' => e = .returned (.int .u32 ((rotr x 17).toNat : Int)) ∧ w = w' := by
  have h0 := bv_lo x
  have h1 := bv_hi x
  have e : bits .and .u64 (IntKind.u64.wrap (-17)) 31 = 15 := by decide
  go_enter Tryd.func50, Tryd.ntmps50
  go_wp2
  go_ret
  refine ⟨ret_int ?_, rfl⟩
  show bits BinOp.or IntKind.u32 (↑(BitVec.toNat x) * 32768 % 4294967296) (↑(BitVec.toNat x) / 131072) = _
  rw [shl_bv x 15 32768 (by decide), shr_bv x 17 131072 (by decide), bits_or_bv, BitVec.or_comm]
  rfl

theorem rot18_calls (x : W32) (w : World) : Calls Tryd.prog 50 #[.int .u32 (x.toNat : Int), .int .i64 (-18)] w fun e w' => e = .returned (.int .u32 ((rotr x 18).toNat : Int)) ∧ w = w' := by
  have h0 := bv_lo x
  have h1 := bv_hi x
  have e : bits .and .u64 (IntKind.u64.wrap (-18)) 31 = 14 := by decide
  go_enter Tryd.func50, Tryd.ntmps50
  go_wp2
  go_ret
  refine ⟨ret_int ?_, rfl⟩
  show bits BinOp.or IntKind.u32 (↑(BitVec.toNat x) * 16384 % 4294967296) (↑(BitVec.toNat x) / 262144) = _
  rw [shl_bv x 14 16384 (by decide), shr_bv x 18 262144 (by decide), bits_or_bv, BitVec.or_comm]
  rfl

theorem rot19_calls (x : W32) (w : World) : Calls Tryd.prog 50 #[.int .u32 (x.toNat : Int), .int .i64 (-19)] w fun e w' => e = .returned (.int .u32 ((rotr x 19).toNat : Int)) ∧ w = w' := by
  have h0 := bv_lo x
  have h1 := bv_hi x
  have e : bits .and .u64 (IntKind.u64.wrap (-19)) 31 = 13 := by decide
  go_enter Tryd.func50, Tryd.ntmps50
  go_wp2
  go_ret
  refine ⟨ret_int ?_, rfl⟩
  show bits BinOp.or IntKind.u32 (↑(BitVec.toNat x) * 8192 % 4294967296) (↑(BitVec.toNat x) / 524288) = _
  rw [shl_bv x 13 8192 (by decide), shr_bv x 19 524288 (by decide), bits_or_bv, BitVec.or_comm]
  rfl

theorem rot22_calls (x : W32) (w : World) : Calls Tryd.prog 50 #[.int .u32 (x.toNat : Int), .int .i64 (-22)] w fun e w' => e = .returned (.int .u32 ((rotr x 22).toNat : Int)) ∧ w = w' := by
  have h0 := bv_lo x
  have h1 := bv_hi x
  have e : bits .and .u64 (IntKind.u64.wrap (-22)) 31 = 10 := by decide
  go_enter Tryd.func50, Tryd.ntmps50
  go_wp2
  go_ret
  refine ⟨ret_int ?_, rfl⟩
  show bits BinOp.or IntKind.u32 (↑(BitVec.toNat x) * 1024 % 4294967296) (↑(BitVec.toNat x) / 4194304) = _
  rw [shl_bv x 10 1024 (by decide), shr_bv x 22 4194304 (by decide), bits_or_bv, BitVec.or_comm]
  rfl

theorem rot25_calls (x : W32) (w : World) : Calls Tryd.prog 50 #[.int .u32 (x.toNat : Int), .int .i64 (-25)] w fun e w' => e = .returned (.int .u32 ((rotr x 25).toNat : Int)) ∧ w = w' := by
  have h0 := bv_lo x
  have h1 := bv_hi x
  have e : bits .and .u64 (IntKind.u64.wrap (-25)) 31 = 7 := by decide
  go_enter Tryd.func50, Tryd.ntmps50
  go_wp2
  go_ret
  refine ⟨ret_int ?_, rfl⟩
  show bits BinOp.or IntKind.u32 (↑(BitVec.toNat x) * 128 % 4294967296) (↑(BitVec.toNat x) / 33554432) = _
  rw [shl_bv x 7 128 (by decide), shr_bv x 25 33554432 (by decide), bits_or_bv, BitVec.or_comm]
  rfl
theorem urot2 (x : W32) (w : World) : Calls Tryd.prog 50 #[.int .u32 (uw x), .int .i64 (-2)] w fun e w' => e = .returned (.int .u32 (uw (rotr x 2))) ∧ w = w' := rot2_calls x w
theorem urot6 (x : W32) (w : World) : Calls Tryd.prog 50 #[.int .u32 (uw x), .int .i64 (-6)] w fun e w' => e = .returned (.int .u32 (uw (rotr x 6))) ∧ w = w' := rot6_calls x w
theorem urot7 (x : W32) (w : World) : Calls Tryd.prog 50 #[.int .u32 (uw x), .int .i64 (-7)] w fun e w' => e = .returned (.int .u32 (uw (rotr x 7))) ∧ w = w' := rot7_calls x w
theorem urot11 (x : W32) (w : World) : Calls Tryd.prog 50 #[.int .u32 (uw x), .int .i64 (-11)] w fun e w' => e = .returned (.int .u32 (uw (rotr x 11))) ∧ w = w' := rot11_calls x w
theorem urot13 (x : W32) (w : World) : Calls Tryd.prog 50 #[.int .u32 (uw x), .int .i64 (-13)] w fun e w' => e = .returned (.int .u32 (uw (rotr x 13))) ∧ w = w' := rot13_calls x w
theorem urot17 (x : W32) (w : World) : Calls Tryd.prog 50 #[.int .u32 (uw x), .int .i64 (-17)] w fun e w' => e = .returned (.int .u32 (uw (rotr x 17))) ∧ w = w' := rot17_calls x w
theorem urot18 (x : W32) (w : World) : Calls Tryd.prog 50 #[.int .u32 (uw x), .int .i64 (-18)] w fun e w' => e = .returned (.int .u32 (uw (rotr x 18))) ∧ w = w' := rot18_calls x w
theorem urot19 (x : W32) (w : World) : Calls Tryd.prog 50 #[.int .u32 (uw x), .int .i64 (-19)] w fun e w' => e = .returned (.int .u32 (uw (rotr x 19))) ∧ w = w' := rot19_calls x w
theorem urot22 (x : W32) (w : World) : Calls Tryd.prog 50 #[.int .u32 (uw x), .int .i64 (-22)] w fun e w' => e = .returned (.int .u32 (uw (rotr x 22))) ∧ w = w' := rot22_calls x w
theorem urot25 (x : W32) (w : World) : Calls Tryd.prog 50 #[.int .u32 (uw x), .int .i64 (-25)] w fun e w' => e = .returned (.int .u32 (uw (rotr x 25))) ∧ w = w' := rot25_calls x w
end Go.Proofs.YtaieajfgcnaedaaDoor
