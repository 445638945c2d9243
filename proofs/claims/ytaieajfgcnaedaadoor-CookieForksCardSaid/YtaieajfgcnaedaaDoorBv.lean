/-
  Words of 32 bits as whole numbers: what the operations make of them. It speaks of no program.
-/
import Derived.Test.YtaieajfgcnaedaaDoorHashA
set_option linter.unusedVariables false
set_option linter.unusedSimpArgs false
namespace Go.Proofs.YtaieajfgcnaedaaDoor
open Go.RowKit
theorem wrap_u32_nat (n : Nat) (h : n < 4294967296) : IntKind.u32.wrap (n : Int) = (n : Int) := by rw [IntKind.wrap_u32]; omega
theorem bits_xor_bv (A B : BitVec 32) : bits .xor .u32 (A.toNat : Int) (B.toNat : Int) = ((A ^^^ B).toNat : Int) := by
  have h := (A ^^^ B).isLt
  simp only [bits, IntKind.bits]
  rw [BitVec.ofInt_natCast, BitVec.ofInt_natCast, BitVec.ofNat_toNat, BitVec.ofNat_toNat, BitVec.setWidth_eq, BitVec.setWidth_eq]
  exact wrap_u32_nat _ h
theorem bits_and_bv (A B : BitVec 32) : bits .and .u32 (A.toNat : Int) (B.toNat : Int) = ((A &&& B).toNat : Int) := by
  have h := (A &&& B).isLt
  simp only [bits, IntKind.bits]
  rw [BitVec.ofInt_natCast, BitVec.ofInt_natCast, BitVec.ofNat_toNat, BitVec.ofNat_toNat, BitVec.setWidth_eq, BitVec.setWidth_eq]
  exact wrap_u32_nat _ h
theorem bits_or_bv (A B : BitVec 32) : bits .or .u32 (A.toNat : Int) (B.toNat : Int) = ((A ||| B).toNat : Int) := by
  have h := (A ||| B).isLt
  simp only [bits, IntKind.bits]
  rw [BitVec.ofInt_natCast, BitVec.ofInt_natCast, BitVec.ofNat_toNat, BitVec.ofNat_toNat, BitVec.setWidth_eq, BitVec.setWidth_eq]
  exact wrap_u32_nat _ h
theorem not_bv (R : BitVec 32) : (4294967295 : Int) - (R.toNat : Int) = ((~~~ R).toNat : Int) := by
  have := R.isLt
  rw [BitVec.toNat_not]; omega
theorem shr_bv (R : BitVec 32) (k : Nat) (c : Int) (hc : c = ((2 ^ k : Nat) : Int)) : (R.toNat : Int) / c = ((R >>> k).toNat : Int) := by
  subst hc
  rw [BitVec.toNat_ushiftRight, Nat.shiftRight_eq_div_pow, Int.natCast_ediv]
theorem shl_bv (R : BitVec 32) (k : Nat) (c : Int) (hc : c = ((2 ^ k : Nat) : Int)) : (R.toNat : Int) * c % 4294967296 = ((R <<< k).toNat : Int) := by
  subst hc
  rw [BitVec.toNat_shiftLeft, Nat.shiftLeft_eq, Int.natCast_emod, Int.natCast_mul, show ((2 ^ 32 : Nat) : Int) = 4294967296 from rfl]
theorem add_bv (A B : BitVec 32) : ((A.toNat : Int) + (B.toNat : Int)) % 4294967296 = ((A + B).toNat : Int) := by
  rw [BitVec.toNat_add, Int.natCast_emod, Int.natCast_add, show ((2 ^ 32 : Nat) : Int) = 4294967296 from rfl]
theorem wadd_bv (A B : BitVec 32) : IntKind.u32.wrap ((A.toNat : Int) + (B.toNat : Int)) = ((A + B).toNat : Int) := by
  rw [IntKind.wrap_u32]; exact add_bv A B
theorem bv_lo (A : BitVec 32) : 0 ≤ (A.toNat : Int) := by omega
theorem bv_hi (A : BitVec 32) : (A.toNat : Int) < 4294967296 := by have := A.isLt; omega
/-- A word as a whole number, under a name that simp leaves alone. -/
def uw (x : BitVec 32) : Int := (x.toNat : Int)
theorem u_xor (A B : BitVec 32) : bits .xor .u32 (uw A) (uw B) = uw (A ^^^ B) := bits_xor_bv A B
theorem u_and (A B : BitVec 32) : bits .and .u32 (uw A) (uw B) = uw (A &&& B) := bits_and_bv A B
theorem u_or (A B : BitVec 32) : bits .or .u32 (uw A) (uw B) = uw (A ||| B) := bits_or_bv A B
theorem u_not (A : BitVec 32) : 4294967295 - uw A = uw (~~~ A) := not_bv A
theorem u_add (A B : BitVec 32) : (uw A + uw B) % 4294967296 = uw (A + B) := add_bv A B
theorem u_wadd (A B : BitVec 32) : IntKind.u32.wrap (uw A + uw B) = uw (A + B) := wadd_bv A B
theorem u_shr (A : BitVec 32) (k : Nat) (c : Int) (hc : c = ((2 ^ k : Nat) : Int)) : uw A / c = uw (A >>> k) := shr_bv A k c hc
theorem u_sh (A : BitVec 32) (k : Nat) : uw A >>> k = uw (A >>> k) := by
  unfold uw
  rw [BitVec.toNat_ushiftRight]
  rfl
theorem u_compl (A : BitVec 32) : bits .xor .u32 IntKind.u32.max (uw A) = uw (~~~ A) := by
  have h := bits_xor_bv (BitVec.allOnes 32) A
  have e : ((BitVec.allOnes 32).toNat : Int) = IntKind.u32.max := by decide
  rw [e] at h
  have e2 : BitVec.allOnes 32 ^^^ A = ~~~ A := BitVec.allOnes_xor
  rw [e2] at h
  exact h
theorem u_mod (A : BitVec 32) : uw A % 4294967296 = uw A := by have := A.isLt; unfold uw; omega
theorem u_lo (A : BitVec 32) : 0 ≤ uw A := bv_lo A
theorem u_hi (A : BitVec 32) : uw A < 4294967296 := bv_hi A
end Go.Proofs.YtaieajfgcnaedaaDoor
