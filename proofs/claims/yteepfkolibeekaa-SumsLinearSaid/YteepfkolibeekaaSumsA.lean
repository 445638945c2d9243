/-
  PLAIN: the register of CRC-32C over bit vectors; the Internet's sum as a remainder. No program in sight.
-/
import Derived.WalkKit
set_option linter.unusedVariables false
set_option linter.unusedSimpArgs false
namespace Go.Proofs.Yteepfkolibeekaa
open Go.RowKit

/-! ### The register -/
def poly : BitVec 32 := 2197175160#32
def bvBit (R : BitVec 32) (b : Bool) : BitVec 32 := (R >>> 1) ^^^ (if (R.getLsbD 0 != b) = true then poly else 0#32)
def bvBits (x : Int) : Nat → BitVec 32 → BitVec 32
  | 0, R => R
  | t + 1, R => bvBit (bvBits x t R) (x.toNat.testBit t)
def crcR (R : BitVec 32) (xs : List Int) : BitVec 32 := xs.foldl (fun R x => bvBits x 8 R) R
def ones : BitVec 32 := BitVec.allOnes 32
def crcV (xs : List Int) : BitVec 32 := ~~~ (crcR ones xs)
def crc (xs : List Int) : Int := ((crcV xs).toNat : Int)

theorem crcR_take (R : BitVec 32) (xs : List Int) (j : Nat) (h : j < xs.length) : crcR R (xs.take (j + 1)) = bvBits (xs.getD j 0) 8 (crcR R (xs.take j)) := by
  unfold crcR
  rw [List.take_succ_eq_append_getElem h, List.foldl_append]
  simp [List.getD, List.getElem?_eq_getElem h]
theorem crcR_all (R : BitVec 32) (xs : List Int) (j : Nat) (h : xs.length ≤ j) : crcR R (xs.take j) = crcR R xs := by rw [List.take_of_length_le h]

theorem wrap_u32_nat (n : Nat) (h : n < 4294967296) : IntKind.u32.wrap (n : Int) = (n : Int) := by rw [IntKind.wrap_u32]; omega
theorem bits_xor_bv (A B : BitVec 32) : bits .xor .u32 (A.toNat : Int) (B.toNat : Int) = ((A ^^^ B).toNat : Int) := by
  have h := (A ^^^ B).isLt
  simp only [bits, IntKind.bits]
  rw [BitVec.ofInt_natCast, BitVec.ofInt_natCast, BitVec.ofNat_toNat, BitVec.ofNat_toNat, BitVec.setWidth_eq, BitVec.setWidth_eq]
  exact wrap_u32_nat _ h
theorem bits_and_bv (A B : BitVec 32) : bits .and .u32 (A.toNat : Int) (B.toNat : Int) = ((A &&& B).toNat : Int) := by
  have h := (A &&& B).isLt
  simp only [bits, IntKind.bits]
  rw [BitVec.ofInt_natCast, BitVec.ofInt_natCast, BitVec.ofNat_toNat, BitVec.ofNat_toNat, BitVec.setWidth_eq, BitVec.setWidth_eq]
  exact wrap_u32_nat _ h

/-- What the closure makes of the register, as the walk spells it. -/
def crcBit (r bit : Int) : Int := bits .xor .u32 (r / 2) (bits .and .u32 (-bits .xor .u32 (bits .and .u32 r 1) bit % 4294967296) 2197175160)
def bitAt (x : Int) (t : Nat) : Int := bits .and .u32 (x / 2 ^ t % 4294967296) 1

theorem half_bv (R : BitVec 32) : (R.toNat : Int) / (2 : Int) = ((R >>> 1).toNat : Int) := by
  rw [BitVec.toNat_ushiftRight, Nat.shiftRight_eq_div_pow]; omega
theorem low_bv (R : BitVec 32) : R &&& 1#32 = if R.getLsbD 0 = true then 1#32 else 0#32 := by
  apply BitVec.eq_of_getLsbD_eq
  intro i hi
  rw [BitVec.getLsbD_and]
  cases i with
  | zero => cases R.getLsbD 0 <;> simp
  | succ i => cases h : R.getLsbD 0 <;> simp
theorem crcBit_bv (R : BitVec 32) (b : Bool) : crcBit (R.toNat : Int) (if b = true then 1 else 0) = ((bvBit R b).toNat : Int) := by
  unfold crcBit bvBit
  have e1 : (1 : Int) = ((1#32 : BitVec 32).toNat : Int) := rfl
  have e2 : (2197175160 : Int) = (poly.toNat : Int) := rfl
  have e3 : bits .xor .u32 (bits .and .u32 (R.toNat : Int) 1) (if b = true then 1 else 0) = if (R.getLsbD 0 != b) = true then 1 else 0 := by
    have : (if b = true then (1 : Int) else 0) = ((if b = true then 1#32 else 0#32 : BitVec 32).toNat : Int) := by cases b <;> rfl
    rw [this, e1, bits_and_bv, bits_xor_bv, low_bv]
    cases R.getLsbD 0 <;> cases b <;> rfl
  rw [e3, half_bv]
  cases (R.getLsbD 0 != b)
  · have e4 : -(if false = true then (1 : Int) else 0) % 4294967296 = ((0#32 : BitVec 32).toNat : Int) := rfl
    rw [e4, e2, bits_and_bv, bits_xor_bv]
    simp
  · have e4 : -(if true = true then (1 : Int) else 0) % 4294967296 = ((BitVec.allOnes 32).toNat : Int) := rfl
    rw [e4, e2, bits_and_bv, bits_xor_bv, BitVec.allOnes_and]
    rfl
theorem bitAt_eq (x : Int) (t : Nat) (h0 : 0 ≤ x) (h1 : x < 256) : bitAt x t = if x.toNat.testBit t = true then 1 else 0 := by
  obtain ⟨n, rfl⟩ := Int.eq_ofNat_of_zero_le h0
  unfold bitAt
  have hn : n < 256 := by omega
  have hp : 0 < 2 ^ t := Nat.two_pow_pos t
  have hd : n / 2 ^ t ≤ n := Nat.div_le_self _ _
  have e : (n : Int) / 2 ^ t % 4294967296 = ((BitVec.ofNat 32 (n / 2 ^ t)).toNat : Int) := by
    rw [BitVec.toNat_ofNat]
    have : ((n : Int) / 2 ^ t) = ((n / 2 ^ t : Nat) : Int) := by push_cast; rfl
    rw [this]; omega
  have e1 : (1 : Int) = ((1#32 : BitVec 32).toNat : Int) := rfl
  rw [e, e1, bits_and_bv, low_bv, Int.toNat_natCast]
  have : (BitVec.ofNat 32 (n / 2 ^ t)).getLsbD 0 = n.testBit t := by
    rw [BitVec.getLsbD_ofNat, Nat.testBit_div_two_pow]; simp
  rw [this]
  cases n.testBit t <;> rfl
theorem crcBit_at (R : BitVec 32) (x : Int) (t : Nat) (h0 : 0 ≤ x) (h1 : x < 256) : crcBit (R.toNat : Int) (bitAt x t) = ((bvBit R (x.toNat.testBit t)).toNat : Int) := by
  rw [bitAt_eq x t h0 h1, crcBit_bv]
theorem not_bv (R : BitVec 32) : bits .xor .u32 (R.toNat : Int) 4294967295 = ((~~~ R).toNat : Int) := by
  have e : (4294967295 : Int) = ((BitVec.allOnes 32).toNat : Int) := rfl
  rw [e, bits_xor_bv, BitVec.xor_allOnes]
theorem sub_bv (R : BitVec 32) : (4294967295 : Int) - (R.toNat : Int) = ((~~~ R).toNat : Int) := by
  rw [BitVec.toNat_not]; have := R.isLt; omega
theorem refBit_test (R : BitVec 32) (x : Int) (t : Nat) (h0 : 0 ≤ x) (h1 : x < 256) (ht : t < 8) :
    ((R.toNat : Int) % 2 != x / (2 ^ t % 4294967296) % 2) = (R.getLsbD 0 != x.toNat.testBit t) := by
  obtain ⟨n, rfl⟩ := Int.eq_ofNat_of_zero_le h0
  have hp : (2 : Int) ^ t % 4294967296 = ((2 ^ t : Nat) : Int) := by
    rcases (show t = 0 ∨ t = 1 ∨ t = 2 ∨ t = 3 ∨ t = 4 ∨ t = 5 ∨ t = 6 ∨ t = 7 from by omega) with h | h | h | h | h | h | h | h <;> subst h <;> decide
  rw [hp, Int.toNat_natCast]
  have a : R.getLsbD 0 = decide (R.toNat % 2 = 1) := by
    rw [BitVec.getLsbD, Nat.testBit_zero]
  have b : n.testBit t = decide (n / 2 ^ t % 2 = 1) := by rw [Nat.testBit_eq_decide_div_mod_eq]
  rw [a, b]
  have e1 : (R.toNat : Int) % 2 = ((R.toNat % 2 : Nat) : Int) := by omega
  have e2 : (n : Int) / ((2 ^ t : Nat) : Int) % 2 = ((n / 2 ^ t % 2 : Nat) : Int) := by rw [Int.natCast_emod, Int.natCast_ediv]; rfl
  rw [e1, e2]
  have h2 : R.toNat % 2 < 2 := Nat.mod_lt _ (by decide)
  have h3 : n / 2 ^ t % 2 < 2 := Nat.mod_lt _ (by decide)
  generalize R.toNat % 2 = u at *
  generalize n / 2 ^ t % 2 = v at *
  rcases (show u = 0 ∨ u = 1 from by omega) with rfl | rfl <;> rcases (show v = 0 ∨ v = 1 from by omega) with rfl | rfl <;> rfl
theorem refBit_yes (R : BitVec 32) (x : Int) (t : Nat) (h0 : 0 ≤ x) (h1 : x < 256) (ht : t < 8) (h : ((R.toNat : Int) % 2 != x / (2 ^ t % 4294967296) % 2) = true) :
    bits .xor .u32 ((R.toNat : Int) / 2) 2197175160 = ((bvBit R (x.toNat.testBit t)).toNat : Int) := by
  rw [refBit_test R x t h0 h1 ht] at h
  have e2 : (2197175160 : Int) = (poly.toNat : Int) := rfl
  unfold bvBit
  rw [if_pos h, half_bv, e2, bits_xor_bv]
theorem refBit_no (R : BitVec 32) (x : Int) (t : Nat) (h0 : 0 ≤ x) (h1 : x < 256) (ht : t < 8) (h : ((R.toNat : Int) % 2 != x / (2 ^ t % 4294967296) % 2) = false) :
    (R.toNat : Int) / 2 = ((bvBit R (x.toNat.testBit t)).toNat : Int) := by
  rw [refBit_test R x t h0 h1 ht] at h
  unfold bvBit
  rw [if_neg (by rw [h]; exact Bool.false_ne_true), half_bv]; simp
end Go.Proofs.Yteepfkolibeekaa
