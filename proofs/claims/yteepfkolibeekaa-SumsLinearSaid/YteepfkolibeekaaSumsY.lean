/-
  PLAIN: the sum of two rows of bytes, xor. No program in sight.
-/
import Derived.Test.YteepfkolibeekaaSumsX
import Derived.Test.YteepfkolibeekaaU
set_option linter.unusedVariables false
set_option linter.unusedSimpArgs false
namespace Go.Proofs.Yteepfkolibeekaa
open Go.RowKit

def xorb (x y : Int) : Int := bits .xor .u8 x y
theorem xorb_nat (x y : Int) (hx : 0 ≤ x ∧ x < 256) (hy : 0 ≤ y ∧ y < 256) : xorb x y = ((x.toNat ^^^ y.toNat : Nat) : Int) := u8_xor x y hx.1 hx.2 hy.1 hy.2
theorem xorb_range (x y : Int) (hx : 0 ≤ x ∧ x < 256) (hy : 0 ≤ y ∧ y < 256) : 0 ≤ xorb x y ∧ xorb x y < 256 := by
  rw [xorb_nat x y hx hy]
  have : x.toNat ^^^ y.toNat < 2 ^ 8 := Nat.xor_lt_two_pow (by omega) (by omega)
  omega
theorem bits8_xor (x y : Int) (hx : 0 ≤ x ∧ x < 256) (hy : 0 ≤ y ∧ y < 256) : bits8 (xorb x y) = List.zipWith xor (bits8 x) (bits8 y) := by
  rw [xorb_nat x y hx hy]
  unfold bits8
  rw [Int.toNat_natCast, List.zipWith_map, List.zipWith_self]
  apply List.map_congr_left
  intro t _
  exact Nat.testBit_xor ..
theorem allBits_len (xs : List Int) : (allBits xs).length = 8 * xs.length := by
  induction xs with
  | nil => rfl
  | cons x xs ih =>
    unfold allBits at *
    rw [List.flatMap_cons, List.length_append, ih]
    simp [bits8]; omega
theorem allBits_xor : ∀ (xs ys : List Int), Bytes xs → Bytes ys → xs.length = ys.length → allBits (List.zipWith xorb xs ys) = List.zipWith xor (allBits xs) (allBits ys)
  | [], [], _, _, _ => rfl
  | [], _ :: _, _, _, h => by simp at h
  | _ :: _, [], _, _, h => by simp at h
  | x :: xs, y :: ys, hx, hy, h => by
    have ih := allBits_xor xs ys (fun z hz => hx z (List.mem_cons_of_mem _ hz)) (fun z hz => hy z (List.mem_cons_of_mem _ hz)) (by simpa using h)
    unfold allBits at *
    rw [List.zipWith_cons_cons, List.flatMap_cons, List.flatMap_cons, List.flatMap_cons, ih, bits8_xor x y (hx x (by simp)) (hy y (by simp)), List.zipWith_append (by simp [bits8])]
theorem crcR_xor (xs ys : List Int) (hx : Bytes xs) (hy : Bytes ys) (h : xs.length = ys.length) (R S : BitVec 32) : crcR (R ^^^ S) (List.zipWith xorb xs ys) = crcR R xs ^^^ crcR S ys := by
  rw [crcR_run, crcR_run, crcR_run, allBits_xor xs ys hx hy h]
  exact run_xor _ _ _ _ (by rw [allBits_len, allBits_len, h])
theorem xorb_zero (x : Int) (hx : 0 ≤ x ∧ x < 256) : xorb x 0 = x := by
  rw [xorb_nat x 0 hx (by decide)]
  simp; omega
/-- P2.4. -/
theorem crc_linear (xs ys : List Int) (hx : Bytes xs) (hy : Bytes ys) (h : xs.length = ys.length) :
    crc (List.zipWith xorb xs ys) = bits .xor .u32 (bits .xor .u32 (crc xs) (crc ys)) (crc (List.replicate xs.length 0)) := by
  unfold crc
  rw [bits_xor_bv, bits_xor_bv]
  congr 2
  unfold crcV
  have hz : Bytes (List.replicate xs.length (0 : Int)) := fun z hz => by rw [List.eq_of_mem_replicate hz]; decide
  have hb : Bytes (List.zipWith xorb xs ys) := fun z hz => by
    obtain ⟨i, hi, e⟩ := List.getElem_of_mem hz
    rw [← e, List.getElem_zipWith]
    exact xorb_range _ _ (hx _ (List.getElem_mem _)) (hy _ (List.getElem_mem _))
  have e1 : List.zipWith xorb (List.zipWith xorb xs ys) (List.replicate xs.length 0) = List.zipWith xorb xs ys := by
    apply List.ext_getElem
    · simp
    · intro i h1 h2
      rw [List.getElem_zipWith, List.getElem_replicate]
      exact xorb_zero _ (hb _ (List.getElem_mem _))
  have e2 : (ones ^^^ ones) ^^^ ones = ones := by decide
  have e3 := crcR_xor (List.zipWith xorb xs ys) (List.replicate xs.length 0) hb hz (by simp; omega) (ones ^^^ ones) ones
  rw [e1, e2, crcR_xor xs ys hx hy h] at e3
  rw [e3]
  apply BitVec.eq_of_getLsbD_eq
  intro i hi
  simp only [BitVec.getLsbD_xor, BitVec.getLsbD_not, hi]
  cases (crcR ones xs).getLsbD i <;> cases (crcR ones ys).getLsbD i <;> cases (crcR ones (List.replicate xs.length 0)).getLsbD i <;> rfl
end Go.Proofs.Yteepfkolibeekaa
