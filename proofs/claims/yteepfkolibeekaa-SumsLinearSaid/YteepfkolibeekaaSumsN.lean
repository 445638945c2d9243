/-
  PLAIN: the Internet's sum as a remainder. No program in sight.
-/
import Derived.WalkKit
set_option linter.unusedVariables false
set_option linter.unusedSimpArgs false
namespace Go.Proofs.Yteepfkolibeekaa
open Go.RowKit

/-- What goes beyond 16 bits, added at the other end as long as something does. -/
def fold16 (n : Int) : Int := if n = 0 then 0 else (n - 1) % 65535 + 1
theorem fold16_range (n : Int) : 0 ≤ fold16 n ∧ fold16 n ≤ 65535 := by unfold fold16; split <;> omega
theorem fold16_small (n : Int) (h0 : 0 ≤ n) (h : n ≤ 65535) : fold16 n = n := by unfold fold16; split <;> omega
theorem fold16_step (n : Int) (h0 : 0 ≤ n) : fold16 (n % 65536 + n / 65536) = fold16 n := by
  unfold fold16
  split <;> split <;> omega
theorem fold16_add (a b : Int) (h0 : 0 ≤ a) (h1 : 0 ≤ b) : fold16 (fold16 a + b) = fold16 (a + b) := by
  unfold fold16
  split <;> split <;> first | omega | (split <;> omega)
theorem fold16_over (n : Int) (h0 : 65535 < n) (h1 : n ≤ 131070) : fold16 n = n - 65535 := by unfold fold16; split <;> omega
theorem fold16_self (n : Int) (h0 : 0 ≤ n) : fold16 (n + (65535 - fold16 n)) = 65535 := by
  unfold fold16
  split <;> split <;> omega
/-- The sum of the first j bytes, those at even places the higher ones. -/
def netS (xs : List Int) : Nat → Int
  | 0 => 0
  | j + 1 => netS xs j + (if j % 2 = 0 then xs.getD j 0 * 256 else xs.getD j 0)
def net (xs : List Int) : Int := 65535 - fold16 (netS xs xs.length)
theorem netS_range (xs : List Int) (hx : ∀ j, 0 ≤ xs.getD j 0 ∧ xs.getD j 0 < 256) (j : Nat) : 0 ≤ netS xs j ∧ netS xs j ≤ 65280 * (j : Int) := by
  induction j with
  | zero => simp [netS]
  | succ j ih =>
    have := hx j
    simp only [netS]
    split <;> constructor <;> push_cast <;> omega
theorem netS_append_left (xs ys : List Int) (j : Nat) (h : j ≤ xs.length) : netS (xs ++ ys) j = netS xs j := by
  induction j with
  | zero => rfl
  | succ j ih =>
    simp only [netS]
    rw [ih (by omega)]
    simp [List.getD_eq_getElem?_getD, List.getElem?_append_left (show j < xs.length by omega)]
theorem netS_append_even (xs ys : List Int) (he : xs.length % 2 = 0) (j : Nat) : netS (xs ++ ys) (xs.length + j) = netS xs xs.length + netS ys j := by
  induction j with
  | zero => rw [Nat.add_zero, netS_append_left _ _ _ (Nat.le_refl _)]; simp [netS]
  | succ j ih =>
    rw [← Nat.add_assoc]
    simp only [netS]
    rw [ih]
    have e : (xs ++ ys).getD (xs.length + j) 0 = ys.getD j 0 := by
      simp [List.getD_eq_getElem?_getD, List.getElem?_append_right (show xs.length ≤ xs.length + j by omega)]
    rw [e]
    have e2 : (xs.length + j) % 2 = j % 2 := by omega
    rw [e2]
    omega
theorem net_range (xs : List Int) : 0 ≤ net xs ∧ net xs ≤ 65535 := by
  have := fold16_range (netS xs xs.length)
  unfold net; omega
/-- Two bytes more: a number. -/
theorem netS_two (a b : Int) : netS [a, b] 2 = a * 256 + b := by simp [netS]
/-- P2.5: with its own two bytes behind an even number of bytes the sum is 0. -/
theorem net_whole (xs : List Int) (he : xs.length % 2 = 0) (h0 : 0 ≤ netS xs xs.length) : net (xs ++ [net xs / 256, net xs % 256]) = 0 := by
  have hr := net_range xs
  have e : netS (xs ++ [net xs / 256, net xs % 256]) (xs.length + 2) = netS xs xs.length + net xs := by
    rw [netS_append_even _ _ he, netS_two]; omega
  have hlen : (xs ++ [net xs / 256, net xs % 256]).length = xs.length + 2 := by simp
  show 65535 - fold16 (netS _ (xs ++ [net xs / 256, net xs % 256]).length) = 0
  rw [hlen, e]
  have := fold16_self (netS xs xs.length) h0
  unfold net
  omega
/-- Behind an odd number of bytes a 0 plays no part. -/
theorem net_pad (xs : List Int) (ho : xs.length % 2 = 1) : net (xs ++ [0]) = net xs := by
  have hlen : (xs ++ [(0 : Int)]).length = xs.length + 1 := by simp
  unfold net
  rw [hlen]
  simp only [netS]
  rw [netS_append_left _ _ _ (Nat.le_refl _), if_neg (by omega)]
  have : (xs ++ [(0 : Int)]).getD xs.length 0 = 0 := by simp [List.getD_eq_getElem?_getD]
  rw [this]; simp
def wgt (p : Nat) : Int := if p % 2 = 0 then 256 else 1
theorem netS_set (xs : List Int) (p : Nat) (u : Int) (n : Nat) (hn : n ≤ xs.length) : netS (xs.set p u) n = netS xs n + if p < n then (u - xs.getD p 0) * wgt p else 0 := by
  induction n with
  | zero => simp [netS]
  | succ n ih =>
    simp only [netS]
    rw [ih (by omega)]
    rcases Nat.lt_trichotomy p n with h | h | h
    · rw [if_pos h, if_pos (show p < n + 1 by omega)]
      have : (xs.set p u).getD n 0 = xs.getD n 0 := by
        simp [List.getD_eq_getElem?_getD, List.getElem?_set_ne (show p ≠ n by omega)]
      rw [this]; omega
    · subst h
      rw [if_neg (Nat.lt_irrefl _), if_pos (Nat.lt_succ_self _)]
      have : (xs.set p u).getD p 0 = u := by
        simp [List.getD_eq_getElem?_getD, List.getElem?_set_self (show p < xs.length by omega)]
      rw [this]
      unfold wgt
      split <;> omega
    · rw [if_neg (show ¬ p < n by omega), if_neg (show ¬ p < n + 1 by omega)]
      have : (xs.set p u).getD n 0 = xs.getD n 0 := by
        simp [List.getD_eq_getElem?_getD, List.getElem?_set_ne (show p ≠ n by omega)]
      rw [this]; omega
theorem getD_set_ne' (xs : List Int) (p q : Nat) (u : Int) (h : p ≠ q) : (xs.set p u).getD q 0 = xs.getD q 0 := by
  simp [List.getD_eq_getElem?_getD, List.getElem?_set_ne h]
theorem getD_set_self' (xs : List Int) (p : Nat) (u : Int) (h : p < xs.length) : (xs.set p u).getD p 0 = u := by
  simp [List.getD_eq_getElem?_getD, List.getElem?_set_self h]
/-- Two numbers of 16 bits change places. -/
theorem net_swap (xs : List Int) (X Y : Nat) (hX : X + 1 < xs.length) (hY : Y + 1 < xs.length) (eX : X % 2 = 0) (eY : Y % 2 = 0) (hne : X ≠ Y) :
    net ((((xs.set X (xs.getD Y 0)).set (X + 1) (xs.getD (Y + 1) 0)).set Y (xs.getD X 0)).set (Y + 1) (xs.getD (X + 1) 0)) = net xs := by
  unfold net
  simp only [List.length_set]
  rw [netS_set _ _ _ _ (by simp), netS_set _ _ _ _ (by simp), netS_set _ _ _ _ (by simp), netS_set _ _ _ _ (by simp)]
  rw [if_pos (by omega), if_pos (by omega), if_pos (by omega), if_pos (by omega)]
  rw [getD_set_ne' _ Y (Y + 1) _ (by omega), getD_set_ne' _ (X + 1) (Y + 1) _ (by omega), getD_set_ne' _ X (Y + 1) _ (by omega)]
  rw [getD_set_ne' _ (X + 1) Y _ (by omega), getD_set_ne' _ X Y _ (by omega), getD_set_ne' _ X (X + 1) _ (by omega)]
  have w1 : wgt X = 256 := by unfold wgt; rw [if_pos eX]
  have w2 : wgt Y = 256 := by unfold wgt; rw [if_pos eY]
  have w3 : wgt (X + 1) = 1 := by unfold wgt; rw [if_neg (by omega)]
  have w4 : wgt (Y + 1) = 1 := by unfold wgt; rw [if_neg (by omega)]
  rw [w1, w2, w3, w4]
  congr 1
  congr 1
  omega
theorem set_same (xs : List Int) (p : Nat) : xs.set p (xs.getD p 0) = xs := by
  rcases Nat.lt_or_ge p xs.length with h | h
  · rw [List.getD_eq_getElem?_getD, List.getElem?_eq_getElem h]; simp
  · rw [List.set_eq_of_length_le h]
/-! ### As the walk spells it -/
theorem and16 (q : Int) (h0 : 0 ≤ q) (h1 : q < 18446744073709551616) : bits .and .u64 q 65535 = q % 65536 := by
  rw [u64_and q 65535 h0 h1 (by decide) (by decide)]
  obtain ⟨n, rfl⟩ := Int.eq_ofNat_of_zero_le h0
  rw [Int.toNat_natCast, show ((65535 : Int).toNat) = 65535 from rfl, nat_mask16]
  omega
theorem not16 (q : Int) (h0 : 0 ≤ q) (h1 : q ≤ 65535) : bits .xor .u16 IntKind.u16.max q = 65535 - q := by
  obtain ⟨n, rfl⟩ := Int.eq_ofNat_of_zero_le h0
  have e : IntKind.u16.max = ((65535 : Nat) : Int) := rfl
  rw [e, u16_xor_nat 65535 n (by decide) (by omega)]
  have hb : (65535 ^^^ n) = 65535 - n := by
    have h : (~~~ (BitVec.ofNat 16 n)).toNat = 65535 ^^^ n := by
      rw [← BitVec.allOnes_xor, BitVec.toNat_xor, BitVec.toNat_ofNat, Nat.mod_eq_of_lt (by omega)]; rfl
    rw [← h, BitVec.toNat_not, BitVec.toNat_ofNat, Nat.mod_eq_of_lt (by omega)]
  rw [hb]; omega
end Go.Proofs.Yteepfkolibeekaa
