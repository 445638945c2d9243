/-
  LAYER 5, PLAIN: SHA-256 and HMAC over lists of bytes, words as bit vectors. It speaks of no program.
-/
import Derived.Test.YtaieajfgcnaedaaDoorU
set_option linter.unusedVariables false
set_option linter.unusedSimpArgs false
namespace Go.Proofs.YtaieajfgcnaedaaDoor
open Go.RowKit

abbrev W32 := BitVec 32
def rotr (x : W32) (n : Nat) : W32 := x >>> n ||| x <<< (32 - n)
def kTab : List W32 := [0x428a2f98, 0x71374491, 0xb5c0fbcf, 0xe9b5dba5, 0x3956c25b, 0x59f111f1, 0x923f82a4, 0xab1c5ed5, 0xd807aa98, 0x12835b01, 0x243185be, 0x550c7dc3, 0x72be5d74, 0x80deb1fe, 0x9bdc06a7, 0xc19bf174, 0xe49b69c1, 0xefbe4786, 0x0fc19dc6, 0x240ca1cc, 0x2de92c6f, 0x4a7484aa, 0x5cb0a9dc, 0x76f988da, 0x983e5152, 0xa831c66d, 0xb00327c8, 0xbf597fc7, 0xc6e00bf3, 0xd5a79147, 0x06ca6351, 0x14292967, 0x27b70a85, 0x2e1b2138, 0x4d2c6dfc, 0x53380d13, 0x650a7354, 0x766a0abb, 0x81c2c92e, 0x92722c85, 0xa2bfe8a1, 0xa81a664b, 0xc24b8b70, 0xc76c51a3, 0xd192e819, 0xd6990624, 0xf40e3585, 0x106aa070, 0x19a4c116, 0x1e376c08, 0x2748774c, 0x34b0bcb5, 0x391c0cb3, 0x4ed8aa4a, 0x5b9cca4f, 0x682e6ff3, 0x748f82ee, 0x78a5636f, 0x84c87814, 0x8cc70208, 0x90befffa, 0xa4506ceb, 0xbef9a3f7, 0xc67178f2]
structure V8 where
  a : W32
  b : W32
  c : W32
  d : W32
  e : W32
  f : W32
  g : W32
  h : W32
deriving DecidableEq
def hInit : V8 := ⟨0x6a09e667, 0xbb67ae85, 0x3c6ef372, 0xa54ff53a, 0x510e527f, 0x9b05688c, 0x1f83d9ab, 0x5be0cd19⟩
def byteV (x : Int) : W32 := BitVec.ofInt 32 x
/-- Four bytes, the highest first, as a word. -/
def wordAt (b : List Int) (i : Nat) : W32 := byteV (b.getD (4 * i) 0) <<< 24 ||| byteV (b.getD (4 * i + 1) 0) <<< 16 ||| byteV (b.getD (4 * i + 2) 0) <<< 8 ||| byteV (b.getD (4 * i + 3) 0)
def schedNext (ws : List W32) (i : Nat) : W32 :=
  ws.getD (i - 16) 0 + (rotr (ws.getD (i - 15) 0) 7 ^^^ rotr (ws.getD (i - 15) 0) 18 ^^^ ws.getD (i - 15) 0 >>> 3) + ws.getD (i - 7) 0 + (rotr (ws.getD (i - 2) 0) 17 ^^^ rotr (ws.getD (i - 2) 0) 19 ^^^ ws.getD (i - 2) 0 >>> 10)
/-- The first n words of the schedule. -/
def sched (b : List Int) : Nat → List W32
  | 0 => []
  | n + 1 => let ws := sched b n; ws ++ [if n < 16 then wordAt b n else schedNext ws n]
def t1 (v : V8) (k w : W32) : W32 := v.h + (rotr v.e 6 ^^^ rotr v.e 11 ^^^ rotr v.e 25) + ((v.e &&& v.f) ^^^ (~~~v.e &&& v.g)) + k + w
def t2 (v : V8) : W32 := (rotr v.a 2 ^^^ rotr v.a 13 ^^^ rotr v.a 22) + ((v.a &&& v.b) ^^^ (v.a &&& v.c) ^^^ (v.b &&& v.c))
def step (v : V8) (k w : W32) : V8 := ⟨t1 v k w + t2 v, v.a, v.b, v.c, v.d + t1 v k w, v.e, v.f, v.g⟩
/-- n rounds. -/
def rounds8 (ws : List W32) (v : V8) : Nat → V8
  | 0 => v
  | n + 1 => step (rounds8 ws v n) (kTab.getD n 0) (ws.getD n 0)
def addV (x y : V8) : V8 := ⟨x.a + y.a, x.b + y.b, x.c + y.c, x.d + y.d, x.e + y.e, x.f + y.f, x.g + y.g, x.h + y.h⟩
def compress (v : V8) (b : List Int) : V8 := addV v (rounds8 (sched b 64) v 64)
/-- All whole blocks are taken; what is left. -/
def absorb (v : V8) (xs : List Int) : V8 × List Int :=
  if h : 64 ≤ xs.length then absorb (compress v (xs.take 64)) (xs.drop 64) else (v, xs)
termination_by xs.length
decreasing_by simp; omega
theorem absorb_ge {v : V8} {xs : List Int} (h : 64 ≤ xs.length) : absorb v xs = absorb (compress v (xs.take 64)) (xs.drop 64) := by
  rw [absorb, dif_pos h]
theorem absorb_lt {v : V8} {xs : List Int} (h : ¬ 64 ≤ xs.length) : absorb v xs = (v, xs) := by
  rw [absorb, dif_neg h]
theorem absorb_append (ys : List Int) : ∀ (n : Nat) (v : V8) (xs : List Int), xs.length ≤ n → absorb v (xs ++ ys) = absorb (absorb v xs).1 ((absorb v xs).2 ++ ys) := by
  intro n
  induction n with
  | zero =>
    intro v xs h
    have : xs = [] := List.length_eq_zero_iff.1 (by omega)
    subst this
    rw [absorb_lt (v := v) (xs := []) (by simp)]
  | succ n ih =>
    intro v xs h
    by_cases h64 : 64 ≤ xs.length
    · rw [absorb_ge h64, absorb_ge (xs := xs ++ ys) (by simp; omega), List.take_append_of_le_length h64, List.drop_append_of_le_length h64]
      exact ih _ _ (by simp; omega)
    · rw [absorb_lt h64]
theorem absorb_rest (n : Nat) : ∀ (v : V8) (xs : List Int), xs.length ≤ n → (absorb v xs).2.length < 64 ∧ (absorb v xs).2.length % 64 = xs.length % 64 ∧ (absorb v xs).2.length ≤ xs.length ∧ ∀ x ∈ (absorb v xs).2, x ∈ xs := by
  induction n with
  | zero =>
    intro v xs h
    have : xs = [] := List.length_eq_zero_iff.1 (by omega)
    subst this
    rw [absorb_lt (by simp)]; simp
  | succ n ih =>
    intro v xs h
    by_cases h64 : 64 ≤ xs.length
    · rw [absorb_ge h64]
      obtain ⟨a, b, c, d⟩ := ih (compress v (xs.take 64)) (xs.drop 64) (by simp; omega)
      refine ⟨a, ?_, ?_, fun x hx => List.mem_of_mem_drop (d x hx)⟩
      · rw [b]; simp; omega
      · simp at c; omega
    · rw [absorb_lt h64]; exact ⟨by show xs.length < 64; omega, rfl, Nat.le_refl _, fun x hx => hx⟩

def be8 (n : Nat) : List Int := (List.range 8).map fun i => ((n / 256 ^ (7 - i) % 256 : Nat) : Int)
def padLen (len : Nat) : Nat := (119 - len % 64) % 64
/-- What stands behind len bytes. -/
def padding (len : Nat) : List Int := 128 :: (List.replicate (padLen len) 0 ++ be8 (8 * len))
def wordBytes (x : W32) : List Int := [(x >>> 24).toNat % 256, (x >>> 16).toNat % 256, (x >>> 8).toNat % 256, x.toNat % 256].map fun (n : Nat) => (n : Int)
def V8.bytes (v : V8) : List Int := wordBytes v.a ++ wordBytes v.b ++ wordBytes v.c ++ wordBytes v.d ++ wordBytes v.e ++ wordBytes v.f ++ wordBytes v.g ++ wordBytes v.h
def sha (xs : List Int) : List Int := (absorb hInit (xs ++ padding xs.length)).1.bytes
theorem bytes_length (v : V8) : v.bytes.length = 32 := rfl
def xorI (x y : Int) : Int := ((BitVec.ofInt 8 x ^^^ BitVec.ofInt 8 y).toNat : Int)
def keyOf (key : List Int) : List Int := let k := if 64 < key.length then sha key else key; k ++ List.replicate (64 - k.length) 0
def mac (key b : List Int) : List Int := sha ((keyOf key).map (xorI · 0x5c) ++ sha ((keyOf key).map (xorI · 0x36) ++ b))
/-- The two examples of the law. -/
theorem sha_abc : (sha [97, 98, 99]).take 4 = [0xba, 0x78, 0x16, 0xbf] := by decide +kernel
end Go.Proofs.YtaieajfgcnaedaaDoor
