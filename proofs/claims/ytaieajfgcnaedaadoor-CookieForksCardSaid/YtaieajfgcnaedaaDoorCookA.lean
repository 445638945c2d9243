/-
  LAYER 6, PLAIN: a cookie as a record, its 52 bytes, what is sealed, what is opened. It speaks of no program.
-/
import Derived.Test.YtaieajfgcnaedaaDoorHashH
set_option linter.unusedVariables false
set_option linter.unusedSimpArgs false
namespace Go.Proofs.YtaieajfgcnaedaaDoor
open Go.RowKit

structure Ck where
  made : Int
  life : Int
  port : Int
  pport : Int
  tag : Int
  ptag : Int
  tsn : Int
  ptsn : Int
  room : Int
  outs : Int
  ins : Int
  addr : Int
  other : Int
deriving DecidableEq
def Ck.cells (c : Ck) : Array Value := #[.int .i64 c.made, .int .i64 c.life, .int .u16 c.port, .int .u16 c.pport, .int .u32 c.tag, .int .u32 c.ptag, .int .u32 c.tsn, .int .u32 c.ptsn, .int .u32 c.room, .int .u16 c.outs, .int .u16 c.ins, .int .u32 c.addr, .int .u32 c.other]
/-- What the fields' types allow, but for the times. -/
structure Ck.Ok (c : Ck) : Prop where
  port : 0 ≤ c.port ∧ c.port < 65536
  pport : 0 ≤ c.pport ∧ c.pport < 65536
  tag : 0 ≤ c.tag ∧ c.tag < 4294967296
  ptag : 0 ≤ c.ptag ∧ c.ptag < 4294967296
  tsn : 0 ≤ c.tsn ∧ c.tsn < 4294967296
  ptsn : 0 ≤ c.ptsn ∧ c.ptsn < 4294967296
  room : 0 ≤ c.room ∧ c.room < 4294967296
  outs : 0 ≤ c.outs ∧ c.outs < 65536
  ins : 0 ≤ c.ins ∧ c.ins < 65536
  addr : 0 ≤ c.addr ∧ c.addr < 4294967296
  other : 0 ≤ c.other ∧ c.other < 4294967296
def Ck.may (c : Ck) : Prop := 0 ≤ c.made ∧ c.made ≤ 1099511627776 ∧ 0 ≤ c.life ∧ c.life ≤ 600
instance (c : Ck) : Decidable c.may := by unfold Ck.may; infer_instance
def Ck.none : Ck := ⟨0, 0, 0, 0, 0, 0, 0, 0, 0, 0, 0, 0, 0⟩
def Ck.plain (c : Ck) : List Int := be c.made 8 ++ be c.life 4 ++ (be c.port 2 ++ be c.pport 2) ++ (be c.tag 4 ++ be c.ptag 4 ++ be c.tsn 4 ++ be c.ptsn 4 ++ be c.room 4) ++ (be c.outs 2 ++ be c.ins 2) ++ (be c.addr 4 ++ be c.other 4 ++ be 0 4)
theorem Ck.plain_len (c : Ck) : c.plain.length = 52 := by simp [Ck.plain, be_length]
theorem Ck.plain_bytes (c : Ck) : Bytes c.plain := by
  unfold Ck.plain
  exact ((((((be_bytes _ _).append (be_bytes _ _)).append ((be_bytes _ _).append (be_bytes _ _))).append (((((be_bytes _ _).append (be_bytes _ _)).append (be_bytes _ _)).append (be_bytes _ _)).append (be_bytes _ _))).append ((be_bytes _ _).append (be_bytes _ _))).append (((be_bytes _ _).append (be_bytes _ _)).append (be_bytes _ _)))
def Ck.seal (secret : List Int) (c : Ck) : List Int := c.plain ++ mac secret c.plain
theorem Ck.seal_len (secret : List Int) (c : Ck) : (c.seal secret).length = 84 := by unfold Ck.seal; rw [List.length_append, Ck.plain_len, mac_len]
theorem Ck.seal_bytes (secret : List Int) (c : Ck) : Bytes (c.seal secret) := (Ck.plain_bytes c).append (mac_bytes _ _)
def numAt (b : List Int) (at_ n : Nat) : Int := numI ((b.drop at_).take n)
/-- The cookie that 52 bytes say. -/
def ckOf (b : List Int) : Ck := ⟨numAt b 0 8, numAt b 8 4, numAt b 12 2, numAt b 14 2, numAt b 16 4, numAt b 20 4, numAt b 24 4, numAt b 28 4, numAt b 32 4, numAt b 36 2, numAt b 38 2, numAt b 40 4, numAt b 44 4⟩
/-- What is opened: the cookie, and the error's number. -/
def ckOpen (sec frm : List Int) (two : Bool) (b : List Int) (now : Int) : Ck × Int :=
  if now < 0 ∨ 1099511627776 < now then (Ck.none, 2)
  else if b.length ≠ 84 then (Ck.none, 4)
  else if ¬ (mac sec (b.take 52) = b.drop 52 ∨ (mac frm (b.take 52) = b.drop 52 ∧ two = true)) then (Ck.none, 5)
  else if numAt b 48 4 ≠ 0 then (Ck.none, 4)
  else if 1099511627776 < numAt b 0 8 ∨ 600 < numAt b 8 4 then (Ck.none, 6)
  else if now < numAt b 0 8 ∨ numAt b 0 8 + numAt b 8 4 < now then (Ck.none, 8)
  else (ckOf b, 0)
theorem numI_be (n : Nat) : ∀ v : Int, 0 ≤ v → v < 256 ^ n → numI (be v n) = v := by
  induction n with
  | zero => intro v h0 h1; simp at h1; simp [be, numI]; omega
  | succ n ih =>
    intro v h0 h1
    have e : be v (n + 1) = be (v / 256) n ++ [v % 256] := by
      unfold be
      rw [List.range_succ, List.map_append]
      simp only [List.map_cons, List.map_nil, Nat.add_sub_cancel, Nat.sub_self, Int.pow_zero, Int.ediv_one]
      congr 1
      apply List.map_congr_left
      intro i hi
      have hi' := List.mem_range.1 hi
      rw [Int.ediv_ediv_of_nonneg (by omega), ← Int.pow_succ', show n - i = (n - 1 - i) + 1 by omega]
    rw [e, numI_snoc, ih (v / 256) (Int.ediv_nonneg h0 (by omega)) (by rw [Int.pow_succ] at h1; exact Int.ediv_lt_of_lt_mul (by omega) h1)]
    omega
theorem numAt_be (xs : List Int) (v : Int) (n : Nat) (ys : List Int) (h0 : 0 ≤ v) (h1 : v < 256 ^ n) : numAt (xs ++ (be v n ++ ys)) xs.length n = v := by
  unfold numAt
  rw [List.drop_left, List.take_left' (be_length v n)]
  exact numI_be n v h0 h1
end Go.Proofs.YtaieajfgcnaedaaDoor
