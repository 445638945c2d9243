/-
  PLAIN: the register is linear; a burst of up to 32 bits is told. No program in sight.
-/
import Derived.Test.YteepfkolibeekaaSumsA
set_option linter.unusedVariables false
set_option linter.unusedSimpArgs false
namespace Go.Proofs.Yteepfkolibeekaa
open Go.RowKit

def run (R : BitVec 32) (bs : List Bool) : BitVec 32 := bs.foldl bvBit R
def bits8 (x : Int) : List Bool := (List.range 8).map fun t => x.toNat.testBit t
def allBits (xs : List Int) : List Bool := xs.flatMap bits8
theorem bvBits_run (x : Int) (R : BitVec 32) : bvBits x 8 R = run R (bits8 x) := rfl
theorem crcR_run (xs : List Int) : ∀ R, crcR R xs = run R (allBits xs) := by
  induction xs with
  | nil => intro R; rfl
  | cons x xs ih =>
    intro R
    show crcR (bvBits x 8 R) xs = _
    rw [ih, bvBits_run]
    unfold run allBits
    rw [List.flatMap_cons, List.foldl_append]
theorem xor4 (r s f g : BitVec 32) : (r ^^^ s) ^^^ (f ^^^ g) = (r ^^^ f) ^^^ (s ^^^ g) := by
  apply BitVec.eq_of_getLsbD_eq
  intro i hi
  simp only [BitVec.getLsbD_xor]
  cases r.getLsbD i <;> cases s.getLsbD i <;> cases f.getLsbD i <;> cases g.getLsbD i <;> rfl
/-- One step of two registers. -/
theorem bvBit_xor (R S : BitVec 32) (a b : Bool) : bvBit (R ^^^ S) (a ^^ b) = bvBit R a ^^^ bvBit S b := by
  unfold bvBit
  have h : ((R ^^^ S).getLsbD 0 != (a ^^ b)) = ((R.getLsbD 0 != a) ^^ (S.getLsbD 0 != b)) := by
    rw [BitVec.getLsbD_xor]
    cases R.getLsbD 0 <;> cases S.getLsbD 0 <;> cases a <;> cases b <;> rfl
  have e : (R ^^^ S) >>> 1 = (R >>> 1) ^^^ (S >>> 1) := BitVec.ushiftRight_xor_distrib R S 1
  have k : ∀ f g : Bool, (if (f ^^ g) = true then poly else 0#32) = (if f = true then poly else 0#32) ^^^ (if g = true then poly else 0#32) := by
    intro f g
    cases f <;> cases g <;> simp
  rw [h, e, k, xor4]
theorem run_xor (as : List Bool) : ∀ (bs : List Bool) (R S : BitVec 32), as.length = bs.length → run (R ^^^ S) (List.zipWith xor as bs) = run R as ^^^ run S bs := by
  induction as with
  | nil =>
    intro bs R S h
    cases bs with
    | nil => rfl
    | cons b bs => simp at h
  | cons a as ih =>
    intro bs R S h
    cases bs with
    | nil => simp at h
    | cons b bs =>
      show run (bvBit (R ^^^ S) (a ^^ b)) _ = _
      rw [bvBit_xor]
      exact ih bs _ _ (by simpa using h)
theorem poly_top : poly.getLsbD 31 = true := by decide
theorem bvBit_top (R : BitVec 32) (b : Bool) : (bvBit R b).getLsbD 31 = (R.getLsbD 0 != b) := by
  unfold bvBit
  rw [BitVec.getLsbD_xor, BitVec.getLsbD_ushiftRight]
  have : R.getLsbD (1 + 31) = false := BitVec.getLsbD_of_ge R 32 (Nat.le_refl _)
  rw [this]
  cases (R.getLsbD 0 != b)
  · simp
  · rw [if_pos rfl, poly_top]; rfl
theorem small_top {R : BitVec 32} (h : R.toNat < 2 ^ 31) : R.getLsbD 31 = false := by
  rw [BitVec.getLsbD, Nat.testBit_lt_two_pow h]
/-- What comes to 0 in n steps was below 2^n. -/
theorem run_zero_small (bs : List Bool) : ∀ R : BitVec 32, bs.length ≤ 32 → run R bs = 0#32 → R.toNat < 2 ^ bs.length := by
  induction bs with
  | nil => intro R _ h; have : R = 0#32 := h; subst this; decide
  | cons b bs ih =>
    intro R hl h
    have h1 := ih (bvBit R b) (by simp at hl; omega) h
    have hp : 2 ^ bs.length ≤ 2 ^ 31 := Nat.pow_le_pow_right (by decide) (by simp at hl; omega)
    have ht := small_top (Nat.lt_of_lt_of_le h1 hp)
    rw [bvBit_top] at ht
    have e : bvBit R b = R >>> 1 := by
      unfold bvBit
      rw [if_neg (by rw [ht]; exact Bool.false_ne_true)]
      simp
    rw [e, BitVec.toNat_ushiftRight, Nat.shiftRight_eq_div_pow] at h1
    rw [List.length_cons, Nat.pow_succ]
    omega
/-- A burst of up to 32 bits. -/
theorem run_burst (bs : List Bool) : bs.length ≤ 32 → run 0#32 bs = 0#32 → ∀ b ∈ bs, b = false := by
  induction bs with
  | nil => intro _ _ b hb; simp at hb
  | cons b bs ih =>
    intro hl h
    cases b with
    | true =>
      have h1 := run_zero_small bs (bvBit 0#32 true) (by simp at hl; omega) h
      have hp : 2 ^ bs.length ≤ 2 ^ 31 := Nat.pow_le_pow_right (by decide) (by simp at hl; omega)
      have : (bvBit 0#32 true).toNat = 2197175160 := by decide
      omega
    | false =>
      have e : bvBit 0#32 false = 0#32 := by decide
      have h' : run (bvBit 0#32 false) bs = 0#32 := h
      rw [e] at h'
      intro c hc
      rcases List.mem_cons.1 hc with rfl | hc
      · rfl
      · exact ih (by simp at hl; omega) h' c hc
/-- The step is one to one. -/
theorem bvBit_inj {R S : BitVec 32} {b : Bool} (h : bvBit R b = bvBit S b) : R = S := by
  have h0 : bvBit (R ^^^ S) false = 0#32 := by
    have := bvBit_xor R S b b
    rw [h, BitVec.xor_self, Bool.xor_self] at this
    exact this
  have h1 : run (R ^^^ S) [false] = 0#32 := h0
  have h2 := run_zero_small [false] (R ^^^ S) (by decide) h1
  have h3 : R ^^^ S = 0#32 := by
    apply BitVec.eq_of_toNat_eq
    have h4 : (R ^^^ S).toNat = 0 ∨ (R ^^^ S).toNat = 1 := by simp at h2 ⊢; omega
    rcases h4 with h4 | h4
    · exact h4
    · have h5 : R ^^^ S = 1#32 := BitVec.eq_of_toNat_eq h4
      rw [h5] at h0
      exact absurd h0 (by decide)
  exact BitVec.xor_eq_zero_iff.1 h3
theorem run_inj (bs : List Bool) : ∀ {R S : BitVec 32}, run R bs = run S bs → R = S := by
  induction bs with
  | nil => intro R S h; exact h
  | cons b bs ih => intro R S h; exact bvBit_inj (ih h)
end Go.Proofs.Yteepfkolibeekaa
