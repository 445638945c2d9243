/-
  PLAIN: what is stamped and then changed at up to four bytes, one behind the other, behind the twelfth, is not stamped. No program in sight.
-/
import Derived.Test.YteepfkolibeekaaSumsY
import Derived.Test.YteepfkolibeekaaSumsQ
set_option linter.unusedVariables false
set_option linter.unusedSimpArgs false
namespace Go.Proofs.Yteepfkolibeekaa
open Go.RowKit

theorem crcR_append (R : BitVec 32) (xs ys : List Int) : crcR R (xs ++ ys) = crcR (crcR R xs) ys := List.foldl_append ..
theorem crcR_inj (xs : List Int) {R S : BitVec 32} (h : crcR R xs = crcR S xs) : R = S := by
  rw [crcR_run, crcR_run] at h
  exact run_inj _ h
theorem bits8_zero {x y : Int} (hx : 0 ≤ x ∧ x < 256) (hy : 0 ≤ y ∧ y < 256) (h : ∀ b ∈ bits8 (xorb x y), b = false) : x = y := by
  have h2 : x.toNat = y.toNat := by
    apply Nat.eq_of_testBit_eq
    intro i
    rcases Nat.lt_or_ge i 8 with hi | hi
    · have := h ((xorb x y).toNat.testBit i) (List.mem_map.2 ⟨i, List.mem_range.2 hi, rfl⟩)
      rw [xorb_nat x y hx hy, Int.toNat_natCast, Nat.testBit_xor] at this
      revert this
      cases x.toNat.testBit i <;> cases y.toNat.testBit i <;> simp
    · have hp : 2 ^ 8 ≤ 2 ^ i := Nat.pow_le_pow_right (by decide) hi
      rw [Nat.testBit_lt_two_pow (show x.toNat < 2 ^ i by omega), Nat.testBit_lt_two_pow (show y.toNat < 2 ^ i by omega)]
  omega
/-- Up to four bytes are told. -/
theorem crcR_burst {xs ys : List Int} (hx : Bytes xs) (hy : Bytes ys) (hl : xs.length = ys.length) (h4 : xs.length ≤ 4) {R : BitVec 32} (h : crcR R xs = crcR R ys) : xs = ys := by
  have h0 := crcR_xor xs ys hx hy hl R R
  rw [h, BitVec.xor_self, BitVec.xor_self] at h0
  rw [crcR_run] at h0
  have hb := run_burst _ (by rw [allBits_len]; simp; omega) h0
  apply List.ext_getElem hl
  intro i h1 h2
  refine bits8_zero (hx _ (List.getElem_mem h1)) (hy _ (List.getElem_mem h2)) fun b hbm => hb b ?_
  unfold allBits
  refine List.mem_flatMap.2 ⟨xorb xs[i] ys[i], ?_, hbm⟩
  refine List.mem_iff_getElem.2 ⟨i, by simp; omega, by simp⟩
theorem crc_burst (P T : List Int) {s s' : List Int} (hs : Bytes s) (hs' : Bytes s') (hl : s.length = s'.length) (h4 : s.length ≤ 4) (h : crc (P ++ (s ++ T)) = crc (P ++ (s' ++ T))) : s = s' := by
  have h1 : crcV (P ++ (s ++ T)) = crcV (P ++ (s' ++ T)) := by
    apply BitVec.eq_of_toNat_eq
    unfold crc at h
    omega
  unfold crcV at h1
  have h2 : crcR ones (P ++ (s ++ T)) = crcR ones (P ++ (s' ++ T)) := by
    have := congrArg (fun z => ~~~ z) h1
    simpa using this
  rw [crcR_append, crcR_append, crcR_append, crcR_append] at h2
  exact crcR_burst hs hs' hl h4 (crcR_inj T h2)
theorem le4_inj {v u : Int} (h0 : 0 ≤ v) (h1 : v < 4294967296) (h2 : 0 ≤ u) (h3 : u < 4294967296) (h : le4 v = le4 u) : v = u := by
  unfold le4 at h
  simp at h
  omega
theorem splice_inj {xs ys zs : List Int} {off : Nat} (h : off + ys.length ≤ xs.length) (he : ys.length = zs.length) (hh : splice xs off ys = splice xs off zs) : ys = zs := by
  unfold splice at hh
  have := List.append_cancel_left hh
  rw [he] at this
  exact List.append_cancel_right this
theorem splice_seg (xs : List Int) (off k : Nat) (h : off + k ≤ xs.length) : splice xs off ((xs.drop off).take k) = xs := by
  unfold splice
  have hl : ((xs.drop off).take k).length = k := by simp; omega
  rw [hl, ← List.drop_drop, List.take_append_drop, List.take_append_drop]
/-- Changed behind the twelfth: the first ones stay. -/
theorem splice_far (xs s : List Int) (fr : Nat) (h : 12 ≤ fr) (hf : fr + s.length ≤ xs.length) : (splice xs fr s).take 12 = xs.take 12 := by
  unfold splice
  rw [List.take_append_of_le_length (by simp; omega), List.take_take, Nat.min_eq_left h]
theorem splice_at {xs ys : List Int} {off : Nat} (h : off + ys.length ≤ xs.length) (i : Nat) : (splice xs off ys)[i]? = if i < off then xs[i]? else if i < off + ys.length then ys[i - off]? else xs[i]? := by
  unfold splice
  have h1 : (xs.take off).length = off := by simp; omega
  by_cases a : i < off
  · rw [if_pos a, List.getElem?_append_left (by omega), List.getElem?_take, if_pos a]
  · rw [if_neg a, List.getElem?_append_right (by omega), h1]
    by_cases b : i < off + ys.length
    · rw [if_pos b, List.getElem?_append_left (by omega)]
    · rw [if_neg b, List.getElem?_append_right (by omega), List.getElem?_drop]
      congr 1
      omega
theorem zeroed_splice (xs s : List Int) (fr : Nat) (h : 12 ≤ fr) (hf : fr + s.length ≤ xs.length) : zeroed (splice xs fr s) = splice (zeroed xs) fr s := by
  have hz : (zeroed xs).length = xs.length := splice_len (by simp; omega)
  have hl : (splice xs fr s).length = xs.length := splice_len hf
  apply List.ext_getElem?
  intro i
  unfold zeroed at *
  rw [splice_at (by simp; omega), splice_at hf, splice_at (by omega), splice_at (by simp; omega)]
  simp only [List.length_cons, List.length_nil]
  by_cases a : i < 8
  · rw [if_pos a, if_pos a, if_pos (show i < fr by omega)]
  · by_cases b : i < 8 + 4
    · rw [if_neg a, if_pos b, if_pos (show i < fr by omega), if_neg a, if_pos b]
    · rw [if_neg a, if_neg b, if_neg a, if_neg b]
theorem stamp_sum (xs : List Int) (h : 12 ≤ xs.length) : ((stamp xs).drop 8).take 4 = le4 (crc (zeroed xs)) := by
  unfold stamp splice
  have h1 : (xs.take 8).length = 8 := by simp; omega
  rw [List.drop_left' h1, List.take_left' (by simp [le4])]
theorem zeroed_stamp (xs : List Int) (h : 12 ≤ xs.length) : zeroed (stamp xs) = zeroed xs := by
  unfold zeroed stamp
  exact splice_twice (by simp [le4]; omega) (by simp [le4])
/-- Is it its own stamp? -/
theorem stamp_iff (c : List Int) (h : 12 ≤ c.length) : stamp c = c ↔ le4 (crc (zeroed c)) = (c.drop 8).take 4 := by
  constructor
  · intro e
    rw [← stamp_sum c h, e]
  · intro e
    unfold stamp
    rw [e]
    exact splice_seg c 8 4 (by omega)
/-- P2.3. -/
theorem turned_tells (xs s : List Int) (fr : Nat) (hx : Bytes xs) (hs : Bytes s) (h12 : 12 ≤ fr) (hf : fr + s.length ≤ xs.length) (h4 : s.length ≤ 4) :
    stamp (splice (stamp xs) fr s) = splice (stamp xs) fr s ↔ s = ((stamp xs).drop fr).take s.length := by
  have hlx : (stamp xs).length = xs.length := splice_len (by simp [le4]; omega)
  generalize hz : stamp xs = z at *
  have hzb : Bytes z := by
    rw [← hz]; exact bytes_splice hx (by
      have := (crc_range (zeroed xs)).1
      unfold le4
      exact Bytes.cons (by omega) (by omega) (Bytes.cons (by omega) (by omega) (Bytes.cons (by omega) (by omega) (Bytes.cons (by omega) (by omega) Bytes.nil)))) 8
  have hsl : ((z.drop fr).take s.length).length = s.length := by simp; omega
  have hself := splice_seg z fr s.length (by omega)
  constructor
  · intro e
    rw [stamp_iff _ (by rw [splice_len (by omega)]; omega)] at e
    have e1 : ((splice z fr s).drop 8).take 4 = (z.drop 8).take 4 := by
      have := splice_far z s fr h12 (by omega)
      have h2 := congrArg (fun l => l.drop 8) this
      simp only [List.drop_take] at h2
      exact h2
    rw [e1, ← hz, stamp_sum xs (by omega), hz] at e
    have e2 := le4_inj (crc_range _).1 (crc_range _).2 (crc_range _).1 (crc_range _).2 e
    rw [zeroed_splice z s fr h12 (by omega)] at e2
    have e3 : zeroed xs = splice (zeroed z) fr ((z.drop fr).take s.length) := by
      rw [← zeroed_splice z _ fr h12 (by omega), hself, ← hz, zeroed_stamp xs (by omega)]
    rw [e3] at e2
    unfold splice at e2
    rw [hsl] at e2
    exact crc_burst _ _ hs (hzb.sub fun y hy => List.mem_of_mem_drop (List.mem_of_mem_take hy)) hsl.symm h4 e2
  · intro e
    have : splice z fr s = z := by rw [e]; exact hself
    rw [this, stamp_iff _ (by omega), ← hz, zeroed_stamp xs (by omega), stamp_sum xs (by omega)]
end Go.Proofs.Yteepfkolibeekaa
