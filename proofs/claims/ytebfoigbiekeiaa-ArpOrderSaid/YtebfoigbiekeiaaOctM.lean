/-
  WALKS of package octet: room, Num.
-/
import Derived.Test.YtebfoigbiekeiaaOctA
import Derived.Test.YtebfoigbiekeiaaApp2
import Derived.Test.YtebfoigbiekeiaaProg
import Derived.LoopTactic
set_option linter.unusedVariables false
set_option linter.unusedSimpArgs false
namespace Go.Proofs.Ytebfoigbiekeiaa
open Go.RowKit

theorem oroom_calls (c la : Nat) (A : Option Addr) (at_ n : Int) (w : World) (h0 : 0 ≤ at_) (hn : 0 ≤ n) (h : at_ + n ≤ (la : Int)) (hl : la ≤ 140737488355328) :
    Calls Try.prog 55 #[.slice A la c, .int .i64 at_, .int .i64 n] w fun e w' => e = .returned (.int .i64 0) ∧ w = w' := by
  have h1 : ¬ at_ < 0 := by omega
  have h2 : ¬ (la : Int) < at_ := by omega
  have h3 : ¬ n < 0 := by omega
  have h4 : ¬ (la : Int) - at_ < n := by omega
  go_enter Try.func55, Try.ntmps55
  go_wp2
  go_ret
  exact ⟨rfl, rfl⟩

/-- A number out of bytes, the highest first. -/
def numI (xs : List Int) : Int := xs.foldl (fun v x => v * 256 + x) 0
theorem numI_snoc (xs : List Int) (x : Int) : numI (xs ++ [x]) = numI xs * 256 + x := by simp [numI]
theorem numI_range : ∀ (n : Nat) (xs : List Int), xs.length = n → Bytes xs → 0 ≤ numI xs ∧ numI xs < 256 ^ n := by
  intro n
  induction n with
  | zero =>
    intro xs h _
    have : xs = [] := List.length_eq_zero_iff.1 h
    subst this; simp [numI]
  | succ n ih =>
    intro xs h hb
    obtain ⟨ys, y, rfl⟩ : ∃ ys y, xs = ys ++ [y] := ⟨xs.dropLast, xs.getLast (by intro e; simp [e] at h), (List.dropLast_concat_getLast _).symm⟩
    have hy := hb y (by simp)
    have := ih ys (by simp at h; omega) (hb.sub fun z hz => by simp [hz])
    rw [numI_snoc, Int.pow_succ]
    omega
theorem or_byte (v x : Int) (h0 : 0 ≤ v) (h1 : v < 72057594037927936) (x0 : 0 ≤ x) (x1 : x < 256) : bits .or .u64 (v * 256) x = v * 256 + x := by
  obtain ⟨a, rfl⟩ := Int.eq_ofNat_of_zero_le h0
  obtain ⟨b, rfl⟩ := Int.eq_ofNat_of_zero_le x0
  have hb : b < 2 ^ 8 := by omega
  have e1 : ((a : Int) * 256) = ((2 ^ 8 * a : Nat) : Int) := by omega
  have e2 : ((2 ^ 8 * a : Nat) : Int) + (b : Int) = ((2 ^ 8 * a + b : Nat) : Int) := by omega
  rw [e1, e2]
  have hlt : 2 ^ 8 * a + b < 18446744073709551616 := by omega
  rw [Nat.two_pow_add_eq_or_of_lt hb a] at hlt ⊢
  show IntKind.u64.wrap ((BitVec.ofInt 64 _ ||| BitVec.ofInt 64 _).toNat : Int) = _
  rw [BitVec.ofInt_natCast, BitVec.ofInt_natCast, BitVec.toNat_or, BitVec.toNat_ofNat, BitVec.toNat_ofNat, Nat.mod_eq_of_lt (by omega), Nat.mod_eq_of_lt (by omega), IntKind.wrap_u64]
  omega

set_option maxRecDepth 100000 in
theorem num_calls (c la at_ n : Nat) (A : Option Addr) (xs : List Int) (hla : xs.length = la) (w : World) (hR : Rd w .u8 A xs) (hb : Bytes xs) (h1 : 1 ≤ n) (h8 : n ≤ 8) (h : at_ + n ≤ la) (hc : la ≤ c) (hl : c ≤ 9223372036854775807) :
    Calls Try.prog 42 #[.slice A la c, .int .i64 at_, .int .i64 n] w fun e w' => e = .returned (.tuple #[.int .u64 (numI ((xs.drop at_).take n)), .int .i64 0]) ∧ w = w' := by
  obtain ⟨b, o, rfl, hlt⟩ := hR.form at_ (by omega)
  have HC : Hid (∀ j, j < n → w.cell? ⟨b, o + at_ + j, none⟩ = some (.int .u8 (((xs.drop at_).take n).getD j 0))) := fun j hj => by
    have := hR.cell (at_ + j) (by omega)
    rw [← Nat.add_assoc] at this
    rw [this]
    simp [List.getD_eq_getElem?_getD, hj]
  have HL : Hid (((xs.drop at_).take n).length = n) := by show _ = _; simp; omega
  have HB : Hid (Bytes ((xs.drop at_).take n)) := hid (hb.sub fun z hz => List.mem_of_mem_drop (List.mem_of_mem_take hz))
  have hla' : la ≤ 140737488355328 := by have := hR.len; omega
  clear hR hb hla
  generalize (xs.drop at_).take n = ys at *
  have ha0 : (0 : Int) ≤ (at_ : Int) := by omega
  have hn1 : (1 : Int) ≤ (n : Int) := by omega
  have hn8 : (n : Int) ≤ 8 := by omega
  have hs1 : (at_ : Int) ≤ (at_ : Int) + (n : Int) := by omega
  have hs2 : (at_ : Int) + (n : Int) ≤ (c : Int) := by omega
  go_enter Try.func42, Try.ntmps42
  go_wp2_with (first | (go_at_call 54; refine Calls.mono (wide_calls _ _) ?_; rintro e w' ⟨rfl, rfl⟩) | (go_at_call 55; refine Calls.mono (oroom_calls _ _ _ _ _ _ (by omega) (by omega) (by omega) (by omega)) ?_; rintro e w' ⟨rfl, rfl⟩))
  go_loop [9, 11, 29] (fun v _ i => ∃ k : Nat, k ≤ n ∧ i = .int .i64 k ∧ v = .int .u64 (numI (ys.take k))) (fun _ _ i => n - (intOf i).toNat)
  case atStart => exact ⟨0, Nat.zero_le _, rfl, rfl⟩
  case round =>
    obtain ⟨k, hk, rfl, rfl⟩ := hrel
    by_cases hlt : k < n
    · have hr := numI_range k (ys.take k) (by simp [HL.out]; omega) (HB.out.sub fun z hz => List.mem_of_mem_take hz)
      have hp : ((256 ^ k : Nat) : Int) ≤ ((256 ^ 7 : Nat) : Int) := Int.ofNat_le.2 (Nat.pow_le_pow_right (by decide) (by omega))
      rw [Int.natCast_pow, show ((256 ^ 7 : Nat) : Int) = 72057594037927936 by decide] at hp
      have r0 := hr.1
      have r1 : numI (ys.take k) < 72057594037927936 := Int.lt_of_lt_of_le hr.2 hp
      clear hr hp
      have hx := HB.out.at_ k
      have x0 := hx.1
      have x1 := hx.2
      have cx := HC.out k hlt
      have HS : Hid (numI (ys.take (k + 1)) = numI (ys.take k) * 256 + ys.getD k 0) := by
        show _ = _
        rw [List.take_succ_eq_append_getElem (by rw [HL.out]; exact hlt), numI_snoc]
        simp [List.getD_eq_getElem?_getD, HL.out, hlt]
      have HO := hid (or_byte _ _ r0 r1 x0 x1)
      generalize numI (ys.take k) = v at *
      generalize ys.getD k 0 = x at *
      have hk0 : (0 : Int) ≤ (k : Int) := by omega
      have hk1 : (k : Int) < (n : Int) := by omega
      go_wp2
      go_round
      case rel => exact ⟨k + 1, by omega, by go_num, by rw [HS.out, ← HO.out]⟩
      case measure => simp [intOf]; omega
    · obtain rfl : k = n := by omega
      go_wp2
      go_ret2
      rw [List.take_of_length_le (Nat.le_of_eq HL.out)]
      exact ⟨rfl, rfl⟩
end Go.Proofs.Ytebfoigbiekeiaa
