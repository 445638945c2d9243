/-
  THE REFERENCE OF LAYERS 1 AND 6, WALKS: Num, number.
-/
import Derived.Test.YtaieajfgcnaedaaDoorRefA
set_option linter.unusedVariables false
set_option linter.unusedSimpArgs false
namespace Go.Proofs.YtaieajfgcnaedaaDoor
open Go.RowKit

set_option maxHeartbeats 3200000 in
set_option maxRecDepth 100000 in
theorem rnum_calls (c la at_ n : Nat) (A : Option Addr) (xs : List Int) (hla : xs.length = la) (w : World) (hR : Rd w .u8 A xs) (hb : Bytes xs) (h1 : 1 ≤ n) (h8 : n ≤ 8) (h : at_ + n ≤ la) :
    Calls Tryd.prog 58 #[.slice A la c, .int .i64 at_, .int .i64 n] w fun e w' => e = .returned (.tuple #[.int .u64 (numI ((xs.drop at_).take n)), .int .i64 0]) ∧ w = w' := by
  obtain ⟨b, o, rfl, hlt⟩ := hR.form at_ (by omega)
  have HC : Hid (∀ j, j < n → w.cell? ⟨b, o + (at_ + j), none⟩ = some (.int .u8 (((xs.drop at_).take n).getD j 0))) := fun j hj => by
    have := hR.cell (at_ + j) (by omega)
    rw [this]
    simp [List.getD_eq_getElem?_getD, hj]
  have HL : Hid (((xs.drop at_).take n).length = n) := by show _ = _; simp; omega
  have HB : Hid (Bytes ((xs.drop at_).take n)) := hid (hb.sub fun z hz => List.mem_of_mem_drop (List.mem_of_mem_take hz))
  have hla' : la ≤ 140737488355328 := by have := hR.len; omega
  clear hR hb hla
  generalize (xs.drop at_).take n = ys at *
  have ha0 : (0 : Int) ≤ (at_ : Int) := by omega
  have ha1 : (at_ : Int) ≤ (la : Int) := by omega
  have hn1 : (1 : Int) ≤ (n : Int) := by omega
  have hn8 : (n : Int) ≤ 8 := by omega
  have hs1 : (n : Int) ≤ (la : Int) - (at_ : Int) := by omega
  go_enter Tryd.func58, Tryd.ntmps58
  go_wp2_with fail
  go_loop [8, 9] (fun v i => ∃ k : Nat, k ≤ n ∧ i = .int .i64 k ∧ v = .int .u64 (numI (ys.take k))) (fun _ i => n - (intOf i).toNat)
  case atStart => exact ⟨0, Nat.zero_le _, rfl, rfl⟩
  case round =>
    obtain ⟨k, hk, rfl, rfl⟩ := hrel
    by_cases hlt : k < n
    · have hr := numI_range k (ys.take k) (by simp [HL.out]; omega) (HB.out.sub fun z hz => List.mem_of_mem_take hz)
      have hp : ((256 ^ k : Nat) : Int) ≤ ((256 ^ 7 : Nat) : Int) := Int.ofNat_le.2 (Nat.pow_le_pow_right (by decide) (by omega))
      rw [Int.natCast_pow, show ((256 ^ 7 : Nat) : Int) = 72057594037927936 by decide] at hp
      have r0 := hr.1
      have r1 : numI (ys.take k) < 72057594037927936 := Int.lt_of_lt_of_le hr.2 hp
      clear hr hp
      have hx := HB.out.at_ k
      have x0 := hx.1
      have x1 := hx.2
      have cx := HC.out k hlt
      have HSS : Hid (numI (ys.take (k + 1)) = numI (ys.take k) * 256 + ys.getD k 0) := by
        show _ = _
        rw [List.take_succ_eq_append_getElem (by rw [HL.out]; exact hlt), numI_snoc]
        simp [List.getD_eq_getElem?_getD, HL.out, hlt]
      generalize numI (ys.take k) = v at *
      generalize ys.getD k 0 = x at *
      have hk0 : (0 : Int) ≤ (k : Int) := by omega
      have hk1 : (k : Int) < (n : Int) := by omega
      have hi0 : (0 : Int) ≤ (at_ : Int) + (k : Int) := by omega
      have hi1 : (at_ : Int) + (k : Int) < (la : Int) := by omega
      have u1 : IntKind.u64.wrap (v * 256) = v * 256 := u64_in _ (by omega)
      have u2 : IntKind.u64.wrap (v * 256 + x) = v * 256 + x := u64_in _ (by omega)
      have u3 : IntKind.u64.wrap x = x := u64_in _ (by omega)
      go_wp2_with fail
      go_round
      case rel => exact ⟨k + 1, by omega, by go_num, by rw [HSS.out]⟩
      case measure => simp [intOf]; omega
    · obtain rfl : k = n := by omega
      go_wp2
      go_ret2
      rw [List.take_of_length_le (Nat.le_of_eq HL.out)]
      exact ⟨rfl, rfl⟩
set_option maxHeartbeats 1600000 in
theorem number_calls (c at_ n : Nat) (A : Option Addr) (xs : List Int) (hla : xs.length = 84) (w : World) (hR : Rd w .u8 A xs) (hb : Bytes xs) (h1 : 1 ≤ n) (h8 : n ≤ 8) (h : at_ + n ≤ 84) :
    Calls Tryd.prog 56 #[.slice A 84 c, .int .i64 at_, .int .i64 n] w fun e w' => e = .returned (.int .u64 (numAt xs at_ n)) ∧ w = w' := by
  have HR := hid hR; have HB := hid hb; have HL := hid hla
  clear hR hb hla
  go_enter Tryd.func56, Tryd.ntmps56
  go_wp2_with (go_at_call 58; refine hold ?_)
  refine hid ?_
  refine Calls.mono (rnum_calls c 84 at_ n A xs HL.out w HR.out HB.out h1 h8 h) ?_
  rintro e w' ⟨rfl, rfl⟩
  go_wp2
  go_ret
  exact ⟨rfl, rfl⟩
end Go.Proofs.YtaieajfgcnaedaaDoor
