/-
  WALKS of layer 2: the reference's register.
-/
import Derived.Test.YteepfkolibeekaaSumsB
import Derived.Deep.QuietTactic
import Derived.BigQuiet
set_option linter.unusedVariables false
set_option linter.unusedSimpArgs false
namespace Go.Proofs.Yteepfkolibeekaa
open Go.RowKit

set_option maxHeartbeats 2000000 in
theorem refcrc_calls (c : Nat) (A : Option Addr) (xs : List Int) (w : World) (hR : Rd w .u8 A xs) (hx : Bytes xs) :
    Calls Try.prog 14 #[.slice A xs.length c] w fun e w' => e = .returned (.int .u32 (crc xs)) ∧ Below w.heap.size w w' := by
  have hn := hR.len
  have HE := hid (crcR_all ones xs xs.length (Nat.le_refl _))
  have HR := hid hR; clear hR
  have HX := hid hx; clear hx
  have HS : Hid (∀ j, j < xs.length → crcR ones (xs.take (j + 1)) = bvBits (xs.getD j 0) 8 (crcR ones (xs.take j))) := crcR_take _ xs
  generalize hl : xs.length = n at *
  have HL := hid hl; clear hl
  go_enter Try.func14, Try.ntmps14
  go_wp2
  go_loopw [3, 4, 5, 6, 7] (fun r k _ _ _ wr => ∃ j : Nat, j ≤ n ∧ k = .int .i64 j ∧ r = .int .u32 ((crcR ones (xs.take j)).toNat : Int) ∧ ∃ m, wr = w.drewN m) (fun _ k _ _ _ _ => n - (intOf k).toNat)
  case atStart => exact ⟨0, Nat.zero_le _, rfl, rfl, 0, rfl⟩
  case round =>
    obtain ⟨j, hj, rfl, rfl, m, rfl⟩ := hrel
    by_cases hlt : j < n
    · obtain ⟨b, o, rfl, hbl⟩ := HR.out.form j (by rw [HL.out]; exact hlt)
      have hcj : w.cell? ⟨b, o + j, none⟩ = some (.int .u8 (xs.getD j 0)) := HR.out.cell j (by rw [HL.out]; exact hlt)
      have hxj := HX.out.at_ j
      have hst := HS.out j hlt
      generalize xs.getD j 0 = x at *
      generalize crcR ones (xs.take j) = R0 at *
      have HST := hid hst; clear hst
      go_wp2
      go_loopw [3, 5, 6, 7] (fun r q _ _ wr => ∃ t : Nat, t ≤ 8 ∧ q = .int .i64 t ∧ r = .int .u32 ((bvBits x t R0).toNat : Int) ∧ ∃ m, wr = w.drewN m) (fun _ q _ _ _ => 8 - (intOf q).toNat)
      case atStart => exact ⟨0, Nat.zero_le _, rfl, rfl, m, rfl⟩
      case round =>
        obtain ⟨t, ht, rfl, rfl, m2, rfl⟩ := hrel
        by_cases ht8 : t < 8
        · have hj1 : (j : Int) < (n : Int) := by omega
          have hj0 : (0 : Int) ≤ (j : Int) := by omega
          go_wp2
          have hp0 : 0 < (2 : Int) ^ t % 4294967296 := by
            rcases (show t = 0 ∨ t = 1 ∨ t = 2 ∨ t = 3 ∨ t = 4 ∨ t = 5 ∨ t = 6 ∨ t = 7 from by omega) with h | h | h | h | h | h | h | h <;> subst h <;> decide
          have hq : ((2 : Int) ^ t % 4294967296 == 0) = false := beq_eq_false_iff_ne.2 (by omega)
          obtain ⟨hx0, hx1⟩ := hxj
          have hd0 : 0 ≤ x / ((2 : Int) ^ t % 4294967296) := Int.ediv_nonneg hx0 (by omega)
          have HY := hid (refBit_yes (bvBits x t R0) x t hx0 hx1 ht8)
          have HO := hid (refBit_no (bvBits x t R0) x t hx0 hx1 ht8)
          go_quiet (fail)
          go_wp2_with fail
          · go_roundw
            case rel => exact ⟨t + 1, by omega, by go_num, by rw [HY.out (by assumption)]; rfl, _, rfl⟩
            case measure => simp [intOf]; omega
          · go_roundw
            case rel => exact ⟨t + 1, by omega, by go_num, by rw [HO.out (by assumption)]; rfl, _, rfl⟩
            case measure => simp [intOf]; omega
        · have : t = 8 := by omega
          subst this
          rw [← HST.out]
          go_wp2
          go_roundw
          case rel => exact ⟨j + 1, by omega, by go_num, rfl, _, rfl⟩
          case measure => simp [intOf]; omega
    · go_wp2
      have : j = n := by omega
      subst this
      go_ret
      exact ⟨ret_int (by rw [HE.out, sub_bv]; rfl), below_drewN (Below.refl _ _) _⟩
end Go.Proofs.Yteepfkolibeekaa
