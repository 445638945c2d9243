/-
  WALKS of layer 2: the register (each, Crc and its closure; the reference's Crc).
-/
import Derived.Test.YteepfkolibeekaaProg
import Derived.Test.YteepfkolibeekaaU
import Derived.Test.YteepfkolibeekaaSumsA
set_option linter.unusedVariables false
set_option linter.unusedSimpArgs false
namespace Go.Proofs.Yteepfkolibeekaa
open Go.RowKit

set_option maxHeartbeats 400000 in
theorem crc1_calls (r bit : Int) (g : Nat) (w : World) (hb : Cell w g 24 (.int .u32 r)) :
    Calls Try.prog 23 #[.int .u32 bit, .pointer (some ⟨g, 0, none⟩)] w fun e w' => e = .returned (.tuple #[]) ∧ Cell w' g 24 (.int .u32 (crcBit r bit)) ∧ w.grownBy w' (some g) := by
  have hc := hb.cell
  have hf := hb.free
  go_enter Try.func23, Try.ntmps23
  go_wp2
  go_end0
  exact ⟨rfl, hb.set _, grown_set _ _ _ _⟩

set_option maxHeartbeats 1000000 in
theorem each_calls (g c : Nat) (A : Option Addr) (xs : List Int) (w : World) (hR : Rd w .u8 A xs) (hx : Bytes xs) (hne : ∀ j, j < xs.length → ∀ b o, A = some ⟨b, o, none⟩ → some b ≠ some g) (R : BitVec 32) (hb : Cell w g 24 (.int .u32 (R.toNat : Int))) :
    Calls Try.prog 22 #[.slice A xs.length c, .func (.func 23) #[] #[.pointer (some ⟨g, 0, none⟩)]] w fun e w' => e = .returned (.tuple #[]) ∧ Cell w' g 24 (.int .u32 ((crcR R xs).toNat : Int)) ∧ w.grownBy w' (some g) := by
  have hn := hR.len
  have hend := crcR_all R xs xs.length (Nat.le_refl _)
  have HE := hid hend; clear hend
  have HR := hid hR; clear hR
  have HX := hid hx; clear hx
  have HN := hid hne; clear hne
  have HS : Hid (∀ j, j < xs.length → crcR R (xs.take (j + 1)) = bvBits (xs.getD j 0) 8 (crcR R (xs.take j))) := crcR_take R xs
  generalize hl : xs.length = n at *
  have HL := hid hl; clear hl
  go_enter Try.func22, Try.ntmps22
  go_wp2
  go_loopw [5, 6, 9, 13] (fun _ _ k _ wr => ∃ j : Nat, j ≤ n ∧ k = .int .i64 j ∧ Cell wr g 24 (.int .u32 ((crcR R (xs.take j)).toNat : Int)) ∧ w.grownBy wr (some g)) (fun _ _ k _ _ => n - (intOf k).toNat)
  case atStart => exact ⟨0, Nat.zero_le _, rfl, hb, World.grownBy.refl _ _⟩
  case round =>
    obtain ⟨j, hj, rfl, hb1, hg1⟩ := hrel
    by_cases hlt : j < n
    · obtain ⟨b, o, rfl, hbl⟩ := HR.out.form j (by rw [HL.out]; exact hlt)
      have hcj : wr.cell? ⟨b, o + j, none⟩ = some (.int .u8 (xs.getD j 0)) := hg1.cell (HR.out.cell j (by rw [HL.out]; exact hlt)) (HN.out j hlt b o rfl)
      have hxj := HX.out.at_ j
      have hst := HS.out j hlt
      generalize xs.getD j 0 = x at *
      generalize crcR R (xs.take j) = R0 at *
      have HST := hid hst; clear hst
      go_wp2
      obtain ⟨wo, rfl⟩ : ∃ wo : World, wo = wr := ⟨_, rfl⟩
      go_loopw [6, 13] (fun _ q wr => ∃ t : Nat, t ≤ 8 ∧ q = .int .i64 t ∧ Cell wr g 24 (.int .u32 ((bvBits x t R0).toNat : Int)) ∧ w.grownBy wr (some g)) (fun _ q _ => 8 - (intOf q).toNat)
      case atStart => exact ⟨0, Nat.zero_le _, rfl, hb1, hg1⟩
      case round =>
        obtain ⟨t, ht, rfl, hb2, hg2⟩ := hrel
        by_cases ht8 : t < 8
        · go_wp2_with fail
          refine (crc1_calls _ _ g _ hb2).mono ?_
          rintro e w1 ⟨rfl, hb3, hg3⟩
          have hb4 : Cell w1 g 24 (.int .u32 ((bvBits x (t + 1) R0).toNat : Int)) := by
            have := crcBit_at (bvBits x t R0) x t hxj.1 hxj.2
            rw [bitAt] at this
            rw [this] at hb3
            exact hb3
          clear hb3
          go_wp2
          go_roundw
          case rel => exact ⟨t + 1, by omega, by go_num, hb4, grown_trans hg2 hg3⟩
          case measure => simp [intOf]; omega
        · have : t = 8 := by omega
          subst this
          rw [← HST.out] at hb2
          go_wp2
          go_roundw
          case rel => exact ⟨j + 1, by omega, by go_num, hb2, hg2⟩
          case measure => simp [intOf]; omega
    · go_wp2
      have : j = n := by omega
      subst this
      rw [HE.out] at hb1
      go_end0
      exact ⟨rfl, hb1, hg1⟩

theorem crc_end (xs : List Int) : ∀ v : Int, v = ((crcR ones xs).toNat : Int) → bits .xor .u32 IntKind.u32.max v = crc xs := by
  intro v h
  have e : IntKind.u32.max = ((BitVec.allOnes 32).toNat : Int) := rfl
  rw [h, e, bits_xor_bv, BitVec.allOnes_xor]; rfl
set_option maxHeartbeats 400000 in
theorem crc_calls (c : Nat) (A : Option Addr) (xs : List Int) (w : World) (hR : Rd w .u8 A xs) (hx : Bytes xs) :
    Calls Try.prog 13 #[.slice A xs.length c] w fun e w' => e = .returned (.int .u32 (crc xs)) ∧ Below w.heap.size w w' := by
  have HR := hid hR; clear hR
  have HX := hid hx; clear hx
  go_enter Try.func13, Try.ntmps13
  go_wp2_with fail
  have hb0 : Below w.heap.size w (w.alloc (Obj.cells #[Value.int IntKind.u32 4294967295] 24)) := (Below.refl _ _).alloc (Nat.le_refl _) _
  refine (each_calls w.heap.size c A xs _ (HR.out.below hb0) HX.out (fun j hj b o e => ?_) ones (Cell.new w 24 (.int .u32 4294967295))).mono ?_
  · obtain ⟨b', o', e', hl⟩ := HR.out.form j hj
    rw [e'] at e
    injection e with e; injection e with e1 e2
    intro he
    injection he with he
    omega
  rintro e w1 ⟨rfl, hb1, hg1⟩
  have hc1 := hb1.cell
  go_wp2
  go_ret
  exact ⟨ret_int (crc_end xs _ rfl), hb0.grown hg1 (by simp) (fun k hk => by simp at hk; omega)⟩
end Go.Proofs.Yteepfkolibeekaa
