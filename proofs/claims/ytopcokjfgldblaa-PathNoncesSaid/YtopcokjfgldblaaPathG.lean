/-
  LAYER 15, WALKS: the deeds of the reference's Path, one contract each (Sample).
-/
import Derived.Test.YtopcokjfgldblaaPathA
import Derived.Test.YtopcokjfgldblaaProg
import Derived.Deep.QuietTactic
import Derived.BigQuiet
import Derived.BigRegion
import Derived.IntWalk
import Derived.LoopTactic
import Derived.StillTailTactics
import Derived.Deep.CutRange
import Derived.Test.YtopcokjfgldblaaPathF
set_option linter.unusedVariables false
set_option linter.unusedSimpArgs false
namespace Go.Proofs.Ytopcokjfgldblaa
open Go.RowKit

set_option maxHeartbeats 4000000 in
theorem rsamp_calls (g : Nat) (p : PR) (w : World) (n : Int) (ok : p.Ok n) (h : IsP w g 61 p) (ticks : Int) (t0 : 0 ≤ ticks) (t1 : ticks ≤ 1099511627776) :
    Calls Try.prog 29 #[.pointer (some ⟨g, 0, none⟩), .int .i64 ticks] w fun e w' => e = .returned (.int .i64 0) ∧ IsP w' g 61 (sampP ticks p) ∧ w.grownBy w' (some g) := by
  obtain ⟨h1, h2, h3, h4, h5, h6, h7, h8, h9, h10, h11, h12, h13, h14, h15, h16, h17, h18, h19, h20, h21, h22⟩ := ok
  obtain ⟨win, slow, part, rto, mean, spread, faults, up, sure, mtu, meas, beat, nonce0, since⟩ := p
  simp only at h11 h12 h13 h14
  clear h1 h2 h3 h4 h5 h6 h7 h8 h9 h10 h15 h16 h17 h18 h19 h20 h21 h22
  obtain ⟨c0, c1, c2, c3, c4, c5, c6, c7, c8, c9, c10, c11, c12, c13, hf⟩ := h.facts
  have H := hid h; clear h
  rcases Int.lt_or_le 600 ticks with hq | hq
  · cases meas
    · obtain ⟨M, HM, m0, m1⟩ : ∃ M : Int, Hid (M = 4800) ∧ 0 ≤ M ∧ M ≤ 4800 := ⟨_, hid rfl, by omega, by omega⟩
      obtain ⟨S, HS, s0, s1⟩ : ∃ S : Int, Hid (S = 1200) ∧ 0 ≤ S ∧ S ≤ 2403 := ⟨_, hid rfl, by omega, by omega⟩
      have HSP := hid (samp_f (ticks := ticks) (M := M) (S := S) (p := ⟨win, slow, part, rto, mean, spread, faults, up, sure, mtu, false, beat, nonce0, since⟩) rfl (by rw [HM.out]; omega) (by rw [HS.out]; omega))
      go_enter Try.func29, Try.ntmps29
      go_upto_region 16 with fail
      have g3 : (((w.setCell ⟨g, 10, none⟩ (.bool true)).setCell ⟨g, 4, none⟩ (.int .i64 (4800))).setCell ⟨g, 5, none⟩ (.int .i64 (1200))).cell? ⟨g, 3, none⟩ = some (.int .i64 rto) := cellOf (hs (hs (hs H.out))) rfl
      have g4 : (((w.setCell ⟨g, 10, none⟩ (.bool true)).setCell ⟨g, 4, none⟩ (.int .i64 (4800))).setCell ⟨g, 5, none⟩ (.int .i64 (1200))).cell? ⟨g, 4, none⟩ = some (.int .i64 M) := by rw [HM.out]; exact cellOf (hs (hs (hs H.out))) rfl
      have g5 : (((w.setCell ⟨g, 10, none⟩ (.bool true)).setCell ⟨g, 4, none⟩ (.int .i64 (4800))).setCell ⟨g, 5, none⟩ (.int .i64 (1200))).cell? ⟨g, 5, none⟩ = some (.int .i64 S) := by rw [HS.out]; exact cellOf (hs (hs (hs H.out))) rfl
      have gf : ∀ i, (((w.setCell ⟨g, 10, none⟩ (.bool true)).setCell ⟨g, 4, none⟩ (.int .i64 (4800))).setCell ⟨g, 5, none⟩ (.int .i64 (1200))).frozen? ⟨g, i, none⟩ = false := fun i => frozen_of_row _ g i _ _ (hs (hs (hs H.out)))
      have GH : Hid ((((w.setCell ⟨g, 10, none⟩ (.bool true)).setCell ⟨g, 4, none⟩ (.int .i64 (4800))).setCell ⟨g, 5, none⟩ (.int .i64 (1200))).heap[g]? = _) := hid (hs (hs (hs H.out)))
      have GG : Hid (w.grownBy (((w.setCell ⟨g, 10, none⟩ (.bool true)).setCell ⟨g, 4, none⟩ (.int .i64 (4800))).setCell ⟨g, 5, none⟩ (.int .i64 (1200))) (some g)) := by (show World.grownBy _ _ _); repeat (first | exact World.grownBy.refl _ _ | exact GG.out | exact FG.out | refine gs ?_ | refine grown_drew ?_ | refine grown_drewN ?_ _)
      generalize (((w.setCell ⟨g, 10, none⟩ (.bool true)).setCell ⟨g, 4, none⟩ (.int .i64 (4800))).setCell ⟨g, 5, none⟩ (.int .i64 (1200))) = W2 at *
      have m2 : M ≤ 4611686018427387904 := by omega
      refine wp_region_still_tail 16 (by kernel_rfl) (by kernel_rfl) ?_
      simp only [List.take_succ_cons, List.take_zero, List.drop_succ_cons, List.drop_zero]
      change wpStill _ _ W2.drew _ _ _
      repeat still_step
      still_call ((down_calls _ _ _ m0 m2 (.inr rfl)).mono fun e w' h => ⟨h.1, h.2.symm⟩)
      repeat still_step
      refine wpStill_nil ?_
      go_wp2
      all_goals
        go_ret
        refine ⟨rfl, ?_, ?_⟩
        · apply IsP.of
          · repeat (first | exact GH.out | apply hs)
          · rw [HSP.out]; simp [PR.cells] <;> (have k3 := HM.out; have k4 := HS.out; omega)
        · repeat (first | exact World.grownBy.refl _ _ | exact GG.out | exact FG.out | refine gs ?_ | refine grown_drew ?_ | refine grown_drewN ?_ _)
    · obtain ⟨M, HM, m0, m1⟩ : ∃ M : Int, Hid (M = mean + (600 - mean / 8)) ∧ 0 ≤ M ∧ M ≤ 4800 := ⟨_, hid rfl, by omega, by omega⟩
      obtain ⟨A, HA, a0, a1⟩ : ∃ A : Int, Hid (A = max (600 - mean / 8) (-(600 - mean / 8))) ∧ 0 ≤ A ∧ A ≤ 600 := ⟨_, hid rfl, by omega, by omega⟩
      obtain ⟨S, HS, s0, s1⟩ : ∃ S : Int, Hid (S = spread + A - spread / 4) ∧ 0 ≤ S ∧ S ≤ 2403 := ⟨_, hid rfl, by omega, by omega⟩
      have hmt : min ticks 600 = 600 := by omega
      have HSP := hid (samp_t (ticks := ticks) (M := M) (S := S) (p := ⟨win, slow, part, rto, mean, spread, faults, up, sure, mtu, true, beat, nonce0, since⟩) rfl (by rw [hmt]; exact HM.out) (by rw [hmt, HS.out, HA.out]; show _ + _ - _ = _ + (_ - _); rw [Int.add_sub_assoc]))
      clear hmt
      rcases Int.lt_or_le (600 - mean / 8) 0 with hD | hD
      · exfalso; omega
      · go_enter Try.func29, Try.ntmps29
        go_upto_region 15 with (go_at_call 37; refine Calls.mono (down_calls _ _ _ (by omega) (by omega) (by omega)) ?_; rintro e w' ⟨rfl, rfl⟩)
        have f4 : (w.setCell ⟨g, 4, none⟩ (.int .i64 (mean + (600 - mean / 8)))).cell? ⟨g, 4, none⟩ = some (.int .i64 M) := by rw [HM.out]; exact cellOf (hs H.out) rfl
        have f5 : (w.setCell ⟨g, 4, none⟩ (.int .i64 (mean + (600 - mean / 8)))).cell? ⟨g, 5, none⟩ = some (.int .i64 spread) := cellOf (hs H.out) rfl
        have ff : ∀ i, (w.setCell ⟨g, 4, none⟩ (.int .i64 (mean + (600 - mean / 8)))).frozen? ⟨g, i, none⟩ = false := fun i => frozen_of_row _ g i _ _ (hs H.out)
        have FH : Hid ((w.setCell ⟨g, 4, none⟩ (.int .i64 (mean + (600 - mean / 8)))).heap[g]? = _) := hid (hs H.out)
        have FG : Hid (w.grownBy (w.setCell ⟨g, 4, none⟩ (.int .i64 (mean + (600 - mean / 8)))) (some g)) := hid (gs (World.grownBy.refl w (some g)))
        generalize (w.setCell ⟨g, 4, none⟩ (.int .i64 (mean + (600 - mean / 8)))) = W at *
        clear c0 c1 c2 c3 c4 c5 c6 c7 c8 c9 c10 c11 c12 c13 hf
        have hA : 600 - mean / 8 = A := by have := HA.out; omega
        generalize hD1 : 600 - mean / 8 = A' at *
        have HD := hid hD1; clear hD1
        subst hA
        have sp2 : spread ≤ 4611686018427387904 := by omega
        refine wp_region_still_tail 18 (by kernel_rfl) (by kernel_rfl) ?_
        simp only [List.take_succ_cons, List.take_zero, List.drop_succ_cons, List.drop_zero]
        change wpStill _ _ W.drew _ _ _
        repeat still_step
        still_call ((down_calls _ _ _ h13 sp2 (.inl rfl)).mono fun e w' h => ⟨h.1, h.2.symm⟩)
        repeat still_step
        refine wpStill_nil ?_
        go_upto_region 16 with fail
        have g3 : ((W.setCell ⟨g, 5, none⟩ (.int .i64 (spread + A' - spread / 4))).drew).cell? ⟨g, 3, none⟩ = some (.int .i64 rto) := cellOf (hs FH.out) rfl
        have g4 : ((W.setCell ⟨g, 5, none⟩ (.int .i64 (spread + A' - spread / 4))).drew).cell? ⟨g, 4, none⟩ = some (.int .i64 M) := by rw [HM.out]; exact cellOf (hs FH.out) rfl
        have g5 : ((W.setCell ⟨g, 5, none⟩ (.int .i64 (spread + A' - spread / 4))).drew).cell? ⟨g, 5, none⟩ = some (.int .i64 S) := by rw [HS.out]; exact cellOf (hs FH.out) rfl
        have gf : ∀ i, ((W.setCell ⟨g, 5, none⟩ (.int .i64 (spread + A' - spread / 4))).drew).frozen? ⟨g, i, none⟩ = false := fun i => frozen_of_row _ g i _ _ (hs FH.out)
        have GH : Hid (((W.setCell ⟨g, 5, none⟩ (.int .i64 (spread + A' - spread / 4))).drew).heap[g]? = _) := hid (hs FH.out)
        have GG : Hid (w.grownBy ((W.setCell ⟨g, 5, none⟩ (.int .i64 (spread + A' - spread / 4))).drew) (some g)) := by (show World.grownBy _ _ _); repeat (first | exact World.grownBy.refl _ _ | exact GG.out | exact FG.out | refine gs ?_ | refine grown_drew ?_ | refine grown_drewN ?_ _)
        generalize ((W.setCell ⟨g, 5, none⟩ (.int .i64 (spread + A' - spread / 4))).drew) = W2 at *
        have m2 : M ≤ 4611686018427387904 := by omega
        refine wp_region_still_tail 16 (by kernel_rfl) (by kernel_rfl) ?_
        simp only [List.take_succ_cons, List.take_zero, List.drop_succ_cons, List.drop_zero]
        change wpStill _ _ W2.drew _ _ _
        repeat still_step
        still_call ((down_calls _ _ _ m0 m2 (.inr rfl)).mono fun e w' h => ⟨h.1, h.2.symm⟩)
        repeat still_step
        refine wpStill_nil ?_
        go_wp2
        all_goals
          go_ret
          refine ⟨rfl, ?_, ?_⟩
          · apply IsP.of
            · repeat (first | exact GH.out | apply hs)
            · rw [HSP.out]; simp [PR.cells] <;> (have k3 := HM.out; have k4 := HS.out; omega)
          · repeat (first | exact World.grownBy.refl _ _ | exact GG.out | exact FG.out | refine gs ?_ | refine grown_drew ?_ | refine grown_drewN ?_ _)
  · cases meas
    · obtain ⟨M, HM, m0, m1⟩ : ∃ M : Int, Hid (M = 8 * ticks) ∧ 0 ≤ M ∧ M ≤ 4800 := ⟨_, hid rfl, by omega, by omega⟩
      obtain ⟨S, HS, s0, s1⟩ : ∃ S : Int, Hid (S = 2 * ticks) ∧ 0 ≤ S ∧ S ≤ 2403 := ⟨_, hid rfl, by omega, by omega⟩
      have HSP := hid (samp_f (ticks := ticks) (M := M) (S := S) (p := ⟨win, slow, part, rto, mean, spread, faults, up, sure, mtu, false, beat, nonce0, since⟩) rfl (by rw [HM.out]; omega) (by rw [HS.out]; omega))
      go_enter Try.func29, Try.ntmps29
      go_upto_region 16 with fail
      have g3 : (((w.setCell ⟨g, 10, none⟩ (.bool true)).setCell ⟨g, 4, none⟩ (.int .i64 (8 * ticks))).setCell ⟨g, 5, none⟩ (.int .i64 (2 * ticks))).cell? ⟨g, 3, none⟩ = some (.int .i64 rto) := cellOf (hs (hs (hs H.out))) rfl
      have g4 : (((w.setCell ⟨g, 10, none⟩ (.bool true)).setCell ⟨g, 4, none⟩ (.int .i64 (8 * ticks))).setCell ⟨g, 5, none⟩ (.int .i64 (2 * ticks))).cell? ⟨g, 4, none⟩ = some (.int .i64 M) := by rw [HM.out]; exact cellOf (hs (hs (hs H.out))) rfl
      have g5 : (((w.setCell ⟨g, 10, none⟩ (.bool true)).setCell ⟨g, 4, none⟩ (.int .i64 (8 * ticks))).setCell ⟨g, 5, none⟩ (.int .i64 (2 * ticks))).cell? ⟨g, 5, none⟩ = some (.int .i64 S) := by rw [HS.out]; exact cellOf (hs (hs (hs H.out))) rfl
      have gf : ∀ i, (((w.setCell ⟨g, 10, none⟩ (.bool true)).setCell ⟨g, 4, none⟩ (.int .i64 (8 * ticks))).setCell ⟨g, 5, none⟩ (.int .i64 (2 * ticks))).frozen? ⟨g, i, none⟩ = false := fun i => frozen_of_row _ g i _ _ (hs (hs (hs H.out)))
      have GH : Hid ((((w.setCell ⟨g, 10, none⟩ (.bool true)).setCell ⟨g, 4, none⟩ (.int .i64 (8 * ticks))).setCell ⟨g, 5, none⟩ (.int .i64 (2 * ticks))).heap[g]? = _) := hid (hs (hs (hs H.out)))
      have GG : Hid (w.grownBy (((w.setCell ⟨g, 10, none⟩ (.bool true)).setCell ⟨g, 4, none⟩ (.int .i64 (8 * ticks))).setCell ⟨g, 5, none⟩ (.int .i64 (2 * ticks))) (some g)) := by (show World.grownBy _ _ _); repeat (first | exact World.grownBy.refl _ _ | exact GG.out | exact FG.out | refine gs ?_ | refine grown_drew ?_ | refine grown_drewN ?_ _)
      generalize (((w.setCell ⟨g, 10, none⟩ (.bool true)).setCell ⟨g, 4, none⟩ (.int .i64 (8 * ticks))).setCell ⟨g, 5, none⟩ (.int .i64 (2 * ticks))) = W2 at *
      have m2 : M ≤ 4611686018427387904 := by omega
      refine wp_region_still_tail 16 (by kernel_rfl) (by kernel_rfl) ?_
      simp only [List.take_succ_cons, List.take_zero, List.drop_succ_cons, List.drop_zero]
      change wpStill _ _ W2.drew _ _ _
      repeat still_step
      still_call ((down_calls _ _ _ m0 m2 (.inr rfl)).mono fun e w' h => ⟨h.1, h.2.symm⟩)
      repeat still_step
      refine wpStill_nil ?_
      go_wp2
      all_goals
        go_ret
        refine ⟨rfl, ?_, ?_⟩
        · apply IsP.of
          · repeat (first | exact GH.out | apply hs)
          · rw [HSP.out]; simp [PR.cells] <;> (have k3 := HM.out; have k4 := HS.out; omega)
        · repeat (first | exact World.grownBy.refl _ _ | exact GG.out | exact FG.out | refine gs ?_ | refine grown_drew ?_ | refine grown_drewN ?_ _)
    · obtain ⟨M, HM, m0, m1⟩ : ∃ M : Int, Hid (M = mean + (ticks - mean / 8)) ∧ 0 ≤ M ∧ M ≤ 4800 := ⟨_, hid rfl, by omega, by omega⟩
      obtain ⟨A, HA, a0, a1⟩ : ∃ A : Int, Hid (A = max (ticks - mean / 8) (-(ticks - mean / 8))) ∧ 0 ≤ A ∧ A ≤ 600 := ⟨_, hid rfl, by omega, by omega⟩
      obtain ⟨S, HS, s0, s1⟩ : ∃ S : Int, Hid (S = spread + A - spread / 4) ∧ 0 ≤ S ∧ S ≤ 2403 := ⟨_, hid rfl, by omega, by omega⟩
      have hmt : min ticks 600 = ticks := by omega
      have HSP := hid (samp_t (ticks := ticks) (M := M) (S := S) (p := ⟨win, slow, part, rto, mean, spread, faults, up, sure, mtu, true, beat, nonce0, since⟩) rfl (by rw [hmt]; exact HM.out) (by rw [hmt, HS.out, HA.out]; show _ + _ - _ = _ + (_ - _); rw [Int.add_sub_assoc]))
      clear hmt
      rcases Int.lt_or_le (ticks - mean / 8) 0 with hD | hD
      · go_enter Try.func29, Try.ntmps29
        go_upto_region 15 with (go_at_call 37; refine Calls.mono (down_calls _ _ _ (by omega) (by omega) (by omega)) ?_; rintro e w' ⟨rfl, rfl⟩)
        have f4 : (w.setCell ⟨g, 4, none⟩ (.int .i64 (mean + (ticks - mean / 8)))).cell? ⟨g, 4, none⟩ = some (.int .i64 M) := by rw [HM.out]; exact cellOf (hs H.out) rfl
        have f5 : (w.setCell ⟨g, 4, none⟩ (.int .i64 (mean + (ticks - mean / 8)))).cell? ⟨g, 5, none⟩ = some (.int .i64 spread) := cellOf (hs H.out) rfl
        have ff : ∀ i, (w.setCell ⟨g, 4, none⟩ (.int .i64 (mean + (ticks - mean / 8)))).frozen? ⟨g, i, none⟩ = false := fun i => frozen_of_row _ g i _ _ (hs H.out)
        have FH : Hid ((w.setCell ⟨g, 4, none⟩ (.int .i64 (mean + (ticks - mean / 8)))).heap[g]? = _) := hid (hs H.out)
        have FG : Hid (w.grownBy (w.setCell ⟨g, 4, none⟩ (.int .i64 (mean + (ticks - mean / 8)))) (some g)) := hid (gs (World.grownBy.refl w (some g)))
        generalize (w.setCell ⟨g, 4, none⟩ (.int .i64 (mean + (ticks - mean / 8)))) = W at *
        clear c0 c1 c2 c3 c4 c5 c6 c7 c8 c9 c10 c11 c12 c13 hf
        have hA : -(ticks - mean / 8) = A := by have := HA.out; omega
        generalize hD1 : -(ticks - mean / 8) = A' at *
        have HD := hid hD1; clear hD1
        subst hA
        have sp2 : spread ≤ 4611686018427387904 := by omega
        refine wp_region_still_tail 18 (by kernel_rfl) (by kernel_rfl) ?_
        simp only [List.take_succ_cons, List.take_zero, List.drop_succ_cons, List.drop_zero]
        change wpStill _ _ W.drew _ _ _
        repeat still_step
        still_call ((down_calls _ _ _ h13 sp2 (.inl rfl)).mono fun e w' h => ⟨h.1, h.2.symm⟩)
        repeat still_step
        refine wpStill_nil ?_
        go_upto_region 16 with fail
        have g3 : ((W.setCell ⟨g, 5, none⟩ (.int .i64 (spread + A' - spread / 4))).drew).cell? ⟨g, 3, none⟩ = some (.int .i64 rto) := cellOf (hs FH.out) rfl
        have g4 : ((W.setCell ⟨g, 5, none⟩ (.int .i64 (spread + A' - spread / 4))).drew).cell? ⟨g, 4, none⟩ = some (.int .i64 M) := by rw [HM.out]; exact cellOf (hs FH.out) rfl
        have g5 : ((W.setCell ⟨g, 5, none⟩ (.int .i64 (spread + A' - spread / 4))).drew).cell? ⟨g, 5, none⟩ = some (.int .i64 S) := by rw [HS.out]; exact cellOf (hs FH.out) rfl
        have gf : ∀ i, ((W.setCell ⟨g, 5, none⟩ (.int .i64 (spread + A' - spread / 4))).drew).frozen? ⟨g, i, none⟩ = false := fun i => frozen_of_row _ g i _ _ (hs FH.out)
        have GH : Hid (((W.setCell ⟨g, 5, none⟩ (.int .i64 (spread + A' - spread / 4))).drew).heap[g]? = _) := hid (hs FH.out)
        have GG : Hid (w.grownBy ((W.setCell ⟨g, 5, none⟩ (.int .i64 (spread + A' - spread / 4))).drew) (some g)) := by (show World.grownBy _ _ _); repeat (first | exact World.grownBy.refl _ _ | exact GG.out | exact FG.out | refine gs ?_ | refine grown_drew ?_ | refine grown_drewN ?_ _)
        generalize ((W.setCell ⟨g, 5, none⟩ (.int .i64 (spread + A' - spread / 4))).drew) = W2 at *
        have m2 : M ≤ 4611686018427387904 := by omega
        refine wp_region_still_tail 16 (by kernel_rfl) (by kernel_rfl) ?_
        simp only [List.take_succ_cons, List.take_zero, List.drop_succ_cons, List.drop_zero]
        change wpStill _ _ W2.drew _ _ _
        repeat still_step
        still_call ((down_calls _ _ _ m0 m2 (.inr rfl)).mono fun e w' h => ⟨h.1, h.2.symm⟩)
        repeat still_step
        refine wpStill_nil ?_
        go_wp2
        all_goals
          go_ret
          refine ⟨rfl, ?_, ?_⟩
          · apply IsP.of
            · repeat (first | exact GH.out | apply hs)
            · rw [HSP.out]; simp [PR.cells] <;> (have k3 := HM.out; have k4 := HS.out; omega)
          · repeat (first | exact World.grownBy.refl _ _ | exact GG.out | exact FG.out | refine gs ?_ | refine grown_drew ?_ | refine grown_drewN ?_ _)
      · go_enter Try.func29, Try.ntmps29
        go_upto_region 15 with (go_at_call 37; refine Calls.mono (down_calls _ _ _ (by omega) (by omega) (by omega)) ?_; rintro e w' ⟨rfl, rfl⟩)
        have f4 : (w.setCell ⟨g, 4, none⟩ (.int .i64 (mean + (ticks - mean / 8)))).cell? ⟨g, 4, none⟩ = some (.int .i64 M) := by rw [HM.out]; exact cellOf (hs H.out) rfl
        have f5 : (w.setCell ⟨g, 4, none⟩ (.int .i64 (mean + (ticks - mean / 8)))).cell? ⟨g, 5, none⟩ = some (.int .i64 spread) := cellOf (hs H.out) rfl
        have ff : ∀ i, (w.setCell ⟨g, 4, none⟩ (.int .i64 (mean + (ticks - mean / 8)))).frozen? ⟨g, i, none⟩ = false := fun i => frozen_of_row _ g i _ _ (hs H.out)
        have FH : Hid ((w.setCell ⟨g, 4, none⟩ (.int .i64 (mean + (ticks - mean / 8)))).heap[g]? = _) := hid (hs H.out)
        have FG : Hid (w.grownBy (w.setCell ⟨g, 4, none⟩ (.int .i64 (mean + (ticks - mean / 8)))) (some g)) := hid (gs (World.grownBy.refl w (some g)))
        generalize (w.setCell ⟨g, 4, none⟩ (.int .i64 (mean + (ticks - mean / 8)))) = W at *
        clear c0 c1 c2 c3 c4 c5 c6 c7 c8 c9 c10 c11 c12 c13 hf
        have hA : ticks - mean / 8 = A := by have := HA.out; omega
        generalize hD1 : ticks - mean / 8 = A' at *
        have HD := hid hD1; clear hD1
        subst hA
        have sp2 : spread ≤ 4611686018427387904 := by omega
        refine wp_region_still_tail 18 (by kernel_rfl) (by kernel_rfl) ?_
        simp only [List.take_succ_cons, List.take_zero, List.drop_succ_cons, List.drop_zero]
        change wpStill _ _ W.drew _ _ _
        repeat still_step
        still_call ((down_calls _ _ _ h13 sp2 (.inl rfl)).mono fun e w' h => ⟨h.1, h.2.symm⟩)
        repeat still_step
        refine wpStill_nil ?_
        go_upto_region 16 with fail
        have g3 : ((W.setCell ⟨g, 5, none⟩ (.int .i64 (spread + A' - spread / 4))).drew).cell? ⟨g, 3, none⟩ = some (.int .i64 rto) := cellOf (hs FH.out) rfl
        have g4 : ((W.setCell ⟨g, 5, none⟩ (.int .i64 (spread + A' - spread / 4))).drew).cell? ⟨g, 4, none⟩ = some (.int .i64 M) := by rw [HM.out]; exact cellOf (hs FH.out) rfl
        have g5 : ((W.setCell ⟨g, 5, none⟩ (.int .i64 (spread + A' - spread / 4))).drew).cell? ⟨g, 5, none⟩ = some (.int .i64 S) := by rw [HS.out]; exact cellOf (hs FH.out) rfl
        have gf : ∀ i, ((W.setCell ⟨g, 5, none⟩ (.int .i64 (spread + A' - spread / 4))).drew).frozen? ⟨g, i, none⟩ = false := fun i => frozen_of_row _ g i _ _ (hs FH.out)
        have GH : Hid (((W.setCell ⟨g, 5, none⟩ (.int .i64 (spread + A' - spread / 4))).drew).heap[g]? = _) := hid (hs FH.out)
        have GG : Hid (w.grownBy ((W.setCell ⟨g, 5, none⟩ (.int .i64 (spread + A' - spread / 4))).drew) (some g)) := by (show World.grownBy _ _ _); repeat (first | exact World.grownBy.refl _ _ | exact GG.out | exact FG.out | refine gs ?_ | refine grown_drew ?_ | refine grown_drewN ?_ _)
        generalize ((W.setCell ⟨g, 5, none⟩ (.int .i64 (spread + A' - spread / 4))).drew) = W2 at *
        have m2 : M ≤ 4611686018427387904 := by omega
        refine wp_region_still_tail 16 (by kernel_rfl) (by kernel_rfl) ?_
        simp only [List.take_succ_cons, List.take_zero, List.drop_succ_cons, List.drop_zero]
        change wpStill _ _ W2.drew _ _ _
        repeat still_step
        still_call ((down_calls _ _ _ m0 m2 (.inr rfl)).mono fun e w' h => ⟨h.1, h.2.symm⟩)
        repeat still_step
        refine wpStill_nil ?_
        go_wp2
        all_goals
          go_ret
          refine ⟨rfl, ?_, ?_⟩
          · apply IsP.of
            · repeat (first | exact GH.out | apply hs)
            · rw [HSP.out]; simp [PR.cells] <;> (have k3 := HM.out; have k4 := HS.out; omega)
          · repeat (first | exact World.grownBy.refl _ _ | exact GG.out | exact FG.out | refine gs ?_ | refine grown_drew ?_ | refine grown_drewN ?_ _)
end Go.Proofs.Ytopcokjfgldblaa
