/-
  LAYER 15, WALKS: (*path.Path).Sample.
-/
import Derived.Test.YtopcokjfgldblaaPathB
import Derived.Test.YtopcokjfgldblaaProg
import Derived.Deep.RegionHeld3
import Derived.Deep.QuietTactic
import Derived.BigQuiet
import Derived.BigRegion
import Derived.IntWalk
import Derived.StillTailTactics
import Derived.Deep.CutRange
set_option linter.unusedVariables false
set_option linter.unusedSimpArgs false
namespace Go.Proofs.Ytopcokjfgldblaa
open Go.RowKit

theorem samp_bad (g : Nat) (w : World) (now : Int) (h : now < 0 ∨ 1099511627776 < now) :
    Calls Try.prog 12 #[.pointer (some ⟨g, 0, none⟩), .int .i64 now] w fun e w' => e = .returned (.int .i64 2) ∧ w = w' := by
  rcases h with h | h
  · go_enter Try.func12, Try.ntmps12
    go_wp2
    go_ret
    exact ⟨rfl, rfl⟩
  · have h' : ¬ now < 0 := by omega
    go_enter Try.func12, Try.ntmps12
    go_wp2
    go_ret
    exact ⟨rfl, rfl⟩

set_option maxHeartbeats 2000000 in
theorem samp_calls (g : Nat) (p : PR) (w : World) (n ticks : Int) (ok : p.Ok n) (h : IsP w g 65 p) (t0 : 0 ≤ ticks) (t1 : ticks ≤ 1099511627776) :
    Calls Try.prog 12 #[.pointer (some ⟨g, 0, none⟩), .int .i64 ticks] w fun e w' => e = .returned (.int .i64 0) ∧ IsP w' g 65 (sampP ticks p) ∧ w.grownBy w' (some g) := by
  obtain ⟨h1, h2, h3, h4, h5, h6, h7, h8, h9, h10, h11, h12, h13, h14, h15, h16, h17, h18, h19, h20, h21, h22⟩ := ok
  obtain ⟨win, slow, part, rto, mean, spread, faults, up, sure, mtu, meas, beat, nonce, since⟩ := p
  simp only at h11 h12 h13 h14
  clear h1 h2 h3 h4 h5 h6 h7 h8 h9 h10 h15 h16 h17 h18 h19 h20 h21 h22
  obtain ⟨c0, c1, c2, c3, c4, c5, c6, c7, c8, c9, c10, c11, c12, c13, hf⟩ := h.facts
  have H := hid h; clear h
  have k0 : 0 ≤ (if 600 < ticks then 600 else ticks) := by split <;> omega
  have k1 : (if 600 < ticks then 600 else ticks) ≤ 600 := by split <;> omega
  have k2 : (if 600 < ticks then 600 else ticks) = min ticks 600 := by split <;> omega
  have K2 := hid k2; clear k2
  go_enter Try.func12, Try.ntmps12
  go_upto_region 6 with (fail)
  generalize (if 600 < ticks then 600 else ticks) = t at *
  clear t0 t1
  cases meas
  · have e1 : IntKind.i64.wrap (t + 2 * t) = t + 2 * t := IntWalk.i64_in _ (by omega)
    have E1 := hid e1; clear e1
    go_upto_region 11 with (fail)
    have e1 := E1.out
    go_region_held3 (fun w' => w'.cell? ⟨g, 4, none⟩ = some (.int .i64 (8 * t)) ∧ w'.cell? ⟨g, 5, none⟩ = some (.int .i64 (2 * t))) (first | exact ⟨cellOf (hs (hs (hs H.out))) rfl, cellOf (hs (hs (hs H.out))) rfl⟩ | exact ⟨cellOf (hs (hs (hs (hs H.out)))) rfl, cellOf (hs (hs (hs (hs H.out)))) rfl⟩ | go_keep) (first | (go_at_call 27; refine Calls.mono (floor_calls _ _ _ (by omega) (by omega) (by omega)) ?_; rintro e w' ⟨rfl, rfl⟩))
    clear e1
    go_wp2
    all_goals
      go_ret
      have k2 := K2.out
      exact ⟨rfl, IsP.of (hs (hs (hs (hs H.out)))) (by simp [PR.cells, sampP]; omega), gs (gs (gs (gs (grown_drew (World.grownBy.refl _ _)))))⟩
  · have q1 : 0 ≤ mean + (t - mean / 8) ∧ mean + (t - mean / 8) ≤ 4800 := by omega
    have q2 : 0 ≤ max (t - mean / 8) (-(t - mean / 8)) ∧ max (t - mean / 8) (-(t - mean / 8)) ≤ 600 := by omega
    go_upto_region 10 with (go_at_call 27; refine Calls.mono (floor_calls _ _ _ (by omega) (by omega) (by omega)) ?_; rintro e w' ⟨rfl, rfl⟩)
    generalize hM : mean + (t - mean / 8) = M at *
    have HM := hid hM; clear hM
    generalize hD : t - mean / 8 = D at *
    have HD := hid hD; clear hD
    rcases Int.lt_or_le D 0 with hD | hD
    · have e0 : IntKind.i64.wrap (-D) = -D := IntWalk.i64_in _ (by omega)
      have e1 : IntKind.i64.wrap (-D - spread / 4) = -D - spread / 4 := IntWalk.i64_in _ (by omega)
      have e2 : IntKind.i64.wrap (spread + (-D - spread / 4)) = (spread + (-D - spread / 4)) := IntWalk.i64_in _ (by omega)
      have hd1 : ¬ 0 ≤ D := by omega
      have hd2 : D ≤ -D := by omega
      have f4 : (w.setCell ⟨g, 4, none⟩ (.int .i64 M)).cell? ⟨g, 4, none⟩ = some (.int .i64 M) := cellOf (hs H.out) rfl
      have f5 : (w.setCell ⟨g, 4, none⟩ (.int .i64 M)).cell? ⟨g, 5, none⟩ = some (.int .i64 spread) := cellOf (hs H.out) rfl
      have ff : ∀ i, (w.setCell ⟨g, 4, none⟩ (.int .i64 M)).frozen? ⟨g, i, none⟩ = false := fun i => frozen_of_row _ g i _ _ (hs H.out)
      have FH := hid (hs (i := 4) (v := .int .i64 M) H.out)
      have FG := hid (gs (i := 4) (v := .int .i64 M) (World.grownBy.refl w (some g)))
      generalize w.setCell ⟨g, 4, none⟩ (.int .i64 M) = W at *
      clear c0 c1 c2 c3 c4 c5 c6 c7 c8 c9 c10 c11 c12 c13 hf
      refine wp_region_still_tail 20 (by kernel_rfl) (by kernel_rfl) ?_
      simp only [List.take_succ_cons, List.take_zero, List.drop_succ_cons, List.drop_zero]
      change wpStill _ _ W.drew _ _ _
      repeat still_step
      still_call ((floor_calls _ _ _ (by omega) (by omega) (by omega)).mono fun e w' h => ⟨h.1, h.2.symm⟩)
      repeat still_step
      refine wpStill_nil ?_
      go_upto_region 11 with (fail)
      have HS : Hid ((spread + (-D - spread / 4)) = spread + (max D (-D) - spread / 4)) := by show _ = _; omega
      have s1 : 0 ≤ (spread + (-D - spread / 4)) := by omega
      have s2 : (spread + (-D - spread / 4)) ≤ 2403 := by omega
      clear e0 e1 e2
      generalize (spread + (-D - spread / 4)) = S at *
      have g3 : (W.setCell ⟨g, 5, none⟩ (.int .i64 S)).drew.cell? ⟨g, 3, none⟩ = some (.int .i64 rto) := cellOf (hs FH.out) rfl
      have g4 : (W.setCell ⟨g, 5, none⟩ (.int .i64 S)).drew.cell? ⟨g, 4, none⟩ = some (.int .i64 M) := cellOf (hs FH.out) rfl
      have g5 : (W.setCell ⟨g, 5, none⟩ (.int .i64 S)).drew.cell? ⟨g, 5, none⟩ = some (.int .i64 S) := cellOf (hs FH.out) rfl
      have gf : ∀ i, (W.setCell ⟨g, 5, none⟩ (.int .i64 S)).drew.frozen? ⟨g, i, none⟩ = false := fun i => frozen_of_row _ g i _ _ (hs FH.out)
      have GH := hid (hs (i := 5) (v := .int .i64 S) FH.out)
      have GG := hid (gs (i := 5) (v := .int .i64 S) FG.out)
      have GH : Hid ((W.setCell ⟨g, 5, none⟩ (.int .i64 S)).drew.heap[g]? = _) := GH
      have GG : Hid (w.grownBy (W.setCell ⟨g, 5, none⟩ (.int .i64 S)).drew (some g)) := hid (grown_drew GG.out)
      generalize (W.setCell ⟨g, 5, none⟩ (.int .i64 S)).drew = W2 at *
      clear f4 f5 ff FH FG
      have e3 : IntKind.i64.wrap (M / 8 + S) = M / 8 + S := IntWalk.i64_in _ (by omega)
      refine wp_region_still_tail 18 (by kernel_rfl) (by kernel_rfl) ?_
      simp only [List.take_succ_cons, List.take_zero, List.drop_succ_cons, List.drop_zero]
      change wpStill _ _ W2.drew _ _ _
      repeat still_step
      still_call ((floor_calls _ _ _ (by omega) (by omega) (by omega)).mono fun e w' h => ⟨h.1, h.2.symm⟩)
      repeat still_step
      refine wpStill_nil ?_
      clear e3
      go_wp2
      all_goals
        go_ret
        have k2 := K2.out
        have k3 := HM.out
        have k4 := HD.out
        have k5 := HS.out
        exact ⟨rfl, IsP.of (hs GH.out) (by simp [PR.cells, sampP]; omega), gs (grown_drew GG.out)⟩
    · have e0 : IntKind.i64.wrap (-D) = -D := IntWalk.i64_in _ (by omega)
      have e1 : IntKind.i64.wrap (D - spread / 4) = D - spread / 4 := IntWalk.i64_in _ (by omega)
      have e2 : IntKind.i64.wrap (spread + (D - spread / 4)) = (spread + (D - spread / 4)) := IntWalk.i64_in _ (by omega)
      have hd1 : ¬ D < 0 := by omega
      have hd2 : -D ≤ D := by omega
      have f4 : (w.setCell ⟨g, 4, none⟩ (.int .i64 M)).cell? ⟨g, 4, none⟩ = some (.int .i64 M) := cellOf (hs H.out) rfl
      have f5 : (w.setCell ⟨g, 4, none⟩ (.int .i64 M)).cell? ⟨g, 5, none⟩ = some (.int .i64 spread) := cellOf (hs H.out) rfl
      have ff : ∀ i, (w.setCell ⟨g, 4, none⟩ (.int .i64 M)).frozen? ⟨g, i, none⟩ = false := fun i => frozen_of_row _ g i _ _ (hs H.out)
      have FH := hid (hs (i := 4) (v := .int .i64 M) H.out)
      have FG := hid (gs (i := 4) (v := .int .i64 M) (World.grownBy.refl w (some g)))
      generalize w.setCell ⟨g, 4, none⟩ (.int .i64 M) = W at *
      clear c0 c1 c2 c3 c4 c5 c6 c7 c8 c9 c10 c11 c12 c13 hf
      refine wp_region_still_tail 20 (by kernel_rfl) (by kernel_rfl) ?_
      simp only [List.take_succ_cons, List.take_zero, List.drop_succ_cons, List.drop_zero]
      change wpStill _ _ W.drew _ _ _
      repeat still_step
      still_call ((floor_calls _ _ _ (by omega) (by omega) (by omega)).mono fun e w' h => ⟨h.1, h.2.symm⟩)
      repeat still_step
      refine wpStill_nil ?_
      go_upto_region 11 with (fail)
      have HS : Hid ((spread + (D - spread / 4)) = spread + (max D (-D) - spread / 4)) := by show _ = _; omega
      have s1 : 0 ≤ (spread + (D - spread / 4)) := by omega
      have s2 : (spread + (D - spread / 4)) ≤ 2403 := by omega
      clear e0 e1 e2
      generalize (spread + (D - spread / 4)) = S at *
      have g3 : (W.setCell ⟨g, 5, none⟩ (.int .i64 S)).drew.cell? ⟨g, 3, none⟩ = some (.int .i64 rto) := cellOf (hs FH.out) rfl
      have g4 : (W.setCell ⟨g, 5, none⟩ (.int .i64 S)).drew.cell? ⟨g, 4, none⟩ = some (.int .i64 M) := cellOf (hs FH.out) rfl
      have g5 : (W.setCell ⟨g, 5, none⟩ (.int .i64 S)).drew.cell? ⟨g, 5, none⟩ = some (.int .i64 S) := cellOf (hs FH.out) rfl
      have gf : ∀ i, (W.setCell ⟨g, 5, none⟩ (.int .i64 S)).drew.frozen? ⟨g, i, none⟩ = false := fun i => frozen_of_row _ g i _ _ (hs FH.out)
      have GH := hid (hs (i := 5) (v := .int .i64 S) FH.out)
      have GG := hid (gs (i := 5) (v := .int .i64 S) FG.out)
      have GH : Hid ((W.setCell ⟨g, 5, none⟩ (.int .i64 S)).drew.heap[g]? = _) := GH
      have GG : Hid (w.grownBy (W.setCell ⟨g, 5, none⟩ (.int .i64 S)).drew (some g)) := hid (grown_drew GG.out)
      generalize (W.setCell ⟨g, 5, none⟩ (.int .i64 S)).drew = W2 at *
      clear f4 f5 ff FH FG
      have e3 : IntKind.i64.wrap (M / 8 + S) = M / 8 + S := IntWalk.i64_in _ (by omega)
      refine wp_region_still_tail 18 (by kernel_rfl) (by kernel_rfl) ?_
      simp only [List.take_succ_cons, List.take_zero, List.drop_succ_cons, List.drop_zero]
      change wpStill _ _ W2.drew _ _ _
      repeat still_step
      still_call ((floor_calls _ _ _ (by omega) (by omega) (by omega)).mono fun e w' h => ⟨h.1, h.2.symm⟩)
      repeat still_step
      refine wpStill_nil ?_
      clear e3
      go_wp2
      all_goals
        go_ret
        have k2 := K2.out
        have k3 := HM.out
        have k4 := HD.out
        have k5 := HS.out
        exact ⟨rfl, IsP.of (hs GH.out) (by simp [PR.cells, sampP]; omega), gs (grown_drew GG.out)⟩
end Go.Proofs.Ytopcokjfgldblaa
