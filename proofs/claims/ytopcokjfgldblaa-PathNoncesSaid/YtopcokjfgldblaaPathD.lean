/-
  LAYER 15, WALKS: (*path.Path).Grow.
-/
import Derived.Test.YtopcokjfgldblaaPathB
import Derived.Deep.QuietTactic
import Derived.BigQuiet
import Derived.BigRegion
import Derived.IntWalk
import Derived.StillTailTactics
import Derived.Deep.CutRange
set_option linter.unusedVariables false
set_option linter.unusedSimpArgs false
namespace Go.Proofs.Ytopcokjfgldblaa
open Go.RowKit

theorem grow_bad (g : Nat) (w : World) (b f : Int) (m : Bool) (h : b < 0 ∨ 8192 < b ∨ f < 0 ∨ 8192 < f) :
    Calls Try.prog 18 #[.pointer (some ⟨g, 0, none⟩), .int .i64 b, .bool m, .int .i64 f] w fun e w' => e = .returned (.int .i64 2) ∧ w = w' := by
  have h' : b < 0 ∨ (0 ≤ b ∧ 8192 < b) ∨ (0 ≤ b ∧ b ≤ 8192 ∧ f < 0) ∨ (0 ≤ b ∧ b ≤ 8192 ∧ 0 ≤ f ∧ 8192 < f) := by omega
  clear h
  rcases h' with h | ⟨h0, h1⟩ | ⟨h0, h1, h2⟩ | ⟨h0, h1, h2, h3⟩
  all_goals
    go_enter Try.func18, Try.ntmps18
    go_wp2
    go_ret
    exact ⟨rfl, rfl⟩

theorem grow_none (g : Nat) (w : World) (b f : Int) (m : Bool) (h0 : 0 ≤ b) (h1 : b ≤ 8192) (h2 : 0 ≤ f) (h3 : f ≤ 8192) (h : m = false ∨ b = 0) :
    Calls Try.prog 18 #[.pointer (some ⟨g, 0, none⟩), .int .i64 b, .bool m, .int .i64 f] w fun e w' => e = .returned (.int .i64 0) ∧ w = w' := by
  cases m
  · clear h
    go_enter Try.func18, Try.ntmps18
    go_wp2
    go_ret
    exact ⟨rfl, rfl⟩
  · have h : b = 0 := by simpa using h
    subst h
    clear h0 h1
    go_enter Try.func18, Try.ntmps18
    go_wp2
    go_ret
    exact ⟨rfl, rfl⟩

set_option maxHeartbeats 2000000 in
theorem grow_main (g : Nat) (p : PR) (w : World) (n : Int) (ok : p.Ok n) (h : IsP w g 65 p) (b f : Int) (hb0 : 0 < b) (hb1 : b ≤ 8192) (hf0 : 0 ≤ f) (hf1 : f ≤ 8192) :
    Calls Try.prog 18 #[.pointer (some ⟨g, 0, none⟩), .int .i64 b, .bool true, .int .i64 f] w fun e w' => e = .returned (.int .i64 0) ∧ IsP w' g 65 (growP b true f p) ∧ w.grownBy w' (some g) := by
  obtain ⟨h1, h2, h3, h4, h5, h6, h7, h8, h9, h10, h11, h12, h13, h14, h15, h16, h17, h18, h19, h20, h21, h22⟩ := ok
  obtain ⟨win, slow, part, rto, mean, spread, faults, up, sure, mtu, meas, beat, nonce, since⟩ := p
  simp only at h1 h2 h3 h4 h6 h7 h8
  have h9' : part ≤ 819200000 := by omega
  clear h5 h8 h9 h10 h11 h12 h13 h14 h15 h16 h17 h18 h19 h20 h21 h22
  obtain ⟨c0, c1, c2, c3, c4, c5, c6, c7, c8, c9, c10, c11, c12, c13, hf⟩ := h.facts
  have H := hid h; clear h
  clear c3 c4 c5 c6 c7 c8 c10 c11 c12 c13
  have hb' : ¬ b = 0 := by omega
  by_cases q1 : win ≤ slow
  · by_cases q2 : win ≤ f
    · have HG := hid (@grow_a b f ⟨win, slow, part, rto, mean, spread, faults, up, sure, mtu, meas, beat, nonce, since⟩ hb' q1 q2)
      go_enter Try.func18, Try.ntmps18
      go_wp2_with fail
      go_quiet (fail)
      go_wp2_with fail
      go_region
      all_goals
        go_wp2
        all_goals
          go_ret
          rw [HG.out]
          exact ⟨rfl, IsP.of (hs H.out) (by simp [PR.cells] <;> omega), gs (grown_drew (grown_drewN (World.grownBy.refl _ _) _))⟩
    · have HG := hid (@grow_b b f ⟨win, slow, part, rto, mean, spread, faults, up, sure, mtu, meas, beat, nonce, since⟩ hb' q1 q2)
      go_enter Try.func18, Try.ntmps18
      go_wp2_with fail
      go_quiet (fail)
      go_wp2
      go_ret
      rw [HG.out]
      exact ⟨rfl, H.out, (grown_drewN (World.grownBy.refl _ _) _)⟩
  · have q1' : slow < win := by omega
    by_cases q2 : win ≤ part + b ∧ win ≤ f
    · obtain ⟨q2, q3⟩ := q2
      have HG := hid (@grow_c b f ⟨win, slow, part, rto, mean, spread, faults, up, sure, mtu, meas, beat, nonce, since⟩ hb' q1 q2 q3)
      go_enter Try.func18, Try.ntmps18
      go_wp2_with fail
      go_quiet (fail)
      go_wp2_with fail
      go_quiet (fail)
      go_wp2_with fail
      go_region
      all_goals
        go_wp2_with fail
        go_region
        all_goals
          go_wp2
          all_goals
            go_ret
            rw [HG.out]
            exact ⟨rfl, IsP.of (hs (hs (hs H.out))) (by simp [PR.cells] <;> omega), (by repeat (first | exact World.grownBy.refl _ _ | refine gs ?_ | refine grown_drew ?_ | refine grown_drewN ?_ _))⟩
    · have HG := hid (@grow_d b f ⟨win, slow, part, rto, mean, spread, faults, up, sure, mtu, meas, beat, nonce, since⟩ hb' q1 q2)
      have q3 : part + b < win ∨ (win ≤ part + b ∧ f < win) := by omega
      clear q2
      rcases q3 with q3 | ⟨q3, q4⟩
      · go_enter Try.func18, Try.ntmps18
        go_wp2_with fail
        go_quiet (fail)
        go_wp2_with fail
        have hd : decide (win ≤ part + b) = false := by simp; omega
        go_quiet (fail)
        go_wp2
        go_ret
        rw [HG.out]
        exact ⟨rfl, IsP.of (hs H.out) (by simp [PR.cells]), (by repeat (first | exact World.grownBy.refl _ _ | refine gs ?_ | refine grown_drew ?_ | refine grown_drewN ?_ _))⟩
      · go_enter Try.func18, Try.ntmps18
        go_wp2_with fail
        go_quiet (fail)
        go_wp2_with fail
        go_quiet (fail)
        go_wp2
        go_ret
        rw [HG.out]
        exact ⟨rfl, IsP.of (hs H.out) (by simp [PR.cells]), (by repeat (first | exact World.grownBy.refl _ _ | refine gs ?_ | refine grown_drew ?_ | refine grown_drewN ?_ _))⟩

theorem grow_calls (g : Nat) (p : PR) (w : World) (n : Int) (ok : p.Ok n) (h : IsP w g 65 p) (b f : Int) (m : Bool) (hb0 : 0 ≤ b) (hb1 : b ≤ 8192) (hf0 : 0 ≤ f) (hf1 : f ≤ 8192) :
    Calls Try.prog 18 #[.pointer (some ⟨g, 0, none⟩), .int .i64 b, .bool m, .int .i64 f] w fun e w' => e = .returned (.int .i64 0) ∧ IsP w' g 65 (growP b m f p) ∧ w.grownBy w' (some g) := by
  by_cases hm : m = false ∨ b = 0
  · rw [grow_n hm]
    exact (grow_none g w b f m hb0 hb1 hf0 hf1 hm).mono fun e w' ⟨he, hw⟩ => ⟨he, hw ▸ h, hw ▸ World.grownBy.refl _ _⟩
  · obtain rfl : m = true := by cases m <;> simp at hm ⊢
    exact grow_main g p w n ok h b f (by simp at hm; omega) hb1 hf0 hf1
end Go.Proofs.Ytopcokjfgldblaa
