/-
  LAYER 15, WALKS: the deeds of path.Path, one contract each.
-/
import Derived.Test.YtopcokjfgldblaaPathA
import Derived.Test.YtopcokjfgldblaaProg
import Derived.Deep.RegionHeld3
import Derived.Deep.QuietTactic
import Derived.BigQuiet
import Derived.BigRegion
import Derived.IntWalk
import Derived.StillTailTactics
import Derived.Deep.CutRange
set_option linter.unusedVariables false
set_option linter.unusedSimpArgs false
namespace Go.Proofs.Ytopcokjfgldblaa
open Go.RowKit

theorem floor_calls (n d : Int) (w : World) (h0 : 0 ≤ n) (h1 : n ≤ 4611686018427387904) (hd : d = 4 ∨ d = 8) :
    Calls Try.prog 27 #[.int .i64 n, .int .i64 d] w fun e w' => e = .returned (.int .i64 (n / d)) ∧ w = w' := by
  rcases hd with rfl | rfl
  · go_enter Try.func27, Try.ntmps27
    go_wp2
    all_goals (go_ret; exact ⟨rfl, rfl⟩)
  · go_enter Try.func27, Try.ntmps27
    go_wp2
    all_goals (go_ret; exact ⟨rfl, rfl⟩)

theorem good_calls (g : Nat) (p : PR) (w : World) (h : IsP w g 65 p) :
    Calls Try.prog 15 #[.pointer (some ⟨g, 0, none⟩)] w fun e w' => e = .returned (.int .i64 0) ∧ IsP w' g 65 (goodP p) ∧ w.grownBy w' (some g) := by
  obtain ⟨win, slow, part, rto, mean, spread, faults, up, sure, mtu, meas, beat, nonce, since⟩ := p
  obtain ⟨c0, c1, c2, c3, c4, c5, c6, c7, c8, c9, c10, c11, c12, c13, hf⟩ := h.facts
  have H := hid h; clear h
  go_enter Try.func15, Try.ntmps15
  go_wp2
  go_ret
  exact ⟨rfl, IsP.of (hs (hs H.out)) (by simp [PR.cells, goodP]), gs (gs (World.grownBy.refl _ _))⟩

theorem fault_calls (g : Nat) (p : PR) (w : World) (n : Int) (ok : p.Ok n) (h : IsP w g 65 p) :
    Calls Try.prog 17 #[.pointer (some ⟨g, 0, none⟩)] w fun e w' => e = .returned (.tuple #[.bool (downP p), .int .i64 0]) ∧ IsP w' g 65 (faultP p) ∧ w.grownBy w' (some g) := by
  have b0 := ok.faults0
  have b1 := ok.faults1
  have b2 := ok.n1
  clear ok
  obtain ⟨win, slow, part, rto, mean, spread, faults, up, sure, mtu, meas, beat, nonce, since⟩ := p
  simp only at b0 b1
  obtain ⟨c0, c1, c2, c3, c4, c5, c6, c7, c8, c9, c10, c11, c12, c13, hf⟩ := h.facts
  have H := hid h; clear h
  have b3 : faults ≤ 100000 := by omega
  clear b1 b2
  by_cases hu : up = true ∧ 3 < faults + 1
  · obtain ⟨rfl, hu⟩ := hu
    go_enter Try.func17, Try.ntmps17
    go_wp2
    go_ret2
    exact ⟨by simp [downP]; omega, IsP.of (hs (hs H.out)) (by simp [PR.cells, faultP]; omega), gs (gs (World.grownBy.refl _ _))⟩
  · cases up
    · go_enter Try.func17, Try.ntmps17
      go_wp2
      go_ret2
      exact ⟨by simp [downP], IsP.of (hs H.out) (by simp [PR.cells, faultP]), gs (World.grownBy.refl _ _)⟩
    · have hu' : ¬ 3 < faults + 1 := fun h => hu ⟨rfl, h⟩
      clear hu
      go_enter Try.func17, Try.ntmps17
      go_wp2
      go_ret2
      exact ⟨by simp [downP]; omega, IsP.of (hs H.out) (by simp [PR.cells, faultP]; omega), gs (World.grownBy.refl _ _)⟩

theorem cut_calls (g : Nat) (w : World) (win mtu : Int) (c0 : w.cell? ⟨g, 0, none⟩ = some (.int .i64 win)) (c9 : w.cell? ⟨g, 9, none⟩ = some (.int .i64 mtu)) (h1 : 64 ≤ mtu) (h2 : mtu ≤ 1500) (h3 : mtu ≤ win) (h4 : win ≤ 32768) :
    Calls Try.prog 28 #[.pointer (some ⟨g, 0, none⟩)] w fun e w' => e = .returned (.int .i64 (max (win / 2) (4 * mtu))) ∧ ∃ n, w' = w.drewN n := by
  go_enter Try.func28, Try.ntmps28
  go_wp2_with fail
  go_quiet (fail)
  go_wp2
  all_goals (go_ret; exact ⟨ret_int (by omega), _, rfl⟩)

theorem fast_calls (g : Nat) (p : PR) (w : World) (n : Int) (ok : p.Ok n) (h : IsP w g 65 p) :
    Calls Try.prog 19 #[.pointer (some ⟨g, 0, none⟩)] w fun e w' => e = .returned (.int .i64 0) ∧ IsP w' g 65 (fastP p) ∧ w.grownBy w' (some g) := by
  obtain ⟨h1, h2, h3, h4, h5, h6, h7, h8, h9, h10, h11, h12, h13, h14, h15, h16, h17, h18, h19, h20, h21, h22⟩ := ok
  obtain ⟨win, slow, part, rto, mean, spread, faults, up, sure, mtu, meas, beat, nonce, since⟩ := p
  simp only at h1 h2 h3 h4
  clear h5 h6 h7 h8 h9 h10 h11 h12 h13 h14 h15 h16 h17 h18 h19 h20 h21 h22
  obtain ⟨c0, c1, c2, c3, c4, c5, c6, c7, c8, c9, c10, c11, c12, c13, hf⟩ := h.facts
  have H := hid h; clear h
  go_enter Try.func19, Try.ntmps19
  go_wp2_with (go_at_call 28; refine (cut_calls g _ win mtu (by assumption) (by assumption) h1 h2 h3 h4).mono ?_; rintro e w' ⟨rfl, k, rfl⟩)
  go_ret
  exact ⟨rfl, IsP.of (hs (hs (hs (w := w.drewN k) H.out))) (by simp [PR.cells, fastP, cutP]), gs (gs (gs (grown_drewN (World.grownBy.refl _ _) k)))⟩

theorem late_calls (g : Nat) (p : PR) (w : World) (n : Int) (ok : p.Ok n) (h : IsP w g 65 p) :
    Calls Try.prog 16 #[.pointer (some ⟨g, 0, none⟩)] w fun e w' => e = .returned (.tuple #[.bool (downP p), .int .i64 0]) ∧ IsP w' g 65 (lateP p) ∧ w.grownBy w' (some g) := by
  have HOK := hid ok.late0
  have hd : downP (lateP0 p) = downP p := rfl
  have HD := hid hd; clear hd
  have HL : Hid (lateP p = faultP (lateP0 p)) := hid rfl
  have HP : Hid (∀ W : World, IsP W g 65 (lateP0 p) → Calls Try.prog 17 #[.pointer (some ⟨g, 0, none⟩)] W fun e w' => e = .returned (.tuple #[.bool (downP (lateP0 p)), .int .i64 0]) ∧ IsP w' g 65 (faultP (lateP0 p)) ∧ W.grownBy w' (some g)) := fun W hW => fault_calls g (lateP0 p) W n HOK.out hW
  clear HOK
  obtain ⟨h1, h2, h3, h4, h5, h6, h7, h8, h9, h10, h11, h12, h13, h14, h15, h16, h17, h18, h19, h20, h21, h22⟩ := ok
  rw [← HL.out, HD.out] at HP
  have HC : Hid ((lateP0 p).cells = #[.int .i64 p.mtu, .int .i64 (max (p.win / 2) (4 * p.mtu)), .int .i64 0, .int .i64 (min (2 * p.rto) 600), .int .i64 p.mean, .int .i64 p.spread, .int .i64 p.faults, .bool p.up, .bool p.sure, .int .i64 p.mtu, .bool p.meas, .bool p.beat, .int .u64 p.nonce, .int .i64 p.since]) := rfl
  generalize lateP0 p = p0 at *
  generalize lateP p = p1 at *
  generalize downP p = dn at *
  clear HL HD
  obtain ⟨win, slow, part, rto, mean, spread, faults, up, sure, mtu, meas, beat, nonce, since⟩ := p
  simp only at h1 h2 h3 h4 h9 h10 HC
  clear h5 h6 h7 h8 h11 h12 h13 h14 h15 h16 h17 h18 h19 h20 h21 h22
  obtain ⟨c0, c1, c2, c3, c4, c5, c6, c7, c8, c9, c10, c11, c12, c13, hf⟩ := h.facts
  have H := hid h; clear h
  by_cases hr : 600 < 2 * rto
  all_goals
    go_enter Try.func16, Try.ntmps16
    go_wp2_with (first | (go_at_call 28; refine (cut_calls g _ win mtu (by assumption) (by assumption) h1 h2 h3 h4).mono ?_; rintro e w' ⟨rfl, k, rfl⟩) | (go_at_call 17; refine Calls.mono (HP.out _ ?_) ?_; (focus (refine IsP.of (hs (hs (hs (hs (w := w.drewN k) H.out)))) ?_; rw [HC.out]; simp [PR.cells]; omega)); rintro e w' ⟨rfl, hI, hg⟩))
    all_goals (go_ret2; exact ⟨rfl, hI, grown_trans (gs (gs (gs (gs (grown_drewN (World.grownBy.refl _ _) k))))) hg⟩)

theorem beat_calls (g : Nat) (p : PR) (w : World) (nonce now : Int) (h : IsP w g 65 p) (h0 : 0 ≤ now) (h1 : now ≤ 1099511627776) :
    Calls Try.prog 23 #[.pointer (some ⟨g, 0, none⟩), .int .u64 nonce, .int .i64 now] w fun e w' => e = .returned (.int .i64 0) ∧ IsP w' g 65 (beatP nonce now p) ∧ w.grownBy w' (some g) := by
  obtain ⟨win, slow, part, rto, mean, spread, faults, up, sure, mtu, meas, beat, nonce0, since⟩ := p
  obtain ⟨c0, c1, c2, c3, c4, c5, c6, c7, c8, c9, c10, c11, c12, c13, hf⟩ := h.facts
  have H := hid h; clear h
  go_enter Try.func23, Try.ntmps23
  go_wp2
  go_ret
  exact ⟨rfl, IsP.of (hs (hs (hs H.out))) (by simp [PR.cells, beatP]), gs (gs (gs (World.grownBy.refl _ _)))⟩
theorem beat_bad (g : Nat) (w : World) (nonce now : Int) (h : now < 0 ∨ 1099511627776 < now) :
    Calls Try.prog 23 #[.pointer (some ⟨g, 0, none⟩), .int .u64 nonce, .int .i64 now] w fun e w' => e = .returned (.int .i64 2) ∧ w = w' := by
  rcases h with h | h
  · go_enter Try.func23, Try.ntmps23
    go_wp2
    go_ret
    exact ⟨rfl, rfl⟩
  · have h' : ¬ now < 0 := by omega
    go_enter Try.func23, Try.ntmps23
    go_wp2
    go_ret
    exact ⟨rfl, rfl⟩

end Go.Proofs.Ytopcokjfgldblaa
