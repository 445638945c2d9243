/-
  LAYER 15, WALKS: the deeds of the reference's Path, one contract each.
-/
import Derived.Test.YtopcokjfgldblaaPathA
import Derived.Test.YtopcokjfgldblaaProg
import Derived.Deep.QuietTactic
import Derived.BigQuiet
import Derived.BigRegion
import Derived.IntWalk
import Derived.LoopTactic
import Derived.StillTailTactics
import Derived.Deep.CutRange
set_option linter.unusedVariables false
set_option linter.unusedSimpArgs false
namespace Go.Proofs.Ytopcokjfgldblaa
open Go.RowKit

theorem down_calls (n d : Int) (w : World) (h0 : 0 ≤ n) (h1 : n ≤ 4611686018427387904) (hd : d = 4 ∨ d = 8) :
    Calls Try.prog 37 #[.int .i64 n, .int .i64 d] w fun e w' => e = .returned (.int .i64 (n / d)) ∧ w = w' := by
  have h2 : ¬ n < 0 := by omega
  rcases hd with rfl | rfl
  all_goals
    go_enter Try.func37, Try.ntmps37
    go_wp2
    go_loop [5] (fun q => q = .int .i64 0) (fun _ => 0)
    case atStart => rfl
    case round =>
      subst hrel
      go_wp2
      go_ret
      exact ⟨rfl, rfl⟩

theorem rgood_calls (g : Nat) (p : PR) (w : World) (h : IsP w g 61 p) :
    Calls Try.prog 34 #[.pointer (some ⟨g, 0, none⟩)] w fun e w' => e = .returned (.int .i64 0) ∧ IsP w' g 61 (goodP p) ∧ w.grownBy w' (some g) := by
  obtain ⟨win, slow, part, rto, mean, spread, faults, up, sure, mtu, meas, beat, nonce0, since⟩ := p
  obtain ⟨c0, c1, c2, c3, c4, c5, c6, c7, c8, c9, c10, c11, c12, c13, hf⟩ := h.facts
  have H := hid h; clear h
  go_enter Try.func34, Try.ntmps34
  go_wp2
  go_ret
  refine ⟨rfl, ?_, ?_⟩
  · apply IsP.of
    · repeat (first | exact H.out | apply hs)
    · simp [PR.cells, goodP]
  · repeat (first | exact World.grownBy.refl _ _ | refine gs ?_ | refine grown_drew ?_ | refine grown_drewN ?_ _)

theorem rfault_calls (g : Nat) (p : PR) (w : World) (n : Int) (ok : p.Ok n) (h : IsP w g 61 p) :
    Calls Try.prog 33 #[.pointer (some ⟨g, 0, none⟩)] w fun e w' => e = .returned (.tuple #[.bool (downP p), .int .i64 0]) ∧ IsP w' g 61 (faultP p) ∧ w.grownBy w' (some g) := by
  have b0 := ok.faults0
  have b1 := ok.faults1
  have b2 := ok.n1
  clear ok
  obtain ⟨win, slow, part, rto, mean, spread, faults, up, sure, mtu, meas, beat, nonce0, since⟩ := p
  simp only at b0 b1
  obtain ⟨c0, c1, c2, c3, c4, c5, c6, c7, c8, c9, c10, c11, c12, c13, hf⟩ := h.facts
  have H := hid h; clear h
  have b3 : faults ≤ 100000 := by omega
  clear b1 b2
  by_cases hu : 3 < faults + 1
  · have hu' : 3 ≤ faults := by omega
    cases up
    all_goals
      go_enter Try.func33, Try.ntmps33
      go_wp2
      go_ret2
      refine ⟨by simp [downP] <;> omega, ?_, ?_⟩
      · apply IsP.of
        · repeat (first | exact H.out | apply hs)
        · simp [PR.cells, faultP] <;> omega
      · repeat (first | exact World.grownBy.refl _ _ | refine gs ?_ | refine grown_drew ?_ | refine grown_drewN ?_ _)
  · have hu' : ¬ 3 ≤ faults := by omega
    go_enter Try.func33, Try.ntmps33
    go_wp2
    go_ret2
    refine ⟨by simp [downP] <;> omega, ?_, ?_⟩
    · apply IsP.of
      · repeat (first | exact H.out | apply hs)
      · simp [PR.cells, faultP] <;> omega
    · repeat (first | exact World.grownBy.refl _ _ | refine gs ?_ | refine grown_drew ?_ | refine grown_drewN ?_ _)

theorem least_calls (g : Nat) (w : World) (win mtu : Int) (c0 : w.cell? ⟨g, 0, none⟩ = some (.int .i64 win)) (c9 : w.cell? ⟨g, 9, none⟩ = some (.int .i64 mtu)) (h1 : 64 ≤ mtu) (h2 : mtu ≤ 1500) (h3 : mtu ≤ win) (h4 : win ≤ 32768) :
    Calls Try.prog 38 #[.pointer (some ⟨g, 0, none⟩)] w fun e w' => e = .returned (.int .i64 (max (win / 2) (4 * mtu))) ∧ w = w' := by
  go_enter Try.func38, Try.ntmps38
  go_wp2
  all_goals (go_ret; exact ⟨ret_int (by omega), rfl⟩)

theorem rfast_calls (g : Nat) (p : PR) (w : World) (n : Int) (ok : p.Ok n) (h : IsP w g 61 p) :
    Calls Try.prog 31 #[.pointer (some ⟨g, 0, none⟩)] w fun e w' => e = .returned (.int .i64 0) ∧ IsP w' g 61 (fastP p) ∧ w.grownBy w' (some g) := by
  obtain ⟨h1, h2, h3, h4, h5, h6, h7, h8, h9, h10, h11, h12, h13, h14, h15, h16, h17, h18, h19, h20, h21, h22⟩ := ok
  obtain ⟨win, slow, part, rto, mean, spread, faults, up, sure, mtu, meas, beat, nonce0, since⟩ := p
  simp only at h1 h2 h3 h4
  clear h5 h6 h7 h8 h9 h10 h11 h12 h13 h14 h15 h16 h17 h18 h19 h20 h21 h22
  obtain ⟨c0, c1, c2, c3, c4, c5, c6, c7, c8, c9, c10, c11, c12, c13, hf⟩ := h.facts
  have H := hid h; clear h
  go_enter Try.func31, Try.ntmps31
  go_wp2_with (go_at_call 38; refine (least_calls g _ win mtu (by assumption) (by assumption) h1 h2 h3 h4).mono ?_; rintro e w' ⟨rfl, rfl⟩)
  go_ret
  refine ⟨rfl, ?_, ?_⟩
  · apply IsP.of
    · repeat (first | exact H.out | apply hs)
    · simp [PR.cells, fastP, cutP]
  · repeat (first | exact World.grownBy.refl _ _ | refine gs ?_ | refine grown_drew ?_ | refine grown_drewN ?_ _)

theorem rbeat_calls (g : Nat) (p : PR) (w : World) (h : IsP w g 61 p) (nonce now : Int) (h0 : 0 ≤ now) (h1 : now ≤ 1099511627776) :
    Calls Try.prog 35 #[.pointer (some ⟨g, 0, none⟩), .int .u64 nonce, .int .i64 now] w fun e w' => e = .returned (.int .i64 0) ∧ IsP w' g 61 (beatP nonce now p) ∧ w.grownBy w' (some g) := by
  obtain ⟨win, slow, part, rto, mean, spread, faults, up, sure, mtu, meas, beat, nonce0, since⟩ := p
  obtain ⟨c0, c1, c2, c3, c4, c5, c6, c7, c8, c9, c10, c11, c12, c13, hf⟩ := h.facts
  have H := hid h; clear h
  go_enter Try.func35, Try.ntmps35
  go_wp2
  go_ret
  refine ⟨rfl, ?_, ?_⟩
  · apply IsP.of
    · repeat (first | exact H.out | apply hs)
    · simp [PR.cells, beatP]
  · repeat (first | exact World.grownBy.refl _ _ | refine gs ?_ | refine grown_drew ?_ | refine grown_drewN ?_ _)

theorem rbeat_bad (g : Nat) (w : World) (nonce now : Int) (h : now < 0 ∨ 1099511627776 < now) :
    Calls Try.prog 35 #[.pointer (some ⟨g, 0, none⟩), .int .u64 nonce, .int .i64 now] w fun e w' => e = .returned (.int .i64 2) ∧ w = w' := by
  have h' : now < 0 ∨ (0 ≤ now ∧ 1099511627776 < now) := by omega
  clear h
  rcases h' with h | ⟨h0, h⟩
  all_goals
    go_enter Try.func35, Try.ntmps35
    go_wp2
    go_ret
    exact ⟨rfl, rfl⟩

theorem rsamp_bad (g : Nat) (w : World) (nonce now : Int) (h : now < 0 ∨ 1099511627776 < now) :
    Calls Try.prog 29 #[.pointer (some ⟨g, 0, none⟩), .int .i64 now] w fun e w' => e = .returned (.int .i64 2) ∧ w = w' := by
  have h' : now < 0 ∨ (0 ≤ now ∧ 1099511627776 < now) := by omega
  clear h
  rcases h' with h | ⟨h0, h⟩
  all_goals
    go_enter Try.func29, Try.ntmps29
    go_wp2
    go_ret
    exact ⟨rfl, rfl⟩

theorem ransw_bad (g : Nat) (w : World) (nonce now : Int) (h : now < 0 ∨ 1099511627776 < now) :
    Calls Try.prog 36 #[.pointer (some ⟨g, 0, none⟩), .int .u64 nonce, .int .i64 now] w fun e w' => e = .returned (.tuple #[.bool false, .int .i64 2]) ∧ w = w' := by
  have h' : now < 0 ∨ (0 ≤ now ∧ 1099511627776 < now) := by omega
  clear h
  rcases h' with h | ⟨h0, h⟩
  all_goals
    go_enter Try.func36, Try.ntmps36
    go_wp2
    go_ret2
    exact ⟨rfl, rfl⟩

set_option maxHeartbeats 3200000 in
theorem rlate_calls (g : Nat) (p : PR) (w : World) (n : Int) (ok : p.Ok n) (h : IsP w g 61 p) :
    Calls Try.prog 32 #[.pointer (some ⟨g, 0, none⟩)] w fun e w' => e = .returned (.tuple #[.bool (downP p), .int .i64 0]) ∧ IsP w' g 61 (lateP p) ∧ w.grownBy w' (some g) := by
  have HOK := hid ok.late0
  have hd : downP (lateP0 p) = downP p := rfl
  have HD := hid hd; clear hd
  have HL : Hid (lateP p = faultP (lateP0 p)) := hid rfl
  have HP : Hid (∀ W : World, IsP W g 61 (lateP0 p) → Calls Try.prog 33 #[.pointer (some ⟨g, 0, none⟩)] W fun e w' => e = .returned (.tuple #[.bool (downP (lateP0 p)), .int .i64 0]) ∧ IsP w' g 61 (faultP (lateP0 p)) ∧ W.grownBy w' (some g)) := fun W hW => rfault_calls g (lateP0 p) W n HOK.out hW
  clear HOK
  obtain ⟨h1, h2, h3, h4, h5, h6, h7, h8, h9, h10, h11, h12, h13, h14, h15, h16, h17, h18, h19, h20, h21, h22⟩ := ok
  rw [← HL.out, HD.out] at HP
  have HC : Hid ((lateP0 p).cells = #[.int .i64 p.mtu, .int .i64 (max (p.win / 2) (4 * p.mtu)), .int .i64 0, .int .i64 (min (2 * p.rto) 600), .int .i64 p.mean, .int .i64 p.spread, .int .i64 p.faults, .bool p.up, .bool p.sure, .int .i64 p.mtu, .bool p.meas, .bool p.beat, .int .u64 p.nonce, .int .i64 p.since]) := rfl
  generalize lateP0 p = p0 at *
  generalize lateP p = p1 at *
  generalize downP p = dn at *
  clear HL HD
  obtain ⟨win, slow, part, rto, mean, spread, faults, up, sure, mtu, meas, beat, nonce0, since⟩ := p
  simp only at h1 h2 h3 h4 h9 h10 HC
  clear h5 h6 h7 h8 h11 h12 h13 h14 h15 h16 h17 h18 h19 h20 h21 h22
  obtain ⟨c0, c1, c2, c3, c4, c5, c6, c7, c8, c9, c10, c11, c12, c13, hf⟩ := h.facts
  have H := hid h; clear h
  by_cases hr : 600 < rto + rto
  all_goals
    go_enter Try.func32, Try.ntmps32
    go_upto_region 6 with (go_at_call 38; refine (least_calls g _ win mtu (by assumption) (by assumption) h1 h2 h3 h4).mono ?_; rintro e w' ⟨rfl, rfl⟩)
    have W3 : (((w.setCell ⟨g, 1, none⟩ (.int .i64 (max (win / 2) (4 * mtu)))).setCell ⟨g, 0, none⟩ (.int .i64 mtu)).setCell ⟨g, 2, none⟩ (.int .i64 0)).cell? ⟨g, 3, none⟩ = some (.int .i64 rto) := cellOf (hs (hs (hs H.out))) rfl
    have W4 : ∀ i, (((w.setCell ⟨g, 1, none⟩ (.int .i64 (max (win / 2) (4 * mtu)))).setCell ⟨g, 0, none⟩ (.int .i64 mtu)).setCell ⟨g, 2, none⟩ (.int .i64 0)).frozen? ⟨g, i, none⟩ = false := fun i => frozen_of_row _ g i _ _ (hs (hs (hs H.out)))
    have WH : Hid ((((w.setCell ⟨g, 1, none⟩ (.int .i64 (max (win / 2) (4 * mtu)))).setCell ⟨g, 0, none⟩ (.int .i64 mtu)).setCell ⟨g, 2, none⟩ (.int .i64 0)).heap[g]? = _) := hid (hs (hs (hs H.out)))
    have WG : Hid (w.grownBy (((w.setCell ⟨g, 1, none⟩ (.int .i64 (max (win / 2) (4 * mtu)))).setCell ⟨g, 0, none⟩ (.int .i64 mtu)).setCell ⟨g, 2, none⟩ (.int .i64 0)) (some g)) := hid (gs (gs (gs (World.grownBy.refl _ _))))
    generalize (((w.setCell ⟨g, 1, none⟩ (.int .i64 (max (win / 2) (4 * mtu)))).setCell ⟨g, 0, none⟩ (.int .i64 mtu)).setCell ⟨g, 2, none⟩ (.int .i64 0)) = W at *
    clear c0 c1 c2 c3 c4 c5 c6 c7 c8 c9 c10 c11 c12 c13 hf
    have e3 : IntKind.i64.wrap (rto + rto) = rto + rto := IntWalk.i64_in _ (by omega)
    refine wp_region_still_tail 15 (by kernel_rfl) (by kernel_rfl) ?_
    simp only [List.take_succ_cons, List.take_zero, List.drop_succ_cons, List.drop_zero]
    change wpStill _ _ W.drew _ _ _
    repeat still_step
    refine wpStill_nil ?_
    clear e3
    go_wp2_with (go_at_call 33; refine Calls.mono (HP.out _ ?_) ?_; (focus (apply IsP.of; (focus (repeat (first | exact WH.out | apply hs))); rw [HC.out]; simp [PR.cells]; omega)); rintro e w' ⟨rfl, hI, hg⟩)
    go_ret2
    refine ⟨rfl, hI, grown_trans ?_ hg⟩
    repeat (first | exact WG.out | refine gs ?_ | refine grown_drew ?_ | refine grown_drewN ?_ _)

end Go.Proofs.Ytopcokjfgldblaa
