/-
  LAYER 15, WALKS: the deeds of the reference's Path, one contract each (Grow, Answer, New, Fork).
-/
import Derived.Test.YtopcokjfgldblaaPathA
import Derived.Test.YtopcokjfgldblaaProg
import Derived.Deep.QuietTactic
import Derived.BigQuiet
import Derived.BigRegion
import Derived.IntWalk
import Derived.LoopTactic
import Derived.StillTailTactics
import Derived.Deep.CutRange
import Derived.Test.YtopcokjfgldblaaPathG
set_option linter.unusedVariables false
set_option linter.unusedSimpArgs false
namespace Go.Proofs.Ytopcokjfgldblaa
open Go.RowKit

theorem rgrow_bad (g : Nat) (w : World) (b f : Int) (m : Bool) (h : b < 0 ∨ 8192 < b ∨ f < 0 ∨ 8192 < f) :
    Calls Try.prog 30 #[.pointer (some ⟨g, 0, none⟩), .int .i64 b, .bool m, .int .i64 f] w fun e w' => e = .returned (.int .i64 2) ∧ w = w' := by
  have h' : b < 0 ∨ (0 ≤ b ∧ 8192 < b) ∨ (0 ≤ b ∧ b ≤ 8192 ∧ f < 0) ∨ (0 ≤ b ∧ b ≤ 8192 ∧ 0 ≤ f ∧ 8192 < f) := by omega
  clear h
  rcases h' with h | ⟨h0, h1⟩ | ⟨h0, h1, h2⟩ | ⟨h0, h1, h2, h3⟩
  all_goals
    go_enter Try.func30, Try.ntmps30
    go_wp2
    go_ret
    exact ⟨rfl, rfl⟩

theorem rgrow_none (g : Nat) (w : World) (b f : Int) (m : Bool) (h0 : 0 ≤ b) (h1 : b ≤ 8192) (h2 : 0 ≤ f) (h3 : f ≤ 8192) (h : m = false ∨ b = 0) :
    Calls Try.prog 30 #[.pointer (some ⟨g, 0, none⟩), .int .i64 b, .bool m, .int .i64 f] w fun e w' => e = .returned (.int .i64 0) ∧ w = w' := by
  cases m
  · clear h
    go_enter Try.func30, Try.ntmps30
    go_wp2
    go_ret
    exact ⟨rfl, rfl⟩
  · have h : b = 0 := by simpa using h
    subst h
    clear h0 h1
    go_enter Try.func30, Try.ntmps30
    go_wp2
    go_ret
    exact ⟨rfl, rfl⟩

set_option maxHeartbeats 2000000 in
theorem rgrow_main (g : Nat) (p : PR) (w : World) (n : Int) (ok : p.Ok n) (h : IsP w g 61 p) (b f : Int) (hb0 : 0 < b) (hb1 : b ≤ 8192) (hf0 : 0 ≤ f) (hf1 : f ≤ 8192) :
    Calls Try.prog 30 #[.pointer (some ⟨g, 0, none⟩), .int .i64 b, .bool true, .int .i64 f] w fun e w' => e = .returned (.int .i64 0) ∧ IsP w' g 61 (growP b true f p) ∧ w.grownBy w' (some g) := by
  obtain ⟨h1, h2, h3, h4, h5, h6, h7, h8, h9, h10, h11, h12, h13, h14, h15, h16, h17, h18, h19, h20, h21, h22⟩ := ok
  obtain ⟨win, slow, part, rto, mean, spread, faults, up, sure, mtu, meas, beat, nonce, since⟩ := p
  simp only at h1 h2 h3 h4 h6 h7 h8
  have h9' : part ≤ 819200000 := by omega
  clear h5 h8 h9 h10 h11 h12 h13 h14 h15 h16 h17 h18 h19 h20 h21 h22
  obtain ⟨c0, c1, c2, c3, c4, c5, c6, c7, c8, c9, c10, c11, c12, c13, hf⟩ := h.facts
  have H := hid h; clear h
  clear c3 c4 c5 c6 c7 c8 c10 c11 c12 c13
  have hb' : ¬ b = 0 := by omega
  by_cases q1 : win ≤ slow
  · by_cases q2 : win ≤ f
    · have HG := hid (@grow_a b f ⟨win, slow, part, rto, mean, spread, faults, up, sure, mtu, meas, beat, nonce, since⟩ hb' q1 q2)
      go_enter Try.func30, Try.ntmps30
      go_wp2
      all_goals
        go_ret
        rw [HG.out]
        refine ⟨rfl, ?_, ?_⟩
        · apply IsP.of
          · repeat (first | exact H.out | apply hs)
          · simp [PR.cells] <;> omega
        · repeat (first | exact World.grownBy.refl _ _ | refine gs ?_ | refine grown_drew ?_ | refine grown_drewN ?_ _)
    · have HG := hid (@grow_b b f ⟨win, slow, part, rto, mean, spread, faults, up, sure, mtu, meas, beat, nonce, since⟩ hb' q1 q2)
      have q2' : f < win := by omega
      go_enter Try.func30, Try.ntmps30
      go_wp2
      all_goals
        go_ret
        rw [HG.out]
        refine ⟨rfl, ?_, ?_⟩
        · apply IsP.of
          · repeat (first | exact H.out | apply hs)
          · simp [PR.cells] <;> omega
        · repeat (first | exact World.grownBy.refl _ _ | refine gs ?_ | refine grown_drew ?_ | refine grown_drewN ?_ _)
  · have q1' : slow < win := by omega
    by_cases q2 : win ≤ part + b ∧ win ≤ f
    · obtain ⟨q2, q3⟩ := q2
      have HG := hid (@grow_c b f ⟨win, slow, part, rto, mean, spread, faults, up, sure, mtu, meas, beat, nonce, since⟩ hb' q1 q2 q3)
      go_enter Try.func30, Try.ntmps30
      go_wp2
      all_goals
        go_ret
        rw [HG.out]
        refine ⟨rfl, ?_, ?_⟩
        · apply IsP.of
          · repeat (first | exact H.out | apply hs)
          · simp [PR.cells] <;> omega
        · repeat (first | exact World.grownBy.refl _ _ | refine gs ?_ | refine grown_drew ?_ | refine grown_drewN ?_ _)
    · have HG := hid (@grow_d b f ⟨win, slow, part, rto, mean, spread, faults, up, sure, mtu, meas, beat, nonce, since⟩ hb' q1 q2)
      have q3 : part + b < win ∨ (win ≤ part + b ∧ f < win) := by omega
      clear q2
      rcases q3 with q3 | ⟨q3, q4⟩
      all_goals
        go_enter Try.func30, Try.ntmps30
        go_wp2
        all_goals
          go_ret
          rw [HG.out]
          refine ⟨rfl, ?_, ?_⟩
          · apply IsP.of
            · repeat (first | exact H.out | apply hs)
            · simp [PR.cells] <;> omega
          · repeat (first | exact World.grownBy.refl _ _ | refine gs ?_ | refine grown_drew ?_ | refine grown_drewN ?_ _)

theorem rgrow_calls (g : Nat) (p : PR) (w : World) (n : Int) (ok : p.Ok n) (h : IsP w g 61 p) (b f : Int) (m : Bool) (hb0 : 0 ≤ b) (hb1 : b ≤ 8192) (hf0 : 0 ≤ f) (hf1 : f ≤ 8192) :
    Calls Try.prog 30 #[.pointer (some ⟨g, 0, none⟩), .int .i64 b, .bool m, .int .i64 f] w fun e w' => e = .returned (.int .i64 0) ∧ IsP w' g 61 (growP b m f p) ∧ w.grownBy w' (some g) := by
  by_cases hm : m = false ∨ b = 0
  · rw [grow_n hm]
    exact (rgrow_none g w b f m hb0 hb1 hf0 hf1 hm).mono fun e w' ⟨he, hw⟩ => ⟨he, hw ▸ h, hw ▸ World.grownBy.refl _ _⟩
  · obtain rfl : m = true := by cases m <;> simp at hm ⊢
    exact rgrow_main g p w n ok h b f (by simp at hm; omega) hb1 hf0 hf1

set_option maxHeartbeats 2000000 in
theorem ransw_calls (g : Nat) (p : PR) (w : World) (n : Int) (ok : p.Ok n) (h : IsP w g 61 p) (nonce now : Int) (h0 : 0 ≤ now) (h1 : now ≤ 1099511627776) :
    Calls Try.prog 36 #[.pointer (some ⟨g, 0, none⟩), .int .u64 nonce, .int .i64 now] w fun e w' => e = .returned (.tuple #[.bool (answB nonce now p), .int .i64 0]) ∧ IsP w' g 61 (answP nonce now p) ∧ w.grownBy w' (some g) := by
  have OK := hid ok; clear ok
  cases hB : answB nonce now p
  · have HP : Hid (answP nonce now p = p) := by show _ = _; unfold answP; rw [hB]; rfl
    rw [HP.out]
    clear HP
    obtain ⟨win, slow, part, rto, mean, spread, faults, up, sure, mtu, meas, beat, nonce0, since⟩ := p
    obtain ⟨c0, c1, c2, c3, c4, c5, c6, c7, c8, c9, c10, c11, c12, c13, hf⟩ := h.facts
    have H := hid h; clear h
    have hq : beat = false ∨ (beat = true ∧ ¬ nonce = nonce0) ∨ (beat = true ∧ nonce = nonce0 ∧ now < since) := by
      simp [answB] at hB
      cases beat
      · simp
      · by_cases e : nonce = nonce0
        · right; right; exact ⟨rfl, e, hB rfl e⟩
        · right; left; exact ⟨rfl, e⟩
    clear hB
    rcases hq with rfl | ⟨rfl, hq⟩ | ⟨rfl, rfl, hq⟩
    · go_enter Try.func36, Try.ntmps36
      go_wp2_with fail
      go_ret2
      exact ⟨rfl, H.out, World.grownBy.refl _ _⟩
    · go_enter Try.func36, Try.ntmps36
      go_wp2_with fail
      go_ret2
      exact ⟨rfl, H.out, World.grownBy.refl _ _⟩
    · go_enter Try.func36, Try.ntmps36
      go_wp2_with fail
      go_ret2
      exact ⟨rfl, H.out, World.grownBy.refl _ _⟩
  · have HP : Hid (answP nonce now p = sampP (now - p.since) (goodP { p with beat := false, sure := true })) := by show _ = _; unfold answP; rw [hB]; rfl
    rw [HP.out]
    clear HP
    obtain ⟨win, slow, part, rto, mean, spread, faults, up, sure, mtu, meas, beat, nonce0, since⟩ := p
    obtain ⟨c0, c1, c2, c3, c4, c5, c6, c7, c8, c9, c10, c11, c12, c13, hf⟩ := h.facts
    have H := hid h; clear h
    simp [answB] at hB
    obtain ⟨⟨rfl, rfl⟩, hq⟩ := hB
    have s0 := OK.out.since0
    have s1 := OK.out.since1
    simp only at s0 s1
    have OK1 : Hid ((goodP ⟨win, slow, part, rto, mean, spread, faults, up, true, mtu, meas, false, nonce, since⟩).Ok n) := by
      refine PR.Ok.good ?_
      obtain ⟨h1, h2, h3, h4, h5, h6, h7, h8, h9, h10, h11, h12, h13, h14, h15, h16, h17, h18, h19, h20, h21, h22⟩ := OK.out
      constructor <;> (try simp only []) <;> first | assumption | omega
    go_enter Try.func36, Try.ntmps36
    go_wp2_with (first | (go_at_call 34; refine Calls.mono (rgood_calls g ⟨win, slow, part, rto, mean, spread, faults, up, true, mtu, meas, false, nonce, since⟩ _ (IsP.of (hs (hs H.out)) rfl)) ?_; rintro e w1 ⟨rfl, hI, hG⟩; have d13 : w1.cell? ⟨g, 13, none⟩ = some (.int .i64 since) := cellOf hI rfl; have HI := hid hI; have HG := hid hG; clear hI hG) | (go_at_call 29; refine Calls.mono (rsamp_calls g _ _ n OK1.out HI.out (now - since) (by omega) (by omega)) ?_; rintro e w2 ⟨rfl, hI2, hG2⟩))
    go_ret2
    exact ⟨rfl, hI2, grown_trans (grown_trans (gs (gs (World.grownBy.refl _ _))) HG.out) hG2⟩

theorem rnew_bad (m : Int) (w : World) (h : m < 64 ∨ 1500 < m) :
    Calls Try.prog 21 #[.int .i64 m] w fun e w' => e = .returned (.tuple #[.pointer none, .int .i64 2]) ∧ w = w' := by
  have h' : m < 64 ∨ (64 ≤ m ∧ 1500 < m) := by omega
  clear h
  rcases h' with h | ⟨h0, h⟩
  all_goals
    go_enter Try.func21, Try.ntmps21
    go_wp2
    go_ret2
    exact ⟨rfl, rfl⟩
theorem rnew_calls (m : Int) (w : World) (h0 : 64 ≤ m) (h1 : m ≤ 1500) :
    Calls Try.prog 21 #[.int .i64 m] w fun e w' => e = .returned (.tuple #[.pointer (some ⟨w.heap.size, 0, none⟩), .int .i64 0]) ∧ IsP w' w.heap.size 61 (newP m) ∧ Below w.heap.size w w' := by
  go_enter Try.func21, Try.ntmps21
  go_wp2
  all_goals
    go_ret2
    exact ⟨rfl, IsP.of (heap_alloc_new w _) (by simp [PR.cells, newP] <;> omega), (Below.refl _ _).alloc (Nat.le_refl _) _⟩

theorem rfork_calls (g : Nat) (p : PR) (w : World) (h : IsP w g 61 p) :
    Calls Try.prog 26 #[.pointer (some ⟨g, 0, none⟩)] w fun e w' => e = .returned (.pointer (some ⟨w.heap.size, 0, none⟩)) ∧ IsP w' w.heap.size 61 p ∧ Below w.heap.size w w' := by
  obtain ⟨win, slow, part, rto, mean, spread, faults, up, sure, mtu, meas, beat, nonce0, since⟩ := p
  obtain ⟨c0, c1, c2, c3, c4, c5, c6, c7, c8, c9, c10, c11, c12, c13, hf⟩ := h.facts
  have hlt := h.lt
  have H := hid h; clear h
  go_enter Try.func26, Try.ntmps26
  go_wp2
  go_ret
  exact ⟨rfl, heap_alloc_new w _, (Below.refl _ _).alloc (Nat.le_refl _) _⟩
end Go.Proofs.Ytopcokjfgldblaa
