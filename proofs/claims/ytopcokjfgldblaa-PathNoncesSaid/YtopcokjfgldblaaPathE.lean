/-
  LAYER 15, WALKS: Answer, New, Fork, Stands of path.
-/
import Derived.Test.YtopcokjfgldblaaPathC
import Derived.Deep.QuietTactic
import Derived.BigQuiet
import Derived.BigRegion
import Derived.IntWalk
import Derived.StillTailTactics
import Derived.Deep.CutRange
set_option linter.unusedVariables false
set_option linter.unusedSimpArgs false
namespace Go.Proofs.Ytopcokjfgldblaa
open Go.RowKit


theorem answ_bad (g : Nat) (w : World) (nonce now : Int) (h : now < 0 ∨ 1099511627776 < now) :
    Calls Try.prog 24 #[.pointer (some ⟨g, 0, none⟩), .int .u64 nonce, .int .i64 now] w fun e w' => e = .returned (.tuple #[.bool false, .int .i64 2]) ∧ w = w' := by
  have h' : now < 0 ∨ (0 ≤ now ∧ 1099511627776 < now) := by omega
  clear h
  rcases h' with h | ⟨h0, h⟩
  all_goals
    go_enter Try.func24, Try.ntmps24
    go_wp2
    go_ret2
    exact ⟨rfl, rfl⟩

set_option maxHeartbeats 2000000 in
theorem answ_calls (g : Nat) (p : PR) (w : World) (n : Int) (ok : p.Ok n) (h : IsP w g 65 p) (nonce now : Int) (h0 : 0 ≤ now) (h1 : now ≤ 1099511627776) :
    Calls Try.prog 24 #[.pointer (some ⟨g, 0, none⟩), .int .u64 nonce, .int .i64 now] w fun e w' => e = .returned (.tuple #[.bool (answB nonce now p), .int .i64 0]) ∧ IsP w' g 65 (answP nonce now p) ∧ w.grownBy w' (some g) := by
  have OK := hid ok; clear ok
  cases hB : answB nonce now p
  · have HP : Hid (answP nonce now p = p) := by show _ = _; unfold answP; rw [hB]; rfl
    rw [HP.out]
    clear HP
    obtain ⟨win, slow, part, rto, mean, spread, faults, up, sure, mtu, meas, beat, nonce0, since⟩ := p
    obtain ⟨c0, c1, c2, c3, c4, c5, c6, c7, c8, c9, c10, c11, c12, c13, hf⟩ := h.facts
    have H := hid h; clear h
    have hq : beat = false ∨ (beat = true ∧ ¬ nonce = nonce0) ∨ (beat = true ∧ nonce = nonce0 ∧ now < since) := by
      simp [answB] at hB
      cases beat
      · simp
      · by_cases e : nonce = nonce0
        · right; right; exact ⟨rfl, e, hB rfl e⟩
        · right; left; exact ⟨rfl, e⟩
    clear hB
    rcases hq with rfl | ⟨rfl, hq⟩ | ⟨rfl, rfl, hq⟩
    · go_enter Try.func24, Try.ntmps24
      go_wp2_with fail
      go_ret2
      exact ⟨rfl, H.out, World.grownBy.refl _ _⟩
    · go_enter Try.func24, Try.ntmps24
      go_wp2_with fail
      go_ret2
      exact ⟨rfl, H.out, World.grownBy.refl _ _⟩
    · go_enter Try.func24, Try.ntmps24
      go_wp2_with fail
      go_ret2
      exact ⟨rfl, H.out, World.grownBy.refl _ _⟩
  · have HP : Hid (answP nonce now p = sampP (now - p.since) (goodP { p with beat := false, sure := true })) := by show _ = _; unfold answP; rw [hB]; rfl
    rw [HP.out]
    clear HP
    obtain ⟨win, slow, part, rto, mean, spread, faults, up, sure, mtu, meas, beat, nonce0, since⟩ := p
    obtain ⟨c0, c1, c2, c3, c4, c5, c6, c7, c8, c9, c10, c11, c12, c13, hf⟩ := h.facts
    have H := hid h; clear h
    simp [answB] at hB
    obtain ⟨⟨rfl, rfl⟩, hq⟩ := hB
    have s0 := OK.out.since0
    have s1 := OK.out.since1
    simp only at s0 s1
    have OK1 : Hid ((goodP ⟨win, slow, part, rto, mean, spread, faults, up, true, mtu, meas, false, nonce, since⟩).Ok n) := by
      refine PR.Ok.good ?_
      obtain ⟨h1, h2, h3, h4, h5, h6, h7, h8, h9, h10, h11, h12, h13, h14, h15, h16, h17, h18, h19, h20, h21, h22⟩ := OK.out
      constructor <;> (try simp only []) <;> first | assumption | omega
    go_enter Try.func24, Try.ntmps24
    go_wp2_with (first | (go_at_call 15; refine Calls.mono (good_calls g ⟨win, slow, part, rto, mean, spread, faults, up, true, mtu, meas, false, nonce, since⟩ _ (IsP.of (hs (hs H.out)) rfl)) ?_; rintro e w1 ⟨rfl, hI, hG⟩; have d13 : w1.cell? ⟨g, 13, none⟩ = some (.int .i64 since) := cellOf hI rfl; have HI := hid hI; have HG := hid hG; clear hI hG) | (go_at_call 12; refine Calls.mono (samp_calls g _ _ n (now - since) OK1.out HI.out (by omega) (by omega)) ?_; rintro e w2 ⟨rfl, hI2, hG2⟩))
    go_ret2
    exact ⟨rfl, hI2, grown_trans (grown_trans (gs (gs (World.grownBy.refl _ _))) HG.out) hG2⟩

theorem new_bad (m : Int) (w : World) (h : m < 64 ∨ 1500 < m) :
    Calls Try.prog 11 #[.int .i64 m] w fun e w' => e = .returned (.tuple #[.pointer none, .int .i64 2]) ∧ w = w' := by
  have h' : m < 64 ∨ (64 ≤ m ∧ 1500 < m) := by omega
  clear h
  rcases h' with h | ⟨h0, h⟩
  all_goals
    go_enter Try.func11, Try.ntmps11
    go_wp2
    go_ret2
    exact ⟨rfl, rfl⟩
theorem new_calls (m : Int) (w : World) (h0 : 64 ≤ m) (h1 : m ≤ 1500) :
    Calls Try.prog 11 #[.int .i64 m] w fun e w' => e = .returned (.tuple #[.pointer (some ⟨w.heap.size, 0, none⟩), .int .i64 0]) ∧ IsP w' w.heap.size 65 (newP m) ∧ Below w.heap.size w w' := by
  go_enter Try.func11, Try.ntmps11
  go_wp2
  all_goals
    go_ret2
    exact ⟨rfl, IsP.of (heap_alloc_new w _) (by simp [PR.cells, newP] <;> omega), (Below.refl _ _).alloc (Nat.le_refl _) _⟩

theorem stands_calls (g : Nat) (p : PR) (w : World) (h : IsP w g 65 p) :
    Calls Try.prog 13 #[.pointer (some ⟨g, 0, none⟩)] w fun e w' => e = .returned p.way ∧ Below w.heap.size w w' := by
  obtain ⟨win, slow, part, rto, mean, spread, faults, up, sure, mtu, meas, beat, nonce0, since⟩ := p
  obtain ⟨c0, c1, c2, c3, c4, c5, c6, c7, c8, c9, c10, c11, c12, c13, hf⟩ := h.facts
  have hlt := h.lt
  have H := hid h; clear h
  go_enter Try.func13, Try.ntmps13
  go_wp2
  exact bodyPost_ret (v := PR.way ⟨win, slow, part, rto, mean, spread, faults, up, sure, mtu, meas, beat, nonce0, since⟩) (by simp [results, Try.results13, go_sem, PR.way]) rfl ⟨rfl, (Below.refl _ _).alloc (Nat.le_refl _) _⟩

theorem fork_calls (g : Nat) (p : PR) (w : World) (h : IsP w g 65 p) :
    Calls Try.prog 25 #[.pointer (some ⟨g, 0, none⟩)] w fun e w' => e = .returned (.pointer (some ⟨w.heap.size, 0, none⟩)) ∧ IsP w' w.heap.size 65 p ∧ Below w.heap.size w w' := by
  obtain ⟨win, slow, part, rto, mean, spread, faults, up, sure, mtu, meas, beat, nonce0, since⟩ := p
  obtain ⟨c0, c1, c2, c3, c4, c5, c6, c7, c8, c9, c10, c11, c12, c13, hf⟩ := h.facts
  have hlt := h.lt
  have H := hid h; clear h
  go_enter Try.func25, Try.ntmps25
  go_wp2
  go_ret
  exact ⟨rfl, heap_alloc_new w _, (Below.refl _ _).alloc (Nat.le_refl _) _⟩
end Go.Proofs.Ytopcokjfgldblaa
