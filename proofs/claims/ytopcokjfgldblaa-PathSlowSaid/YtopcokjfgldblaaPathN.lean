/-
  LAYER 15, WALK: PathSlow.
-/
import Derived.Test.YtopcokjfgldblaaPathK
import Derived.LoopTactic
set_option linter.unusedVariables false
set_option linter.unusedSimpArgs false
namespace Go.Proofs.Ytopcokjfgldblaa
open Go.RowKit

attribute [local go_sem] fw0 fw1 fw2 fw3 fw4 fw5 fw6 fw7 fw8

theorem way_wsp (g : Nat) (p : PR) (w : World) (h : IsP w g 65 p) (a b c : Int) (ha : p.win = a) (hb : p.slow = b) (hc : p.part = c) :
    Calls Try.prog 13 #[.pointer (some ⟨g, 0, none⟩)] w fun e w' => (∃ a3 a4 a5 a6 b7 b8, e = .returned (.agg #[.int .i64 a, .int .i64 b, .int .i64 c, .int .i64 a3, .int .i64 a4, .int .i64 a5, .int .i64 a6, .bool b7, .bool b8])) ∧ Below w.heap.size w w' :=
  (stands_way g p w h).mono fun e w' ⟨he, hb'⟩ => by
    rw [ha, hb, hc] at he
    exact ⟨⟨_, _, _, _, _, _, he⟩, hb'⟩

set_option maxHeartbeats 4000000 in
set_option maxRecDepth 100000 in
theorem PathSlow_calls (x n : Int) (hx0 : 0 ≤ x) (hx1 : x ≤ 65535) (hn0 : 0 ≤ n) (hn1 : n ≤ 255) (w : World) : Calls Try.prog 5 #[.int .u16 x, .int .u8 n] w fun e w' => e = .returned (.bool true) ∧ Below w.heap.size w w' := by
  obtain ⟨m, HM, m0, m1⟩ : ∃ m : Int, Hid (m = 64 + x % 400) ∧ 64 ≤ m ∧ m ≤ 463 := ⟨_, hid rfl, by omega, by omega⟩
  have k0 : ∀ W, Calls Try.prog 11 #[.int .i64 (64 + x % 400)] W fun e w' => e = .returned (.tuple #[.pointer (some ⟨W.heap.size, 0, none⟩), .int .i64 0]) ∧ IsP w' W.heap.size 65 (newP m) ∧ Below W.heap.size W w' := fun W => by rw [← HM.out]; exact new_calls m W (by omega) (by omega)
  have K0 := hid k0; clear k0
  go_enter Try.func5, Try.ntmps5
  go_wp2_with (go_at_call 11; refine Calls.mono (K0.out _) ?_; rintro e w1 ⟨rfl, hI1, hB1⟩)
  clear K0
  generalize hMM : 64 + x % 400 = m' at *
  obtain rfl : m = m' := HM.out
  clear hMM
  go_loopw [8] (fun i wr => ∃ (k : Nat) (p : PR), (k : Int) ≤ n ∧ i = .int .i64 k ∧ IsP wr w.heap.size 65 p ∧ p.Ok k ∧ p.mtu = m ∧ p.slow = 8192 ∧ Below w.heap.size w wr) (fun i _ => 256 - (intOf i).toNat)
  case atStart => exact ⟨0, newP m, by omega, rfl, hI1, PR.Ok.new m (by omega) (by omega), rfl, rfl, hB1⟩
  case round =>
    obtain ⟨k, p, hk, rfl, hI, ok, hmt, hsl, hB⟩ := hrel
    clear hI1 hB1
    have hz := hB.size
    have HMT := hid hmt; have HSL := hid hsl
    clear hmt hsl
    have w0 : 64 ≤ p.win := by have := ok.win0; have := ok.mtu0; omega
    have w1' : p.win ≤ 32768 := ok.win1
    obtain ⟨V, HV⟩ : ∃ V, Hid (V = p.win) := ⟨_, hid rfl⟩
    obtain ⟨Q, HQ⟩ : ∃ Q, Hid (Q = p.part) := ⟨_, hid rfl⟩
    rw [← HV.out] at w0 w1'
    by_cases hlt : (k : Int) < n
    · have OK := hid ok; clear ok
      have HB := hid hB; clear hB
      have hk3 : (k : Int) < 255 := by omega
      rcases Int.lt_or_le 8192 V with hv | hv
      · have hg : growP m true 8192 p = { p with part := p.part + m } := grow_d (by omega) (by rw [← HV.out, HSL.out]; omega) (by rw [← HV.out]; omega)
        have HG := hid hg; clear hg
        have kG : ∀ W, IsP W w.heap.size 65 p → Calls Try.prog 18 #[.pointer (some ⟨w.heap.size, 0, none⟩), .int .i64 m, .bool true, .int .i64 8192] W fun e w' => e = .returned (.int .i64 0) ∧ IsP w' w.heap.size 65 (growP m true 8192 p) ∧ W.grownBy w' (some w.heap.size) := fun W h => grow_calls _ p W k OK.out h m 8192 true (by omega) (by omega) (by omega) (by omega)
        have q1 : Hid ((growP m true 8192 p).win = V) := by rw [HG.out]; exact HV.out.symm
        have q2 : Hid ((growP m true 8192 p).slow = 8192) := by rw [HG.out]; exact HSL.out
        have q3 : Hid ((growP m true 8192 p).mtu = m) := by rw [HG.out]; exact HMT.out
        have q4 : Hid ((growP m true 8192 p).Ok ((k + 1 : Nat) : Int)) := by
          have := OK.out.grow m 8192 true (by omega) (by omega) (by omega)
          show PR.Ok _ _
          exact_mod_cast this
        obtain ⟨Q2, HQ2⟩ : ∃ Q2, Hid (Q2 = (growP m true 8192 p).part) := ⟨_, hid rfl⟩
        generalize growP m true 8192 p = p2 at *
        have KG := hid kG; clear kG HG
        have tok1 : True := trivial
        go_wp2_with (first | (go_at_call 13; have _t := tok1; refine Calls.mono (way_wsp _ _ _ hI _ _ _ HV.out.symm HSL.out HQ.out.symm) ?_; rintro e w2 ⟨⟨a3, a4, a5, a6, b7, b8, rfl⟩, hB2⟩; clear tok1; have hI2 := (hI.kept (grown_below (row := none) hB2) (by simp)).kept (grown_below (row := none) ((Below.refl _ _).alloc (Nat.le_refl _) (.cells #[.int .i64 V, .int .i64 8192, .int .i64 Q, .int .i64 a3, .int .i64 a4, .int .i64 a5, .int .i64 a6, .bool b7, .bool b8] 29))) (by simp)) | (go_at_call 18; refine Calls.mono (KG.out _ hI2) ?_; rintro e w3 ⟨rfl, hI3, hG3⟩; have hl2 : w.heap.size < w2.heap.size := (by have := hI.lt; have := hB2.size; omega); have hl3 : w2.heap.size < w3.heap.size := (by have := hG3.size; simp at this; omega); have d0 : w3.cell? ⟨w2.heap.size, 0, none⟩ = some (.int .i64 V) := hG3.cell (cellOf (heap_alloc_new _ _) rfl) (by simp; omega); have d1 : w3.cell? ⟨w2.heap.size, 1, none⟩ = some (.int .i64 8192) := hG3.cell (cellOf (heap_alloc_new _ _) rfl) (by simp; omega)) | (go_at_call 13; refine Calls.mono (way_wsp _ _ _ hI3 _ _ _ q1.out q2.out HQ2.out.symm) ?_; rintro e w4 ⟨⟨c3, c4, c5, c6, d7, d8, rfl⟩, hB4⟩; have hl4 : w2.heap.size < w4.heap.size := (by have := hB4.size; omega); have e0 : w4.cell? ⟨w2.heap.size, 0, none⟩ = some (.int .i64 V) := (hB4.cell (by exact hl3)).trans d0; have e1 : w4.cell? ⟨w2.heap.size, 1, none⟩ = some (.int .i64 8192) := (hB4.cell (by exact hl3)).trans d1))
        go_roundw
        case rel =>
          have z2 := hB2.size
          have z3 := hG3.size
          have z4 := hB4.size
          simp at z3
          have b2 := (below_then HB.out hB2).alloc (show w.heap.size ≤ w2.heap.size by omega) (.cells #[.int .i64 V, .int .i64 8192, .int .i64 Q, .int .i64 a3, .int .i64 a4, .int .i64 a5, .int .i64 a6, .bool b7, .bool b8] 29)
          have b3 := below_grown b2 hG3 (Nat.le_refl _) (by simp; omega)
          have b4 := (below_then b3 hB4).alloc (show w.heap.size ≤ w4.heap.size by omega)
          refine ⟨k + 1, p2, by omega, by go_num, (hI3.kept (grown_below (row := none) hB4) (by simp)).kept (grown_below (row := none) ((Below.refl _ _).alloc (Nat.le_refl _) _)) (by simp), q4.out, q3.out, q2.out, b4 _⟩
        case measure => simp [intOf]; omega
      · have hg : growP m true V p = { p with win := min (p.win + min m p.mtu) 32768 } := grow_a (by omega) (by rw [← HV.out, HSL.out]; omega) (by rw [← HV.out]; omega)
        have HG := hid hg; clear hg
        have kG : ∀ W, IsP W w.heap.size 65 p → Calls Try.prog 18 #[.pointer (some ⟨w.heap.size, 0, none⟩), .int .i64 m, .bool true, .int .i64 V] W fun e w' => e = .returned (.int .i64 0) ∧ IsP w' w.heap.size 65 (growP m true V p) ∧ W.grownBy w' (some w.heap.size) := fun W h => grow_calls _ p W k OK.out h m V true (by omega) (by omega) (by omega) (by omega)
        have q1 : Hid ((growP m true V p).win = V + m) := by rw [HG.out]; show min (p.win + min m p.mtu) 32768 = _; rw [HMT.out, ← HV.out]; omega
        have q2 : Hid ((growP m true V p).slow = 8192) := by rw [HG.out]; exact HSL.out
        have q3 : Hid ((growP m true V p).mtu = m) := by rw [HG.out]; exact HMT.out
        have q4 : Hid ((growP m true V p).Ok ((k + 1 : Nat) : Int)) := by
          have := OK.out.grow m V true (by omega) (by omega) (by omega)
          show PR.Ok _ _
          exact_mod_cast this
        obtain ⟨Q2, HQ2⟩ : ∃ Q2, Hid (Q2 = (growP m true V p).part) := ⟨_, hid rfl⟩
        generalize growP m true V p = p2 at *
        have KG := hid kG; clear kG HG
        have tok1 : True := trivial
        go_wp2_with (first | (go_at_call 13; have _t := tok1; refine Calls.mono (way_wsp _ _ _ hI _ _ _ HV.out.symm HSL.out HQ.out.symm) ?_; rintro e w2 ⟨⟨a3, a4, a5, a6, b7, b8, rfl⟩, hB2⟩; clear tok1; have hI2 := (hI.kept (grown_below (row := none) hB2) (by simp)).kept (grown_below (row := none) ((Below.refl _ _).alloc (Nat.le_refl _) (.cells #[.int .i64 V, .int .i64 8192, .int .i64 Q, .int .i64 a3, .int .i64 a4, .int .i64 a5, .int .i64 a6, .bool b7, .bool b8] 29))) (by simp)) | (go_at_call 18; refine Calls.mono (KG.out _ hI2) ?_; rintro e w3 ⟨rfl, hI3, hG3⟩; have hl2 : w.heap.size < w2.heap.size := (by have := hI.lt; have := hB2.size; omega); have hl3 : w2.heap.size < w3.heap.size := (by have := hG3.size; simp at this; omega); have d0 : w3.cell? ⟨w2.heap.size, 0, none⟩ = some (.int .i64 V) := hG3.cell (cellOf (heap_alloc_new _ _) rfl) (by simp; omega); have d1 : w3.cell? ⟨w2.heap.size, 1, none⟩ = some (.int .i64 8192) := hG3.cell (cellOf (heap_alloc_new _ _) rfl) (by simp; omega)) | (go_at_call 13; refine Calls.mono (way_wsp _ _ _ hI3 _ _ _ q1.out q2.out HQ2.out.symm) ?_; rintro e w4 ⟨⟨c3, c4, c5, c6, d7, d8, rfl⟩, hB4⟩; have hl4 : w2.heap.size < w4.heap.size := (by have := hB4.size; omega); have e0 : w4.cell? ⟨w2.heap.size, 0, none⟩ = some (.int .i64 V) := (hB4.cell (by exact hl3)).trans d0; have e1 : w4.cell? ⟨w2.heap.size, 1, none⟩ = some (.int .i64 8192) := (hB4.cell (by exact hl3)).trans d1))
        go_roundw
        case rel =>
          have z2 := hB2.size
          have z3 := hG3.size
          have z4 := hB4.size
          simp at z3
          have b2 := (below_then HB.out hB2).alloc (show w.heap.size ≤ w2.heap.size by omega) (.cells #[.int .i64 V, .int .i64 8192, .int .i64 Q, .int .i64 a3, .int .i64 a4, .int .i64 a5, .int .i64 a6, .bool b7, .bool b8] 29)
          have b3 := below_grown b2 hG3 (Nat.le_refl _) (by simp; omega)
          have b4 := (below_then b3 hB4).alloc (show w.heap.size ≤ w4.heap.size by omega)
          refine ⟨k + 1, p2, by omega, by go_num, (hI3.kept (grown_below (row := none) hB4) (by simp)).kept (grown_below (row := none) ((Below.refl _ _).alloc (Nat.le_refl _) _)) (by simp), q4.out, q3.out, q2.out, b4 _⟩
        case measure => simp [intOf]; omega
    · obtain ⟨F, HF, f0, f1⟩ : ∃ F, Hid (F = max (V / 2) (4 * m)) ∧ 0 ≤ F ∧ F ≤ 32768 := ⟨_, hid rfl, by omega, by omega⟩
      have q1 : Hid ((fastP p).win = max (V / 2) (4 * m)) := by show max (p.win / 2) (4 * p.mtu) = _; rw [HMT.out, ← HV.out]
      have q2 : Hid ((fastP p).slow = max (V / 2) (4 * m)) := by show max (p.win / 2) (4 * p.mtu) = _; rw [HMT.out, ← HV.out]
      have q3 : Hid ((fastP p).part = 0) := hid rfl
      have kF : ∀ W, IsP W w.heap.size 65 p → Calls Try.prog 19 #[.pointer (some ⟨w.heap.size, 0, none⟩)] W fun e w' => e = .returned (.int .i64 0) ∧ IsP w' w.heap.size 65 (fastP p) ∧ W.grownBy w' (some w.heap.size) := fun W h => fast_calls _ p W k ok h
      have KF := hid kF; clear kF
      generalize fastP p = p2 at *
      clear ok
      have HB := hid hB; clear hB
      rcases Int.lt_or_le (V / 2) (4 * m) with hv | hv
      all_goals
        have tok1 : True := trivial
        go_wp2_with (first | (go_at_call 13; have _t := tok1; refine Calls.mono (way_wsp _ _ _ hI _ _ _ HV.out.symm HSL.out HQ.out.symm) ?_; rintro e w2 ⟨⟨a3, a4, a5, a6, b7, b8, rfl⟩, hB2⟩; clear tok1; have hI2 := (hI.kept (grown_below (row := none) hB2) (by simp)).kept (grown_below (row := none) ((Below.refl _ _).alloc (Nat.le_refl _) (.cells #[.int .i64 V, .int .i64 8192, .int .i64 Q, .int .i64 a3, .int .i64 a4, .int .i64 a5, .int .i64 a6, .bool b7, .bool b8] 29))) (by simp)) | (go_at_call 19; refine Calls.mono (KF.out _ hI2) ?_; rintro e w3 ⟨rfl, hI3, hG3⟩; have hl2 : w.heap.size < w2.heap.size := (by have := hI.lt; have := hB2.size; omega); have hl3 : w2.heap.size < w3.heap.size := (by have := hG3.size; simp at this; omega); have d0 : w3.cell? ⟨w2.heap.size, 0, none⟩ = some (.int .i64 V) := hG3.cell (cellOf (heap_alloc_new _ _) rfl) (by simp; omega); have d1 : w3.cell? ⟨w2.heap.size, 1, none⟩ = some (.int .i64 8192) := hG3.cell (cellOf (heap_alloc_new _ _) rfl) (by simp; omega)) | (go_at_call 13; refine Calls.mono (way_wsp _ _ _ hI3 _ _ _ q1.out q2.out q3.out) ?_; rintro e w4 ⟨⟨c3, c4, c5, c6, d7, d8, rfl⟩, hB4⟩; have hl4 : w2.heap.size < w4.heap.size := (by have := hB4.size; omega); have e0 : w4.cell? ⟨w2.heap.size, 0, none⟩ = some (.int .i64 V) := (hB4.cell (by exact hl3)).trans d0; have e1 : w4.cell? ⟨w2.heap.size, 1, none⟩ = some (.int .i64 8192) := (hB4.cell (by exact hl3)).trans d1) | (go_at_call 14; refine Calls.mono (live_calls _) ?_; rintro e w5 ⟨rfl, hB5⟩; have g0 : w5.cell? ⟨w2.heap.size, 0, none⟩ = some (.int .i64 V) := (hB5.cell (p := ⟨w2.heap.size, 0, none⟩) (by simp; omega)).trans ((World.cell?_of_block (heap_alloc_old _ _ hl4)).trans e0); have g40 : w5.cell? ⟨w4.heap.size, 0, none⟩ = some (.int .i64 (max (V / 2) (4 * m))) := (hB5.cell (p := ⟨w4.heap.size, 0, none⟩) (by simp)).trans (cellOf (heap_alloc_new _ _) rfl); have g41 : w5.cell? ⟨w4.heap.size, 1, none⟩ = some (.int .i64 (max (V / 2) (4 * m))) := (hB5.cell (p := ⟨w4.heap.size, 1, none⟩) (by simp)).trans (cellOf (heap_alloc_new _ _) rfl); have g42 : w5.cell? ⟨w4.heap.size, 2, none⟩ = some (.int .i64 (0)) := (hB5.cell (p := ⟨w4.heap.size, 2, none⟩) (by simp)).trans (cellOf (heap_alloc_new _ _) rfl)))
        all_goals
          go_ret
          have z2 := hB2.size
          have z3 := hG3.size
          have z4 := hB4.size
          simp at z3
          have b2 := (below_then HB.out hB2).alloc (show w.heap.size ≤ w2.heap.size by omega) (.cells #[.int .i64 V, .int .i64 8192, .int .i64 Q, .int .i64 a3, .int .i64 a4, .int .i64 a5, .int .i64 a6, .bool b7, .bool b8] 29)
          have b3 := below_grown b2 hG3 (Nat.le_refl _) (by simp; omega)
          have b4 := (below_then b3 hB4).alloc (show w.heap.size ≤ w4.heap.size by omega)
          refine ⟨ret_bool ?_, below_then (b4 _) hB5⟩
          trace_state
          simp

end Go.Proofs.Ytopcokjfgldblaa
