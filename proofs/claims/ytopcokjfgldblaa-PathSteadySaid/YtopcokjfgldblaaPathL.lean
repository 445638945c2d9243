/-
  LAYER 15, WALK: PathSteady.
-/
import Derived.Test.YtopcokjfgldblaaPathK
import Derived.LoopTactic
set_option linter.unusedVariables false
set_option linter.unusedSimpArgs false
namespace Go.Proofs.Ytopcokjfgldblaa
open Go.RowKit

attribute [local go_sem] fw0 fw1 fw2 fw3 fw4 fw5 fw6 fw7 fw8
def sp : Nat → Int → Int
  | 0, x => x
  | n + 1, x => sp n x - sp n x / 4
theorem sp_mono (n : Nat) : ∀ x y : Int, 0 ≤ x → x ≤ y → 0 ≤ sp n x ∧ sp n x ≤ sp n y := by
  induction n with
  | zero => intro x y h0 h; exact ⟨h0, h⟩
  | succ n ih => intro x y h0 h; have := ih x y h0 h; simp only [sp]; omega
theorem sp_end (x : Int) (h0 : 0 ≤ x) (h1 : x ≤ 1200) : 0 ≤ sp 59 x ∧ sp 59 x ≤ 3 := by
  have := sp_mono 59 x 1200 h0 h1
  have e : sp 59 1200 = 3 := by decide +kernel
  omega
def stP (t : Int) : Nat → PR
  | 0 => newP 1000
  | k + 1 => sampP t (stP t k)
theorem stP_ok (t : Int) (h0 : 0 ≤ t) : ∀ k, (stP t k).Ok 0
  | 0 => PR.Ok.new 1000 (by decide) (by decide)
  | k + 1 => (stP_ok t h0 k).samp t h0
theorem stP_at (t : Int) (h0 : 0 ≤ t) (h1 : t ≤ 600) : ∀ k, (stP t (k + 1)).meas = true ∧ (stP t (k + 1)).mean = 8 * t ∧ (stP t (k + 1)).spread = sp k (2 * t) ∧ (stP t (k + 1)).rto = min (max (t + sp k (2 * t)) 10) 600
  | 0 => by
    show (sampP t (newP 1000)).meas = true ∧ (sampP t (newP 1000)).mean = 8 * t ∧ (sampP t (newP 1000)).spread = 2 * t ∧ (sampP t (newP 1000)).rto = min (max (t + 2 * t) 10) 600
    rw [samp_f (M := 8 * t) (S := 2 * t) rfl (by omega) (by omega)]
    refine ⟨rfl, rfl, rfl, ?_⟩
    simp only []; omega
  | k + 1 => by
    obtain ⟨a, b, c, d⟩ := stP_at t h0 h1 k
    show (sampP t (stP t (k + 1))).meas = true ∧ (sampP t (stP t (k + 1))).mean = 8 * t ∧ (sampP t (stP t (k + 1))).spread = sp k (2 * t) - sp k (2 * t) / 4 ∧ (sampP t (stP t (k + 1))).rto = min (max (t + (sp k (2 * t) - sp k (2 * t) / 4)) 10) 600
    rw [samp_t (M := 8 * t) (S := sp k (2 * t) - sp k (2 * t) / 4) a (by rw [b]; omega) (by rw [b, c]; omega)]
    refine ⟨rfl, rfl, rfl, ?_⟩
    simp only []; omega

set_option maxHeartbeats 1000000 in
set_option maxRecDepth 100000 in
theorem PathSteady_calls (x : Int) (hx0 : 0 ≤ x) (hx1 : x ≤ 65535) (w : World) : Calls Try.prog 3 #[.int .u16 x] w fun e w' => e = .returned (.bool true) ∧ Below w.heap.size w w' := by
  have t0 : 0 ≤ x % 601 := by omega
  have t1 : x % 601 ≤ 600 := by omega
  have k0 : ∀ W, Calls Try.prog 11 #[.int .i64 1000] W fun e w' => e = .returned (.tuple #[.pointer (some ⟨W.heap.size, 0, none⟩), .int .i64 0]) ∧ IsP w' W.heap.size 65 (stP (x % 601) 0) ∧ Below W.heap.size W w' := fun W => new_calls 1000 W (by decide) (by decide)
  have k3 : ∀ W k, IsP W w.heap.size 65 (stP (x % 601) k) → Calls Try.prog 12 #[.pointer (some ⟨w.heap.size, 0, none⟩), .int .i64 (x % 601)] W fun e w' => e = .returned (.int .i64 0) ∧ IsP w' w.heap.size 65 (stP (x % 601) (k + 1)) ∧ W.grownBy w' (some w.heap.size) := fun W k h => samp_calls _ _ W 0 (x % 601) (stP_ok _ t0 k) h t0 (by omega)
  have k1 : ∀ W k, IsP W w.heap.size 65 (stP (x % 601) (k + 1)) → Calls Try.prog 13 #[.pointer (some ⟨w.heap.size, 0, none⟩)] W fun e w' => (∃ a0 a1 a2 a6 b7 b8, e = .returned (.agg #[.int .i64 a0, .int .i64 a1, .int .i64 a2, .int .i64 (min (max (x % 601 + sp k (2 * (x % 601))) 10) 600), .int .i64 (8 * (x % 601)), .int .i64 (sp k (2 * (x % 601))), .int .i64 a6, .bool b7, .bool b8])) ∧ Below W.heap.size W w' := fun W k h => (stands_way _ _ W h).mono fun e w' ⟨he, hb⟩ => by
    obtain ⟨_, q1, q2, q3⟩ := stP_at (x % 601) t0 t1 k
    rw [q1, q2, q3] at he
    exact ⟨⟨_, _, _, _, _, _, he⟩, hb⟩
  have ksp := sp_end (2 * (x % 601)) (by omega) (by omega)
  have K0 := hid k0; have K1 := hid k1; have K3 := hid k3
  have KSP := hid ksp
  clear k0 k1 k3 ksp
  go_enter Try.func3, Try.ntmps3
  go_wp2_with (go_at_call 11; refine Calls.mono (K0.out _) ?_; rintro e w1 ⟨rfl, hI1, hB1⟩)
  generalize hT : x % 601 = t at *
  have HT := hid hT; clear hT
  go_loopw [6] (fun i wr => ∃ k : Nat, k ≤ 60 ∧ i = .int .i64 k ∧ IsP wr w.heap.size 65 (stP t k) ∧ Below w.heap.size w wr) (fun i _ => 60 - (intOf i).toNat)
  case atStart => exact ⟨0, by omega, rfl, hI1, hB1⟩
  case round =>
    obtain ⟨k, hk, rfl, hI, hB⟩ := hrel
    have hz := hB.size
    by_cases hlt : k < 60
    · go_wp2_with (first | (go_at_call 12; refine Calls.mono (K3.out _ k hI) ?_; rintro e w2 ⟨rfl, hI2, hG2⟩) | (go_at_call 13; refine Calls.mono (K1.out _ k hI2) ?_; rintro e w3 ⟨⟨a0, a1, a2, a6, b7, b8, rfl⟩, hB3⟩))
      go_roundw
      case rel =>
        have hz2 := hG2.size
        have b2 := below_grown hB hG2 (Nat.le_refl _) hz
        exact ⟨k + 1, by omega, by go_num, hI2.kept (grown_below (row := none) hB3) (by simp), below_then b2 hB3⟩
      case measure => simp [intOf]; omega
    · obtain rfl : k = 60 := by omega
      have s1 : 0 ≤ sp 59 (2 * t) := KSP.out.1
      have s2 : sp 59 (2 * t) ≤ 3 := KSP.out.2
      go_wp2_with (first | (go_at_call 13; refine Calls.mono (K1.out _ 59 hI) ?_; rintro e w3 ⟨⟨a0, a1, a2, a6, b7, b8, rfl⟩, hB3⟩) | (go_at_call 14; refine Calls.mono (live_calls _) ?_; rintro e w4 ⟨rfl, hB4⟩; have cc3 := hB4.cell (p := ⟨w3.heap.size, 3, none⟩) (by simp); have cc5 := hB4.cell (p := ⟨w3.heap.size, 5, none⟩) (by simp); simp at cc3 cc5))
      all_goals
        go_ret
        refine ⟨ret_bool ?_, ?_⟩
        · rw [beq_iff_eq]
          (repeat' split at *) <;> omega
        · have z3 := hB3.size
          have b2 := below_then hB hB3
          exact below_then (b2.alloc (by omega) _) hB4
end Go.Proofs.Ytopcokjfgldblaa
