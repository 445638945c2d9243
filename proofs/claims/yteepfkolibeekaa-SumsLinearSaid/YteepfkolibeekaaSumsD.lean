/-
  WALKS of layer 2: the Internet's sum, the program's and the reference's; Swap.
-/
import Derived.Test.YteepfkolibeekaaProg
import Derived.Test.YteepfkolibeekaaU
import Derived.Test.YteepfkolibeekaaSumsN
import Derived.Test.YteepfkolibeekaaSumsW
set_option linter.unusedVariables false
set_option linter.unusedSimpArgs false
namespace Go.Proofs.Yteepfkolibeekaa
open Go.RowKit

set_option maxHeartbeats 400000 in
theorem round_calls (n : Int) (h0 : 0 ≤ n) (h1 : n < 18446744073709551616) (w : World) :
    Calls Try.prog 24 #[.int .u64 n] w fun e w' => e = .returned (.int .u16 (fold16 n)) ∧ w = w' := by
  generalize hm : fold16 n = m
  have HM := hid hm; clear hm
  go_enter Try.func24, Try.ntmps24
  go_wp2
  go_loop [0] (fun v => ∃ q : Int, 0 ≤ q ∧ q < 18446744073709551616 ∧ v = .int .u64 q ∧ Hid (fold16 q = m)) (fun v => (intOf v).toNat)
  case atStart => exact ⟨n, h0, h1, rfl, HM⟩
  case round =>
    obtain ⟨q, hq0, hq1, rfl, hq⟩ := hrel
    have h16 := and16 q hq0 hq1
    have H16 := hid h16; clear h16
    have hpos : 0 ≤ q / 65536 := Int.ediv_nonneg hq0 (by decide)
    have HF := hid (fold16_step q hq0)
    by_cases hbig : q / 65536 = 0
    · have ht : (q / 65536 != 0) = false := by rw [hbig]; rfl
      go_wp2
      go_ret
      have := fold16_small q hq0 (by omega)
      exact ⟨ret_int (by rw [← hq.out, this]), rfl⟩
    · have ht : (q / 65536 != 0) = true := by rw [bne_iff_ne]; exact hbig
      go_wp2
      go_round
      case rel =>
        refine ⟨q % 65536 + q / 65536, by omega, by omega, ?_, HF.out.trans hq.out⟩
        rw [H16.out, IntKind.wrap_u64, Int.emod_eq_of_lt (by omega) (by omega)]
      case measure =>
        simp only [intOf]
        rw [H16.out, IntKind.wrap_u64, Int.emod_eq_of_lt (by omega) (by omega)]
        omega

set_option maxHeartbeats 800000 in
theorem net_calls (c : Nat) (A : Option Addr) (xs : List Int) (w : World) (hR : Rd w .u8 A xs) (hx : Bytes xs) :
    Calls Try.prog 15 #[.slice A xs.length c] w fun e w' => e = .returned (.int .u16 (net xs)) ∧ w = w' := by
  have hn := hR.len
  have HR := hid hR; clear hR
  have HX := hid hx; clear hx
  have HS := hid (netS_range xs HX.out.at_)
  have HN : Hid (net xs = 65535 - fold16 (netS xs xs.length)) := rfl
  generalize hl : xs.length = n at *
  have HL := hid hl; clear hl
  go_enter Try.func15, Try.ntmps15
  go_wp2
  go_loop [3, 4, 5, 8] (fun s _ _ k => ∃ j : Nat, j ≤ n ∧ k = .int .i64 j ∧ s = .int .u64 (netS xs j)) (fun _ _ _ k => n - (intOf k).toNat)
  case atStart => exact ⟨0, Nat.zero_le _, rfl, rfl⟩
  case round =>
    obtain ⟨j, hj, rfl, rfl⟩ := hrel
    have hs := HS.out j
    by_cases hlt : j < n
    · obtain ⟨b, o, rfl, hbl⟩ := HR.out.form j (by rw [HL.out]; exact hlt)
      have hcj : w.cell? ⟨b, o + j, none⟩ = some (.int .u8 (xs.getD j 0)) := HR.out.cell j (by rw [HL.out]; exact hlt)
      have hxj := HX.out.at_ j
      have HZ : Hid (netS xs (j + 1) = netS xs j + (if j % 2 = 0 then xs.getD j 0 * 256 else xs.getD j 0)) := rfl
      generalize xs.getD j 0 = x at *
      generalize netS xs j = s at *
      by_cases hp : j % 2 = 0
      · have ht : ((j : Int) % 2 == 0) = true := beq_iff_eq.2 (by omega)
        go_wp2
        go_round
        case rel => exact ⟨j + 1, by omega, by go_num, by rw [HZ.out, if_pos hp]⟩
        case measure => simp [intOf]; omega
      · have ht : ((j : Int) % 2 == 0) = false := beq_eq_false_iff_ne.2 (by omega)
        go_wp2
        go_round
        case rel => exact ⟨j + 1, by omega, by go_num, by rw [HZ.out, if_neg hp]⟩
        case measure => simp [intOf]; omega
    · have : j = n := by omega
      subst this
      go_wp2_with fail
      refine (round_calls _ hs.1 (by omega) _).mono ?_
      rintro e w1 ⟨rfl, rfl⟩
      go_wp2
      go_ret
      exact ⟨ret_int (by rw [HN.out, not16 _ (fold16_range _).1 (fold16_range _).2]), rfl⟩

theorem net_calls' (c n : Nat) (A : Option Addr) (xs : List Int) (hl : xs.length = n) (w : World) (hR : Rd w .u8 A xs) (hx : Bytes xs) :
    Calls Try.prog 15 #[.slice A n c] w fun e w' => e = .returned (.int .u16 (net xs)) ∧ w = w' := by subst hl; exact net_calls c A xs w hR hx

set_option maxHeartbeats 400000 in
theorem add_calls (a b : Int) (a0 : 0 ≤ a) (a1 : a ≤ 65535) (b0 : 0 ≤ b) (b1 : b ≤ 65535) (w : World) :
    Calls Try.prog 25 #[.int .u32 a, .int .u32 b] w fun e w' => e = .returned (.int .u32 (fold16 (a + b))) ∧ w = w' := by
  by_cases h : 65535 < a + b
  · have h2 := hid (fold16_over (a + b) h (by omega))
    go_enter Try.func25, Try.ntmps25
    go_wp2
    go_ret
    exact ⟨ret_int (by rw [h2.out]; omega), rfl⟩
  · have h2 := hid (fold16_small (a + b) (by omega) (by omega))
    go_enter Try.func25, Try.ntmps25
    go_wp2
    go_ret
    exact ⟨ret_int (by rw [h2.out]), rfl⟩

set_option maxHeartbeats 400000 in
theorem swap_calls (s o i : Int) (s0 : 0 ≤ s) (s1 : s ≤ 65535) (o0 : 0 ≤ o) (o1 : o ≤ 65535) (i0 : 0 ≤ i) (i1 : i ≤ 65535) (w : World) :
    Calls Try.prog 17 #[.int .u16 s, .int .u16 o, .int .u16 i] w fun e w' => e = .returned (.int .u16 (swp s o i)) ∧ w = w' := by
  have hs := hid (not16 s s0 s1)
  have ho := hid (not16 o o0 o1)
  have hu : Hid (∀ x : Int, 0 ≤ x → x ≤ 65535 → IntKind.u64.wrap x = x) := fun x h0 h1 => by rw [IntKind.wrap_u64]; omega
  go_enter Try.func17, Try.ntmps17
  go_wp2_with fail
  rw [hs.out, ho.out, show IntKind.u64.wrap (IntKind.u64.wrap (IntKind.u64.wrap (65535 - s) + IntKind.u64.wrap (65535 - o)) + i) = 65535 - s + (65535 - o) + i from by simp only [IntKind.wrap_u64]; omega]
  refine (round_calls _ (by omega) (by omega) _).mono ?_
  rintro e w1 ⟨rfl, rfl⟩
  go_wp2
  go_ret
  exact ⟨ret_int (by rw [not16 _ (fold16_range _).1 (fold16_range _).2]; rfl), rfl⟩

set_option maxHeartbeats 400000 in
theorem refswap_calls (s o i : Int) (s0 : 0 ≤ s) (s1 : s ≤ 65535) (o0 : 0 ≤ o) (o1 : o ≤ 65535) (i0 : 0 ≤ i) (i1 : i ≤ 65535) (w : World) :
    Calls Try.prog 18 #[.int .u16 s, .int .u16 o, .int .u16 i] w fun e w' => e = .returned (.int .u16 (swp s o i)) ∧ w = w' := by
  have hf := fold16_range (65535 - s + (65535 - o))
  have hg := fold16_range (fold16 (65535 - s + (65535 - o)) + i)
  have HA := hid (fold16_add (65535 - s + (65535 - o)) i (by omega) i0)
  have HS : Hid (swp s o i = 65535 - fold16 (65535 - s + (65535 - o) + i)) := rfl
  generalize swp s o i = z at *
  go_enter Try.func18, Try.ntmps18
  go_wp2_with fail
  refine (add_calls _ _ (by omega) (by omega) (by omega) (by omega) _).mono ?_
  rintro e w1 ⟨rfl, rfl⟩
  generalize fold16 (65535 - s + (65535 - o)) = f at *
  go_wp2_with fail
  refine (add_calls _ _ (by omega) (by omega) (by omega) (by omega) _).mono ?_
  rintro e w1 ⟨rfl, rfl⟩
  generalize fold16 (f + i) = f2 at *
  go_wp2
  go_ret
  exact ⟨ret_int (by rw [HS.out, HA.out]), rfl⟩

set_option maxHeartbeats 1000000 in
theorem refnet_calls (c : Nat) (A : Option Addr) (xs : List Int) (w : World) (hR : Rd w .u8 A xs) (hx : Bytes xs) :
    Calls Try.prog 16 #[.slice A xs.length c] w fun e w' => e = .returned (.int .u16 (net xs)) ∧ w = w' := by
  have hn := hR.len
  have HR := hid hR; clear hR
  have HX := hid hx; clear hx
  have HS := hid (netS_range xs HX.out.at_)
  have HN : Hid (net xs = 65535 - fold16 (netS xs xs.length)) := rfl
  generalize hl : xs.length = n at *
  have HL := hid hl; clear hl
  go_enter Try.func16, Try.ntmps16
  go_wp2
  go_loop [3, 4, 5] (fun s k _ => ∃ t : Nat, 2 * t ≤ n + 1 ∧ k = .int .i64 (2 * t : Nat) ∧ s = .int .u32 (fold16 (netS xs (min (2 * t) n)))) (fun _ k _ => n + 1 - (intOf k).toNat)
  case atStart => exact ⟨0, by omega, rfl, by simp [netS, fold16]⟩
  case round =>
    obtain ⟨t, ht, rfl, rfl⟩ := hrel
    have hs := HS.out (min (2 * t) n)
    by_cases hlt : 2 * t < n
    · obtain ⟨b, o, rfl, hbl⟩ := HR.out.form (2 * t) (by rw [HL.out]; exact hlt)
      have hc1 : w.cell? ⟨b, o + 2 * t, none⟩ = some (.int .u8 (xs.getD (2 * t) 0)) := HR.out.cell (2 * t) (by rw [HL.out]; exact hlt)
      have hx1 := HX.out.at_ (2 * t)
      have hx2 := HX.out.at_ (2 * t + 1)
      have HZ1 : Hid (netS xs (2 * t + 1) = netS xs (2 * t) + xs.getD (2 * t) 0 * 256) := by
        show netS xs (2 * t) + _ = _; rw [if_pos (by omega)]
      have HZ2 : Hid (netS xs (2 * t + 1 + 1) = netS xs (2 * t + 1) + xs.getD (2 * t + 1) 0) := by
        show netS xs (2 * t + 1) + _ = _; rw [if_neg (by omega)]
      rw [Nat.min_eq_left (by omega)] at hs ⊢
      have hfr := fold16_range (netS xs (2 * t))
      by_cases hlt2 : 2 * t + 1 < n
      · have hc2 : w.cell? ⟨b, o + (2 * t + 1), none⟩ = some (.int .u8 (xs.getD (2 * t + 1) 0)) := HR.out.cell (2 * t + 1) (by rw [HL.out]; exact hlt2)
        have HA := hid (fold16_add (netS xs (2 * t)) (xs.getD (2 * t) 0 * 256 + xs.getD (2 * t + 1) 0) (by omega) (by omega))
        generalize xs.getD (2 * t) 0 = x1 at *
        generalize xs.getD (2 * t + 1) 0 = x2 at *
        generalize hs2 : netS xs (2 * t) = s at *
        generalize hf2 : fold16 s = f at *
        have HF := hid hf2; clear hf2
        have HS2 := hid hs2; clear hs2
        go_wp2_with fail
        refine (add_calls _ _ hfr.1 hfr.2 (by omega) (by omega) _).mono ?_
        rintro e w1 ⟨rfl, rfl⟩
        have HB : Hid (fold16 (f + (x1 * 256 + x2)) = fold16 (netS xs (2 * t + 1 + 1))) := by
          show _ = _
          rw [HA.out, HZ2.out, HZ1.out]; congr 1; omega
        go_wp2
        go_round
        case rel => exact ⟨t + 1, by omega, by go_num, by rw [HB.out, Nat.min_eq_left (by omega)]; rfl⟩
        case measure => simp [intOf]; omega
      · have HA := hid (fold16_add (netS xs (2 * t)) (xs.getD (2 * t) 0 * 256) (by omega) (by omega))
        generalize xs.getD (2 * t) 0 = x1 at *
        generalize hs2 : netS xs (2 * t) = s at *
        generalize hf2 : fold16 s = f at *
        have HF := hid hf2; clear hf2
        have HS2 := hid hs2; clear hs2
        go_wp2_with fail
        refine (add_calls _ _ hfr.1 hfr.2 (by omega) (by omega) _).mono ?_
        rintro e w1 ⟨rfl, rfl⟩
        have HB : Hid (fold16 (f + x1 * 256) = fold16 (netS xs (2 * t + 1))) := by
          show _ = _
          rw [HA.out, HZ1.out]
        go_wp2
        go_round
        case rel => exact ⟨t + 1, by omega, by go_num, by rw [HB.out, show min (2 * (t + 1)) n = 2 * t + 1 from by omega]⟩
        case measure => simp [intOf]; omega
    · rw [Nat.min_eq_right (by omega)]
      have hf := fold16_range (netS xs n)
      generalize fold16 (netS xs n) = f at *
      go_wp2
      go_ret
      exact ⟨ret_int (by rw [HN.out]), rfl⟩
end Go.Proofs.Yteepfkolibeekaa
