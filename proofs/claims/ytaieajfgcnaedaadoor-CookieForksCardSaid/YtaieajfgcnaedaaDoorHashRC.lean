/-
  LAYER 5, THE REFERENCE's WALKS: schedule.
-/
import Derived.Test.YtaieajfgcnaedaaDoorHashRA
import Derived.Test.YtaieajfgcnaedaaDoorHashRB
import Derived.StillTailTactics
import Derived.BigQuiet
import Derived.BigRegion
import Derived.Deep.RegionHeld3
import Derived.Deep.RegionLaw
import Derived.Deep.QuietTactic
set_option linter.unusedVariables false
set_option linter.unusedSimpArgs false
namespace Go.Proofs.YtaieajfgcnaedaaDoor
open Go.RowKit
attribute [local go_sem] u_xor u_and u_or u_not u_add u_wadd u_sh u_mod u_compl

theorem uw_byte (x : Int) (h0 : 0 ≤ x) (h1 : x < 256) : uw (byteV x) = x := by
  obtain ⟨n, rfl⟩ := Int.eq_ofNat_of_zero_le h0
  unfold uw byteV
  rw [BitVec.ofInt_natCast, BitVec.toNat_ofNat, Nat.mod_eq_of_lt (by omega)]
theorem u_shl (A : BitVec 32) (k : Nat) (c : Int) (hc : c = ((2 ^ k : Nat) : Int)) : uw A * c % 4294967296 = uw (A <<< k) := shl_bv A k c hc
theorem u_shlw (A : BitVec 32) (k : Nat) (c : Int) (hc : c = ((2 ^ k : Nat) : Int)) : IntKind.u32.wrap (uw A * c) = uw (A <<< k) := by rw [IntKind.wrap_u32]; exact u_shl A k c hc
theorem u_wrap (A : BitVec 32) : IntKind.u32.wrap (uw A) = uw A := by rw [IntKind.wrap_u32]; exact u_mod A
theorem own_word {w : World} {base : Nat} {e : TypeId} {g n c : Nat} {ws : List W32} (h : Own w base e .u32 (.slice (some ⟨g, 0, none⟩) n c) (ws.map uw)) (i : Nat) (hi : i < ws.length) : w.cell? ⟨g, i, none⟩ = some (.int .u32 (uw (ws.getD i 0))) := by
  rw [h.cell i (by rw [List.length_map]; exact hi)]
  simp [List.getD_eq_getElem?_getD, hi]
theorem one_word (w : World) (x : Int) : Rd (w.alloc (.cells #[.int .u32 x] 38)) .u32 (some ⟨w.heap.size, 0, none⟩) [x] := Rd.lit rfl (by simp)
set_option maxHeartbeats 12800000 in
set_option maxRecDepth 100000 in
theorem schedule_calls (c : Nat) (A : Option Addr) (xs : List Int) (hx : xs.length = 64) (w : World) (hR : Rd w .u8 A xs) (hb : Bytes xs) (hc : 64 ≤ c) :
    Calls Tryd.prog 36 #[.slice A 64 c] w fun e w' => ∃ v, e = .returned v ∧ Own w' w.heap.size 38 .u32 v ((sched xs 64).map uw) ∧ Below w.heap.size w w' := by
  obtain ⟨b, o, rfl, hlt⟩ := hR.form 0 (by omega)
  have HR := hid hR; have HB := hid hb; have HX := hid hx
  clear hR hb hx
  go_enter Tryd.func36, Tryd.ntmps36
  go_wp2
  have hO0 : Own (w.alloc (.cells #[] 38)) w.heap.size 38 .u32 (.slice (some ⟨w.heap.size, 0, none⟩) 0 0) ((sched xs 0).map uw) := Own.lit w 38 .u32 w.heap.size (Nat.le_refl _) [] #[] 0 rfl rfl (by decide)
  have hB0 : Below w.heap.size w (w.alloc (.cells #[] 38)) := (Below.refl _ _).alloc (Nat.le_refl _) _
  have HO0 := hid hO0; have HB0 := hid hB0
  clear hO0 hB0
  generalize w.alloc (.cells #[] 38) = w1 at *
  go_loopw [3, 4] (fun s3 s4 w' => ∃ k : Nat, k ≤ 16 ∧ s4 = .int .i64 k ∧ Own w' w.heap.size 38 .u32 s3 ((sched xs k).map uw) ∧ Below w.heap.size w w') (fun _ s4 _ => 16 - (intOf s4).toNat)
  case atStart => exact ⟨0, by omega, rfl, HO0.out, HB0.out⟩
  case round =>
    obtain ⟨k, hk, rfl, ho, hbw⟩ := hrel
    have hsl : ((sched xs k).map uw).length = k := by rw [List.length_map, sched_len]
    obtain ⟨A3, c3, rfl, hA3, hR3, hb3⟩ := ho.rd (by rw [hsl]; omega)
    rw [hsl] at ho ⊢
    have HO := hid ho; have HBw := hid hbw
    clear ho hbw hA3 hR3 hb3 HO0 HB0
    by_cases hlt16 : k < 16
    · have hk0 : (0 : Int) ≤ (k : Int) := by omega
      have hk1 : (k : Int) < 16 := by omega
      have HRr := hid (HR.out.below HBw.out)
      have d0 : wr.cell? ⟨b, o + 4 * k, none⟩ = some (.int .u8 (uw (byteV (xs.getD (4 * k) 0)))) := by rw [uw_byte _ (HB.out.at_ _).1 (HB.out.at_ _).2]; exact HRr.out.cell (4 * k) (by rw [HX.out]; omega)
      have d1 : wr.cell? ⟨b, o + (4 * k + 1), none⟩ = some (.int .u8 (uw (byteV (xs.getD (4 * k + 1) 0)))) := by rw [uw_byte _ (HB.out.at_ _).1 (HB.out.at_ _).2]; exact HRr.out.cell (4 * k + 1) (by rw [HX.out]; omega)
      have d2 : wr.cell? ⟨b, o + (4 * k + 2), none⟩ = some (.int .u8 (uw (byteV (xs.getD (4 * k + 2) 0)))) := by rw [uw_byte _ (HB.out.at_ _).1 (HB.out.at_ _).2]; exact HRr.out.cell (4 * k + 2) (by rw [HX.out]; omega)
      have d3 : wr.cell? ⟨b, o + (4 * k + 3), none⟩ = some (.int .u8 (uw (byteV (xs.getD (4 * k + 3) 0)))) := by rw [uw_byte _ (HB.out.at_ _).1 (HB.out.at_ _).2]; exact HRr.out.cell (4 * k + 3) (by rw [HX.out]; omega)
      have HS : Box ((sched xs k).map uw ++ [uw (byteV (xs.getD (4 * k) 0) <<< 24 ||| byteV (xs.getD (4 * k + 1) 0) <<< 16 ||| byteV (xs.getD (4 * k + 2) 0) <<< 8 ||| byteV (xs.getD (4 * k + 3) 0))] = (sched xs (k + 1)).map uw) := ⟨by simp [sched, hlt16, wordAt]⟩
      generalize byteV (xs.getD (4 * k) 0) = B0 at *
      generalize byteV (xs.getD (4 * k + 1) 0) = B1 at *
      generalize byteV (xs.getD (4 * k + 2) 0) = B2 at *
      generalize byteV (xs.getD (4 * k + 3) 0) = B3 at *
      have HZ1 : Hid ((((sched xs k).map uw).length + 1) * 4 ≤ 140737488355328) := hid (by rw [List.length_map, sched_len]; omega)
      have HZ2 : Hid (((sched xs k).map uw).length + 1 ≤ maxLen) := hid (by rw [List.length_map, sched_len]; simp [maxLen]; omega)
      have HZ3 := hid HBw.out.size
      have e24 := u_shlw B0 24 16777216 (by decide)
      have e16 := u_shlw B1 16 65536 (by decide)
      have e8 := u_shlw B2 8 256 (by decide)
      have v0 := u_wrap B0
      have v1 := u_wrap B1
      have v2 := u_wrap B2
      have v3 := u_wrap B3
      go_wp2_with fail
      have i0 : IntKind.i64.wrap (4 * (k : Int)) = 4 * (k : Int) := IntWalk.i64_in _ (by omega)
      have i1 : IntKind.i64.wrap (4 * (k : Int) + 1) = 4 * (k : Int) + 1 := IntWalk.i64_in _ (by omega)
      have i2 : IntKind.i64.wrap (4 * (k : Int) + 2) = 4 * (k : Int) + 2 := IntWalk.i64_in _ (by omega)
      have i3 : IntKind.i64.wrap (4 * (k : Int) + 3) = 4 * (k : Int) + 3 := IntWalk.i64_in _ (by omega)
      have j0 : (4 * (k : Int)).toNat = 4 * k := by omega
      have j1 : (4 * (k : Int) + 1).toNat = 4 * k + 1 := by omega
      have j2 : (4 * (k : Int) + 2).toNat = 4 * k + 2 := by omega
      have j3 : (4 * (k : Int) + 3).toNat = 4 * k + 3 := by omega
      have l0 : (0 : Int) ≤ 4 * (k : Int) := by omega
      have l1 : (0 : Int) ≤ 4 * (k : Int) + 1 := by omega
      have l2 : (0 : Int) ≤ 4 * (k : Int) + 2 := by omega
      have l3 : (0 : Int) ≤ 4 * (k : Int) + 3 := by omega
      have m0 : 4 * (k : Int) < 64 := by omega
      have m1 : 4 * (k : Int) + 1 < 64 := by omega
      have m2 : 4 * (k : Int) + 2 < 64 := by omega
      have m3 : 4 * (k : Int) + 3 < 64 := by omega
      have D0 := hid d0; have D1 := hid d1; have D2 := hid d2; have D3 := hid d3
      obtain ⟨wo, rfl⟩ : ∃ wo : World, wo = wr := ⟨_, rfl⟩
      go_region_held3 (fun w' => w'.cell? ⟨b, o + 4 * k, none⟩ = some (.int .u8 (uw B0)) ∧ w'.cell? ⟨b, o + (4 * k + 1), none⟩ = some (.int .u8 (uw B1)) ∧ w'.cell? ⟨b, o + (4 * k + 2), none⟩ = some (.int .u8 (uw B2)) ∧ w'.cell? ⟨b, o + (4 * k + 3), none⟩ = some (.int .u8 (uw B3))) (first | exact ⟨d0, d1, d2, d3⟩ | exact ⟨g0, g1, g2, g3⟩ | go_keep) (first | (refine step_app2 (by rfl) _ _ 67 38 .u32 4 (by rfl) elemW w.heap.size _ ((sched xs k).map uw) (by rfl) (HO.out.below ((Below.refl _ _).alloc (Nat.le_refl _) _).drew) (some ⟨wo.heap.size, 0, none⟩) 1 1 [uw (B0 <<< 24 ||| B1 <<< 16 ||| B2 <<< 8 ||| B3)] (by rfl) rfl (by simp) ((one_word wo _).below (Below.refl _ _).drew) HZ1.out HZ2.out (Nat.le_trans HZ3.out (by simp)) ?_; intro v7 w7 ho7 hg7 hat7; have hb7 : Below w.heap.size w w7 := below_own (below_then HBw.out ((Below.refl _ _).alloc (Nat.le_refl _) _).drew) hg7 (fun q hq => (HO.out.lt q hq).1); have hbo : Below w.heap.size wo w7 := Below.grown ((Below.refl _ _).alloc HBw.out.size _).drew hg7 (Nat.le_trans HZ3.out (by simp)) (fun q hq => (HO.out.lt q hq).1); have g0 : w7.cell? ⟨b, o + 4 * k, none⟩ = some (.int .u8 (uw B0)) := (hbo.cell (by exact hlt)).trans D0.out; have g1 : w7.cell? ⟨b, o + (4 * k + 1), none⟩ = some (.int .u8 (uw B1)) := (hbo.cell (by exact hlt)).trans D1.out; have g2 : w7.cell? ⟨b, o + (4 * k + 2), none⟩ = some (.int .u8 (uw B2)) := (hbo.cell (by exact hlt)).trans D2.out; have g3 : w7.cell? ⟨b, o + (4 * k + 3), none⟩ = some (.int .u8 (uw B3)) := (hbo.cell (by exact hlt)).trans D3.out))
      rw [HS.out] at ho7
      have HO7 := hid ho7; have HB7 := hid hb7
      clear ho7 hb7 hbo g0 g1 g2 g3 hg7 hat7 i0 i1 i2 i3 j0 j1 j2 j3 l0 l1 l2 l3 m0 m1 m2 m3 e24 e16 e8 v0 v1 v2 v3 d0 d1 d2 d3 HZ1 HZ2 HZ3 D0 D1 D2 D3 HS HO HBw HRr
      go_wp2
      go_roundw
      case rel => exact ⟨k + 1, by omega, by go_num, HO7.out, HB7.out⟩
      case measure => simp [intOf]; omega
    · obtain rfl : k = 16 := by omega
      clear hlt16 hk
      go_wp2_with fail
      obtain ⟨wo, rfl⟩ : ∃ wo : World, wo = wr := ⟨_, rfl⟩
      try rw [show ((16 : Nat) : Int) = 16 from rfl]
      go_loopw [3, 5] (fun s3 s5 w' => ∃ L : Nat, 16 ≤ L ∧ L ≤ 64 ∧ s5 = .int .i64 L ∧ Own w' w.heap.size 38 .u32 s3 ((sched xs L).map uw) ∧ Below w.heap.size w w') (fun _ s5 _ => 64 - (intOf s5).toNat)
      case atStart => exact ⟨16, by omega, by omega, rfl, HO.out, HBw.out⟩
      case round =>
        obtain ⟨L, hL16, hL, rfl, ho, hbw⟩ := hrel
        clear HO HBw
        have hsl : ((sched xs L).map uw).length = L := by rw [List.length_map, sched_len]
        obtain ⟨A4, c4, rfl, hA4, hR4, hb4⟩ := ho.rd (by rw [hsl]; omega)
        obtain ⟨g, o3, rfl, hg⟩ := hR4.form 0 (by rw [hsl]; omega)
        obtain rfl : o3 = 0 := (hb4 _ _ rfl).2
        rw [hsl] at ho ⊢
        have HO := hid ho; have HBw := hid hbw
        clear ho hbw hA4 hR4 hb4 hsl
        by_cases hltL : L < 64
        · obtain ⟨m, rfl⟩ : ∃ m, L = m + 16 := ⟨L - 16, by omega⟩
          have hm1 : (m : Int) < 48 := by omega
          have a16 : wr.cell? ⟨g, m, none⟩ = some (.int .u32 (uw ((sched xs (m + 16)).getD m 0))) := own_word HO.out m (by rw [sched_len]; omega)
          have a15 : wr.cell? ⟨g, m + 1, none⟩ = some (.int .u32 (uw ((sched xs (m + 16)).getD (m + 1) 0))) := own_word HO.out (m + 1) (by rw [sched_len]; omega)
          have a7 : wr.cell? ⟨g, m + 9, none⟩ = some (.int .u32 (uw ((sched xs (m + 16)).getD (m + 9) 0))) := own_word HO.out (m + 9) (by rw [sched_len]; omega)
          have a2 : wr.cell? ⟨g, m + 14, none⟩ = some (.int .u32 (uw ((sched xs (m + 16)).getD (m + 14) 0))) := own_word HO.out (m + 14) (by rw [sched_len]; omega)
          have HS : Box ((sched xs (m + 16)).map uw ++ [uw ((sched xs (m + 16)).getD m 0 + (rotr ((sched xs (m + 16)).getD (m + 1) 0) 7 ^^^ rotr ((sched xs (m + 16)).getD (m + 1) 0) 18 ^^^ (sched xs (m + 16)).getD (m + 1) 0 >>> 3) + (sched xs (m + 16)).getD (m + 9) 0 + (rotr ((sched xs (m + 16)).getD (m + 14) 0) 17 ^^^ rotr ((sched xs (m + 16)).getD (m + 14) 0) 19 ^^^ (sched xs (m + 16)).getD (m + 14) 0 >>> 10))] = (sched xs (m + 16 + 1)).map uw) := ⟨by simp [sched, schedNext, show ¬ m + 16 < 16 by omega]⟩
          have HZ1 : Box ((((sched xs (m + 16)).map uw).length + 1) * 4 ≤ 140737488355328) := ⟨by rw [List.length_map, sched_len]; omega⟩
          have HZ2 : Box (((sched xs (m + 16)).map uw).length + 1 ≤ maxLen) := ⟨by rw [List.length_map, sched_len]; simp [maxLen]; omega⟩
          generalize (sched xs (m + 16)).getD m 0 = q16 at *
          generalize (sched xs (m + 16)).getD (m + 1) 0 = q15 at *
          generalize (sched xs (m + 16)).getD (m + 9) 0 = q7 at *
          generalize (sched xs (m + 16)).getD (m + 14) 0 = q2 at *
          generalize sched xs (m + 16) = WS at *
          go_wp2_with fail
          have e3 := u_shr q15 3 8 (by decide)
          go_quiet (first
            | (go_at_call_of 37 (Value.int IntKind.i64 7); refine Calls.quiet_of ((turn7 q15 _).mono fun e w' h => ⟨h.1, 1, h.2⟩))
            | (go_at_call_of 37 (Value.int IntKind.i64 18); refine Calls.quiet_of ((turn18 q15 _).mono fun e w' h => ⟨h.1, 1, h.2⟩)))
          go_wp2_with fail
          have b16 : (wr.drewN nq).cell? ⟨g, m, none⟩ = some (.int .u32 (uw q16)) := a16
          have b7 : (wr.drewN nq).cell? ⟨g, m + 9, none⟩ = some (.int .u32 (uw q7)) := a7
          have b2 : (wr.drewN nq).cell? ⟨g, m + 14, none⟩ = some (.int .u32 (uw q2)) := a2
          have HO1 : Hid (Own (wr.drewN nq) w.heap.size 38 .u32 _ _) := hid (HO.out.drewN nq)
          have HB1 : Hid (Below w.heap.size w (wr.drewN nq)) := hid (below_drewN HBw.out nq)
          have hg1 : g < (wr.drewN nq).heap.size := hg
          clear a16 a15 a7 a2 HO HBw hg e3
          generalize wr.drewN nq = W1 at *
          have e10 := u_shr q2 10 1024 (by decide)
          go_quiet (first
            | (go_at_call_of 37 (Value.int IntKind.i64 17); refine Calls.quiet_of ((turn17 q2 _).mono fun e w' h => ⟨h.1, 1, h.2⟩))
            | (go_at_call_of 37 (Value.int IntKind.i64 19); refine Calls.quiet_of ((turn19 q2 _).mono fun e w' h => ⟨h.1, 1, h.2⟩)))
          go_wp2_with fail
          have c16 : (W1.drewN nq).cell? ⟨g, m, none⟩ = some (.int .u32 (uw q16)) := b16
          have c7 : (W1.drewN nq).cell? ⟨g, m + 9, none⟩ = some (.int .u32 (uw q7)) := b7
          have HO2 : Hid (Own (W1.drewN nq) w.heap.size 38 .u32 _ _) := hid (HO1.out.drewN nq)
          have HB2 : Hid (Below w.heap.size w (W1.drewN nq)) := hid (below_drewN HB1.out nq)
          have hg2 : g < (W1.drewN nq).heap.size := hg1
          clear b16 b7 b2 HO1 HB1 hg1 e10
          generalize W1.drewN nq = W2 at *
          have HZ3 := hid HB2.out.size
          have C16 := hid c16; have C7 := hid c7; have HG2 := hid hg2
          have i1 : (0 : Int) ≤ (m : Int) + 9 := by omega
          have i2 : (m : Int) + 9 < (m : Int) + 16 := by omega
          have i3 : ((m : Int) + 9).toNat = m + 9 := by omega
          have i4 : (m : Int) < (m : Int) + 16 := by omega
          have i5 : (0 : Int) ≤ (m : Int) := by omega
          have e16 : IntKind.i64.wrap (m : Int) = (m : Int) := IntWalk.i64_in _ (by omega)
          have e16' : IntKind.i64.wrap ((m : Int) + 16 - 16) = (m : Int) := by rw [show (m : Int) + 16 - 16 = (m : Int) by omega]; exact e16
          have e7 : IntKind.i64.wrap ((m : Int) + 16 - 7) = (m : Int) + 9 := by rw [show (m : Int) + 16 - 7 = (m : Int) + 9 by omega]; exact IntWalk.i64_in _ (by omega)
          go_region_law (first | (refine step_app2 (by rfl) _ _ 67 38 .u32 4 (by rfl) elemW w.heap.size _ (WS.map uw) (by rfl) (HO2.out.below ((Below.refl _ _).alloc (Nat.le_refl _) _).drew) (some ⟨W2.heap.size, 0, none⟩) 1 1 [uw (q16 + (rotr q15 7 ^^^ rotr q15 18 ^^^ q15 >>> 3) + q7 + (rotr q2 17 ^^^ rotr q2 19 ^^^ q2 >>> 10))] (by rfl) rfl (by simp) ((one_word W2 _).below (Below.refl _ _).drew) HZ1.out HZ2.out (Nat.le_trans HZ3.out (by simp)) ?_; intro v7 w7 ho7 hg7 hat7))
          all_goals
            have hb7 : Below w.heap.size w w7 := below_own (below_then HB2.out ((Below.refl _ _).alloc (Nat.le_refl _) _).drew) hg7 (fun q hq => (HO2.out.lt q hq).1)
            rw [HS.out] at ho7
            have HO7 := hid ho7; have HB7 := hid hb7
            clear ho7 hb7 hg7 hat7 i1 i2 i3 i4 i5 e16 e16' e7 c16 c7 C16 C7 HZ1 HZ2 HZ3 HS HO2 HB2 hg2 HG2
            go_wp2
            go_roundw
            case rel => exact ⟨m + 16 + 1, by omega, by omega, by go_num, HO7.out, HB7.out⟩
            case measure => simp [intOf]; omega
        · obtain rfl : L = 64 := by omega
          go_wp2
          go_ret
          exact ⟨_, rfl, HO.out, HBw.out⟩
end Go.Proofs.YtaieajfgcnaedaaDoor
