/-
  LAYER 5, THE REFERENCE's WALKS: roots, Whole.
-/
import Derived.Test.YtaieajfgcnaedaaDoorHashH
import Derived.Test.YtaieajfgcnaedaaDoorHashL
set_option linter.unusedVariables false
set_option linter.unusedSimpArgs false
namespace Go.Proofs.YtaieajfgcnaedaaDoor
open Go.RowKit

set_option maxRecDepth 100000 in
theorem roots_calls (w : World) : Calls Tryd.prog 35 #[] w fun e w' => ∃ g, e = .returned (.slice (some ⟨g, 0, none⟩) 64 64) ∧ w.heap.size ≤ g ∧ Rd w' .u32 (some ⟨g, 0, none⟩) (kTab.map uw) ∧ Below w.heap.size w w' := by
  go_enter Tryd.func35, Tryd.ntmps35
  go_wp2
  go_ret
  refine ⟨_, rfl, Nat.le_refl _, ?_, (Below.refl _ _).alloc (Nat.le_refl _) _⟩
  rw [kInts_eq]
  exact Rd.lit rfl (by simp [kInts])
theorem one_byte (w : World) (x : Int) : Rd (w.alloc (.cells #[.int .u8 x] 5)) .u8 (some ⟨w.heap.size, 0, none⟩) [x] := Rd.lit rfl (by simp)
theorem be8_at (n j : Nat) (h : j < 8) : (8 * (n : Int)) / 2 ^ (8 * (7 - j)) % 256 = (be8 (8 * n)).getD j 0 := by
  have h2 : (2 : Int) ^ (8 * (7 - j)) = 256 ^ (7 - j) := by rw [Int.pow_mul]; rfl
  rw [h2]
  simp [be8, List.getD_eq_getElem?_getD, h]
theorem whole_pad (n : Nat) : ∀ k, k ≤ padLen n → ((n + 1 + k) % 64 = 56 ↔ k = padLen n) := by
  intro k hk
  unfold padLen at *
  omega
set_option maxHeartbeats 6400000 in
set_option maxRecDepth 100000 in
theorem whole_calls (c n : Nat) (A : Option Addr) (xs : List Int) (hn : xs.length = n) (w : World) (hR : Rd w .u8 A xs) (hA : A = none → c = 0) (hb : Bytes xs) (hl : n ≤ 140737488354000) :
    Calls Tryd.prog 34 #[.slice A n c] w fun e w' => ∃ v, e = .returned v ∧ Own w' w.heap.size 5 .u8 v (xs ++ padding n) ∧ Below w.heap.size w w' := by
  have HR := hid hR; have HA := hid hA; have HB := hid hb; have HN := hid hn
  clear hR hA hb hn
  go_enter Tryd.func34, Tryd.ntmps34
  go_wp2_with (at_builtin; refine hold ?_)
  refine hid ?_
  refine wpList_app2 rfl _ _ 22 5 .u8 1 rfl elemB w.heap.size _ [] rfl (Own.lit w 5 .u8 w.heap.size (Nat.le_refl _) [] #[] 0 rfl rfl (by decide)) A c n xs rfl HN.out HA.out (HR.out.below ((Below.refl _ _).alloc (Nat.le_refl _) _)) (by simp; omega) (by simp [maxLen]; omega) (by simp) ?_
  intro v1 w1 ho1 hg1 hat1
  have hb1 : Below w.heap.size w w1 := below_own ((Below.refl _ _).alloc (Nat.le_refl _) _) hg1 (fun q hq => Nat.le_of_eq (Option.some.inj hq))
  rw [List.nil_append] at ho1
  have HO1 := hid ho1; have HB1 := hid hb1
  clear ho1 hb1 hg1 hat1
  go_wp2_with (at_builtin; refine hold ?_)
  refine hid ?_
  refine wpList_app2 rfl _ _ 22 5 .u8 1 rfl elemB w.heap.size v1 xs rfl (HO1.out.below ((Below.refl _ _).alloc (Nat.le_refl _) _)) (some ⟨w1.heap.size, 0, none⟩) 1 1 [128] rfl rfl (fun h => by simp at h) (one_byte w1 128) (by rw [HN.out]; omega) (by rw [HN.out]; simp [maxLen]; omega) (by have := HB1.out.size; simp; omega) ?_
  intro v2 w2 ho2 hg2 hat2
  have hb2 : Below w.heap.size w w2 := below_own (below_then HB1.out ((Below.refl _ _).alloc (Nat.le_refl _) _)) hg2 (fun q hq => (HO1.out.lt q hq).1)
  have HO2 := hid ho2; have HB2 := hid hb2
  clear ho2 hb2 hg2 hat2 HO1 HB1
  go_wp2
  go_loopw [3] (fun s3 w' => ∃ k : Nat, k ≤ padLen n ∧ Own w' w.heap.size 5 .u8 s3 (xs ++ ([128] ++ List.replicate k 0)) ∧ Below w.heap.size w w') (fun s3 _ => 64 - (match s3 with | .slice _ l _ => l - n - 1 | _ => 0))
  case atStart => exact ⟨0, Nat.zero_le _, by simpa using HO2.out, HB2.out⟩
  case round =>
    obtain ⟨k, hk, ho, hbw⟩ := hrel
    have hpl := padLen_lt n
    obtain ⟨A3, c3, rfl, hA3, hR3, hb3⟩ := ho.rd (by simp [HN.out]; omega)
    have hl3 : (xs ++ ([128] ++ List.replicate k (0 : Int))).length = n + 1 + k := by simp [HN.out]; omega
    rw [hl3] at ho ⊢
    have HO3 := hid ho; have HB3 := hid hbw
    clear ho hbw hA3 hR3 hb3 HO2 HB2
    have hiff := whole_pad n k hk
    obtain ⟨N, hN⟩ : ∃ N, N = n + 1 + k := ⟨_, rfl⟩
    rw [← hN] at hl3 HO3 hiff ⊢
    have hNb : N ≤ 140737488354100 := by omega
    have hnk : N - n - 1 = k := by omega
    have HL3 := hid hl3; have HNE := hid hN
    clear hN hl3
    by_cases hlt : k = padLen n
    · have hb56 : ((N : Int) % 64 != 56) = false := by rw [bne_eq_false_iff_eq]; have := hiff.2 hlt; omega
      have hm8 : IntKind.u64.wrap (n : Int) = (n : Int) := by rw [IntKind.wrap_u64]; omega
      have hm9 : IntKind.u64.wrap ((n : Int) * 8) = 8 * (n : Int) := by rw [IntKind.wrap_u64]; omega
      clear hiff
      have HP0 : Hid ((xs ++ ([128] ++ List.replicate (padLen n) (0 : Int))).length = N) := hid (by rw [← hlt]; exact HL3.out)
      rw [hlt] at HO3
      have hfull : xs ++ padding n = xs ++ ([128] ++ List.replicate (padLen n) (0 : Int)) ++ be8 (8 * n) := by unfold padding; simp
      have HFULL := hid hfull
      clear hfull hlt hnk
      generalize xs ++ ([128] ++ List.replicate (padLen n) (0 : Int)) = P0 at *
      go_wp2
      obtain ⟨wo, rfl⟩ : ∃ wo : World, wo = wr := ⟨_, rfl⟩
      go_loopw [3, 5] (fun s3 s5 w' => ∃ j : Nat, j ≤ 8 ∧ s5 = .int .i64 (7 - (j : Int)) ∧ Own w' w.heap.size 5 .u8 s3 (P0 ++ (be8 (8 * n)).take j) ∧ Below w.heap.size w w') (fun _ s5 _ => (intOf s5 + 1).toNat)
      case atStart => exact ⟨0, by omega, rfl, by simpa using HO3.out, HB3.out⟩
      case round =>
        obtain ⟨j, hj, rfl, ho, hbw⟩ := hrel
        have hl3 : (P0 ++ (be8 (8 * n)).take j).length = N + j := by rw [List.length_append, HP0.out, List.length_take]; show N + min j 8 = _; omega
        obtain ⟨A5, c5, rfl, hA5, hR5, hb5⟩ := ho.rd (by rw [hl3]; omega)
        rw [hl3] at ho ⊢
        have HO5 := hid ho; have HB5 := hid hbw; have HL5 := hid hl3
        clear ho hbw hA5 hR5 hb5 hl3 HO3 HB3
        by_cases hlt : j < 8
        · have a0 : (0 : Int) ≤ 7 - (j : Int) := by omega
          have a1 : (0 : Int) ≤ 8 * (7 - (j : Int)) := by omega
          have a2 : (8 * (7 - (j : Int))).toNat = 8 * (7 - j) := by omega
          obtain ⟨V, hV⟩ : ∃ V, V = (be8 (8 * n)).getD j 0 := ⟨_, rfl⟩
          have hsp : (8 * (n : Int)) / 2 ^ (8 * (7 - j)) % 256 = V := by rw [hV]; exact be8_at n j hlt
          have HTK : Hid (P0 ++ (be8 (8 * n)).take j ++ [V] = P0 ++ (be8 (8 * n)).take (j + 1)) := hid (by
            have hbl : j < (be8 (8 * n)).length := hlt
            show _ = _
            rw [List.append_assoc, List.take_succ_eq_append_getElem hbl, hV]
            simp [List.getD_eq_getElem?_getD, hbl])
          clear hV
          go_wp2_with (at_builtin; refine hold ?_)
          refine hid ?_
          refine wpList_app2 rfl _ _ 22 5 .u8 1 rfl elemB w.heap.size _ (P0 ++ (be8 (8 * n)).take j) rfl (HO5.out.below ((Below.refl _ _).alloc (Nat.le_refl _) _)) (some ⟨wr.heap.size, 0, none⟩) 1 1 [V] rfl rfl (fun h => by simp at h) (one_byte wr V) (by rw [HL5.out]; omega) (by rw [HL5.out]; simp [maxLen]; omega) (by have := HB5.out.size; simp; omega) ?_
          intro v6 w6 ho6 hg6 hat6
          have hb6 : Below w.heap.size w w6 := below_own (below_then HB5.out ((Below.refl _ _).alloc (Nat.le_refl _) _)) hg6 (fun q hq => (HO5.out.lt q hq).1)
          rw [HTK.out] at ho6
          have hl6 : (P0 ++ (be8 (8 * n)).take (j + 1)).length = N + j + 1 := by rw [List.length_append, HP0.out, List.length_take]; show N + min (j + 1) 8 = _; omega
          obtain ⟨A6, c6, rfl, hA6, hR6, hb6'⟩ := ho6.rd (by rw [hl6]; omega)
          rw [hl6] at ho6 ⊢
          have HO6 := hid ho6; have HB6 := hid hb6
          clear ho6 hb6 hg6 hat6 hA6 hR6 hb6' HO5 HB5 hsp hl6
          go_wp2
          go_roundw
          case rel => exact ⟨j + 1, by omega, by go_num, HO6.out, HB6.out⟩
          case measure => simp [intOf]; omega
        · obtain rfl : j = 8 := by omega
          go_wp2
          go_ret
          refine ⟨_, rfl, ?_, HB5.out⟩
          rw [HFULL.out]
          exact HO5.out
    · have hb56 : ((N : Int) % 64 != 56) = true := by rw [bne_iff_ne]; have h := fun h => hlt (hiff.1 h); omega
      clear hiff
      go_wp2_with (at_builtin; refine hold ?_)
      refine hid ?_
      refine wpList_app2 rfl _ _ 22 5 .u8 1 rfl elemB w.heap.size _ (xs ++ ([128] ++ List.replicate k 0)) rfl (HO3.out.below ((Below.refl _ _).alloc (Nat.le_refl _) _)) (some ⟨wr.heap.size, 0, none⟩) 1 1 [0] rfl rfl (fun h => by simp at h) (one_byte wr 0) (by rw [HL3.out]; omega) (by rw [HL3.out]; simp [maxLen]; omega) (by have := HB3.out.size; simp; omega) ?_
      intro v4 w4 ho4 hg4 hat4
      have hb4 : Below w.heap.size w w4 := below_own (below_then HB3.out ((Below.refl _ _).alloc (Nat.le_refl _) _)) hg4 (fun q hq => (HO3.out.lt q hq).1)
      have e4 : xs ++ ([128] ++ List.replicate k (0 : Int)) ++ [0] = xs ++ ([128] ++ List.replicate (k + 1) 0) := by
        rw [List.append_assoc, List.append_assoc, List.replicate_succ']
      rw [e4] at ho4
      obtain ⟨A4, c4, rfl, hA4, hR4, hb4'⟩ := ho4.rd (by simp [HN.out]; omega)
      have hl4 : (xs ++ ([128] ++ List.replicate (k + 1) (0 : Int))).length = N + 1 := by have := HL3.out; simp at this ⊢; omega
      rw [hl4] at ho4 ⊢
      have HO4 := hid ho4; have HB4 := hid hb4
      clear ho4 hb4 hg4 hat4 hA4 hR4 hb4' HO3 HB3 hb56
      go_wp2
      go_roundw
      case rel => exact ⟨k + 1, by omega, HO4.out, HB4.out⟩
      case measure => have := HNE.out; simp; omega
end Go.Proofs.YtaieajfgcnaedaaDoor
