/-
  WALKS of layer 2: Stamped; the law SumsStamps.
-/
import Derived.Test.YteepfkolibeekaaSumsQ
set_option linter.unusedVariables false
set_option linter.unusedSimpArgs false
namespace Go.Proofs.Yteepfkolibeekaa
open Go.RowKit

theorem bytes_le4 (v : Int) (h : 0 ≤ v) : Bytes (le4 v) := by
  unfold le4
  exact Bytes.cons (by omega) (by omega) (Bytes.cons (by omega) (by omega) (Bytes.cons (by omega) (by omega) (Bytes.cons (by omega) (by omega) Bytes.nil)))
theorem bytes_stamp {xs : List Int} (h : Bytes xs) : Bytes (stamp xs) := bytes_splice h (bytes_le4 _ (crc_range _).1) 8

set_option maxHeartbeats 1600000 in
theorem stamped_short (c n : Nat) (A : Option Addr) (h : n < 12) (w : World) :
    Calls Try.prog 21 #[.slice A n c] w fun e w' => e = .returned (.bool false) ∧ w = w' := by
  go_enter Try.func21, Try.ntmps21
  go_wp2_with fail
  refine (stamp_short c n A h _).mono ?_
  rintro e w1 ⟨rfl, rfl⟩
  go_wp2
  go_ret
  exact ⟨rfl, rfl⟩
set_option maxHeartbeats 1600000 in
theorem stamped_calls (c n : Nat) (A : Option Addr) (xs : List Int) (hn : xs.length = n) (h12 : 12 ≤ n) (w : World) (hR : Rd w .u8 A xs) (hx : Bytes xs) (hA : A = none → c = 0) (hl : n ≤ 140737488351232) :
    Calls Try.prog 21 #[.slice A n c] w fun e w' => e = .returned (.bool (decide (stamp xs = xs))) ∧ Below w.heap.size w w' := by
  have HR := hid hR; clear hR
  have HX := hid hx; clear hx
  have HN := hid hn; clear hn
  have HA := hid hA; clear hA
  go_enter Try.func21, Try.ntmps21
  go_wp2_with fail
  refine (stamp_calls c n A xs HN.out h12 _ HR.out HX.out HA.out hl).mono ?_
  rintro e w1 ⟨g, c2, rfl, ho1, hb1⟩
  have hl1 := ho1.len.symm
  obtain ⟨A2, c3, e2, _, hR2, _⟩ := ho1.rd (by omega)
  injection e2 with e2 e2n e3
  clear e2n
  subst e2 e3
  have HO := hid ho1; clear ho1
  have HL := hid hl1; clear hl1
  have HR2 := hid hR2; clear hR2
  have HB := hid hb1; clear hb1
  go_wp2_with fail
  refine (equal_calls c2 c n n _ A (stamp xs) xs HL.out HN.out _ HR2.out (HR.out.below HB.out)).mono ?_
  rintro e w2 ⟨rfl, hb2⟩
  cases hd : decide (stamp xs = xs)
  · have HD := hid hd; clear hd
    go_wp2
    go_ret
    exact ⟨ret_bool HD.out.symm, below_then HB.out hb2⟩
  · have HD := hid hd; clear hd
    go_wp2
    go_ret
    exact ⟨ret_bool HD.out.symm, below_then HB.out hb2⟩

theorem str_eq {xs ys : List Int} (hx : Bytes xs) (hy : Bytes ys) : ((strOfNums xs).toList == (strOfNums ys).toList) = decide (xs = ys) := by
  by_cases h : xs = ys
  · subst h; simp
  · rw [decide_eq_false h, beq_eq_false_iff_ne]
    intro h1
    apply h
    apply str_inj hx hy
    have h2 : (strOfNums xs).data.toList = (strOfNums ys).data.toList := by
      rw [← ByteArray.toList_eq, ← ByteArray.toList_eq]; exact h1
    have h3 := Array.toList_inj.1 h2
    cases hs : strOfNums xs
    cases ht : strOfNums ys
    rw [hs, ht] at h3
    simpa using h3

set_option maxHeartbeats 3200000 in
theorem SumsStamps_calls (c n : Nat) (A : Option Addr) (xs : List Int) (hn : xs.length = n) (w : World) (hR : Rd w .u8 A xs) (hx : Bytes xs) (hA : A = none → c = 0) (hl : n ≤ 140737488351232) :
    Calls Try.prog 10 #[.slice A n c] w fun e w' => e = .returned (.bool true) ∧ Below w.heap.size w w' := by
  have HR := hid hR; clear hR
  have HX := hid hx; clear hx
  have HN := hid hn; clear hn
  have HA := hid hA; clear hA
  by_cases h12 : n < 12
  · have H12 := hid h12; clear h12
    go_enter Try.func10, Try.ntmps10
    go_wp2_with fail
    refine (stamp_short c n A H12.out _).mono ?_
    rintro e w1 ⟨rfl, rfl⟩
    go_wp2_with fail
    refine (refstamp_short c n A H12.out _).mono ?_
    rintro e w1 ⟨rfl, rfl⟩
    go_wp2_with fail
    refine (live_calls _).mono ?_
    rintro e w5 ⟨rfl, hb5⟩
    have hcv := conv_str (P := Try.prog) (w := w5) (dst := 9) Try.underlying22 Try.underlying5 Try.underlying9 0 0 rfl (Rd.nil w5 .u8 none)
    have htt : ((strOfNums []).toList == (strOfNums []).toList) = true := beq_self_eq_true _
    go_wp2_with fail
    refine (stamped_short c n A H12.out _).mono ?_
    rintro e w1 ⟨rfl, rfl⟩
    go_wp2
    go_ret
    exact ⟨rfl, hb5⟩
  · have H12 : Hid (12 ≤ n) := Nat.le_of_not_lt h12
    clear h12
    go_enter Try.func10, Try.ntmps10
    go_wp2_with fail
    refine (stamp_calls c n A xs HN.out H12.out _ HR.out HX.out HA.out hl).mono ?_
    rintro e w1 ⟨g, c2, rfl, ho1, hb1⟩
    have HO1 := hid ho1; clear ho1
    have HB1 := hid hb1; clear hb1
    go_wp2_with fail
    refine (refstamp_calls c n A xs HN.out H12.out _ (HR.out.below HB1.out) HX.out HA.out hl).mono ?_
    rintro e w2 ⟨g2, c3, rfl, ho2, hb2⟩
    have HO2 := hid ho2; clear ho2
    have HB2 := hid hb2; clear hb2
    go_wp2_with fail
    refine (live_calls _).mono ?_
    rintro e w5 ⟨rfl, hb5⟩
    have o1 := (HO1.out.below HB2.out).below hb5
    have o2 := HO2.out.below hb5
    have hl1 := o1.len.symm
    obtain ⟨A4, c4, e4, _, r4, _⟩ := o1.rd (by omega)
    injection e4 with e4 e4n e5
    clear e4n
    subst e4 e5
    obtain ⟨A6, c6, e6, _, r6, _⟩ := o2.rd (by omega)
    injection e6 with e6 e6n e7
    clear e6n
    subst e6 e7
    have HL1 := hid hl1; clear hl1
    have hcv1 := conv_str (P := Try.prog) (w := w5) (dst := 9) Try.underlying22 Try.underlying5 Try.underlying9 n c2 HL1.out r4
    have hcv2 := conv_str (P := Try.prog) (w := w5) (dst := 9) Try.underlying22 Try.underlying5 Try.underlying9 n c3 HL1.out r6
    have htt : ((strOfNums (stamp xs)).toList == (strOfNums (stamp xs)).toList) = true := beq_self_eq_true _
    have HB5 := hid (below_then (below_then HB1.out HB2.out) hb5)
    have HR6 := hid r6
    clear o1 o2 r4 r6 hb5
    go_wp2_with fail
    refine (stamped_calls c n A xs HN.out H12.out _ (HR.out.below HB5.out) HX.out HA.out hl).mono ?_
    rintro e w6 ⟨rfl, hb6⟩
    have hcv3 := conv_str (P := Try.prog) (w := w6) (dst := 9) Try.underlying22 Try.underlying5 Try.underlying9 n c3 HL1.out (HR6.out.below hb6)
    have hcv4 := conv_str (P := Try.prog) (w := w6) (dst := 9) Try.underlying22 Try.underlying5 Try.underlying9 n c HN.out ((HR.out.below HB5.out).below hb6)
    have hse := str_eq (bytes_stamp HX.out) HX.out
    clear hcv1 hcv2 htt
    cases hd : decide (stamp xs = xs)
    · rw [hd] at hse
      clear hd
      go_wp2
      go_ret
      exact ⟨rfl, below_then HB5.out hb6⟩
    · rw [hd] at hse
      clear hd
      go_wp2
      go_ret
      exact ⟨rfl, below_then HB5.out hb6⟩
end Go.Proofs.Yteepfkolibeekaa
