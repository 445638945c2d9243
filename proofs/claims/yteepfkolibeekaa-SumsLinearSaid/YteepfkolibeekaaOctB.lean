/-
  WALKS: slices.Reverse at four bytes of the call's own; slices.Equal at []byte.
-/
import Derived.Test.YteepfkolibeekaaOctA
import Derived.BigRegion
set_option linter.unusedVariables false
set_option linter.unusedSimpArgs false
namespace Go.Proofs.Yteepfkolibeekaa
open Go.RowKit

set_option maxHeartbeats 3200000 in
theorem reverse4_calls (g c base : Nat) (a0 a1 a2 a3 : Int) (w : World) (ho : Own w base 5 .u8 (.slice (some ⟨g, 0, none⟩) 4 c) [a0, a1, a2, a3]) :
    Calls Try.prog 28 #[.slice (some ⟨g, 0, none⟩) 4 c] w fun e w' => e = .returned (.tuple #[]) ∧ Own w' base 5 .u8 (.slice (some ⟨g, 0, none⟩) 4 c) [a3, a2, a1, a0] ∧ w.grownBy w' (some g) := by
  go_enter Try.func28, Try.ntmps28
  go_wp2
  go_loopw [2, 3] (fun i j wr => ((i = .int .i64 0 ∧ j = .int .i64 3 ∧ Own wr base 5 .u8 (.slice (some ⟨g, 0, none⟩) 4 c) [a0, a1, a2, a3]) ∨ (i = .int .i64 1 ∧ j = .int .i64 2 ∧ Own wr base 5 .u8 (.slice (some ⟨g, 0, none⟩) 4 c) [a3, a1, a2, a0]) ∨ (i = .int .i64 2 ∧ j = .int .i64 1 ∧ Own wr base 5 .u8 (.slice (some ⟨g, 0, none⟩) 4 c) [a3, a2, a1, a0])) ∧ w.grownBy wr (some g)) (fun i _ _ => 4 - (intOf i).toNat)
  case atStart => exact ⟨.inl ⟨rfl, rfl, ho⟩, World.grownBy.refl _ _⟩
  case round =>
    obtain ⟨⟨rfl, rfl, ho1⟩ | ⟨rfl, rfl, ho1⟩ | ⟨rfl, rfl, ho1⟩, hg1⟩ := hrel
    · have c0 := ho1.cell 0 (by simp)
      have c3 := ho1.cell 3 (by simp)
      have f0 := ho1.free 0
      have f3 := ho1.free 3
      simp at c0 c3
      have HO := hid ho1; clear ho1
      have HG := hid hg1; clear hg1
      go_wp2_with fail
      go_region
      go_wp2
      go_roundw
      case rel => exact ⟨.inr (.inl ⟨rfl, rfl, World.ownsRow.drew ((HO.out.set 0 (by simp) a3).set 3 (by simp) a0)⟩), grown_drew (grown_trans (grown_trans HG.out (grown_set _ _ _ _)) (grown_set _ _ _ _))⟩
      case measure => simp [intOf]
    · have c0 := ho1.cell 1 (by simp)
      have c3 := ho1.cell 2 (by simp)
      have f0 := ho1.free 1
      have f3 := ho1.free 2
      simp at c0 c3
      have HO := hid ho1; clear ho1
      have HG := hid hg1; clear hg1
      go_wp2_with fail
      go_region
      go_wp2
      go_roundw
      case rel => exact ⟨.inr (.inr ⟨rfl, rfl, World.ownsRow.drew ((HO.out.set 1 (by simp) a2).set 2 (by simp) a1)⟩), grown_drew (grown_trans (grown_trans HG.out (grown_set _ _ _ _)) (grown_set _ _ _ _))⟩
      case measure => simp [intOf]
    · go_wp2
      go_end0
      exact ⟨rfl, ho1, hg1⟩

set_option maxHeartbeats 1600000 in
theorem equal_calls (c c2 n m : Nat) (A B : Option Addr) (xs ys : List Int) (hn : xs.length = n) (hm : ys.length = m) (w : World) (hR : Rd w .u8 A xs) (hS : Rd w .u8 B ys) :
    Calls Try.prog 29 #[.slice A n c, .slice B m c2] w fun e w' => e = .returned (.bool (decide (xs = ys))) ∧ Below w.heap.size w w' := by
  have hnl := hR.len
  rw [hn] at hnl
  by_cases hnm : n = m
  · subst hnm
    have HR := hid hR; clear hR
    have HS := hid hS; clear hS
    have HN := hid hn; clear hn
    have HM := hid hm; clear hm
    have e1 : ((n : Int) != (n : Int)) = false := by simp
    go_enter Try.func29, Try.ntmps29
    go_wp2
    go_loopw [5, 13] (fun _ q wr => ∃ t : Nat, t ≤ n ∧ q = .int .i64 t ∧ (∀ i, i < t → xs.getD i 0 = ys.getD i 0) ∧ Drawn w wr) (fun _ q _ => n - (intOf q).toNat)
    case atStart => exact ⟨0, Nat.zero_le _, rfl, fun i hi => by omega, Drawn.refl _⟩
    case round =>
      obtain ⟨t, ht, rfl, hag, hd⟩ := hrel
      by_cases hlt : t < n
      · obtain ⟨b1, o1, rfl, _⟩ := HR.out.form t (by rw [HN.out]; exact hlt)
        obtain ⟨b2, o2, rfl, _⟩ := HS.out.form t (by rw [HM.out]; exact hlt)
        have l1 := (HR.out.below hd.below).cell t (by rw [HN.out]; exact hlt)
        have l2 := (HS.out.below hd.below).cell t (by rw [HM.out]; exact hlt)
        have HAG := hid hag; clear hag
        have HD := hid hd; clear hd
        have ht0 : (0 : Int) ≤ (t : Int) := by omega
        have ht1 : (t : Int) < (n : Int) := by omega
        by_cases hxy : xs.getD t 0 = ys.getD t 0
        · have hx2 : (xs.getD t 0 != ys.getD t 0) = false := by rw [hxy]; simp
          have HE : Hid (∀ i, i < t + 1 → xs.getD i 0 = ys.getD i 0) := fun i hi => by
            rcases Nat.lt_or_ge i t with h | h
            · exact HAG.out i h
            · rw [show i = t from by omega]; exact hxy
          clear hxy
          generalize xs.getD t 0 = x at *
          generalize ys.getD t 0 = y at *
          go_wp2_with fail
          go_quiet (fail)
          go_wp2_with fail
          go_roundw
          case rel => exact ⟨t + 1, by omega, by go_num, HE.out, HD.out.more _⟩
          case measure => simp [intOf]; omega
        · have hx2 : (xs.getD t 0 != ys.getD t 0) = true := by rw [bne_iff_ne]; exact hxy
          have HE : Hid (decide (xs = ys) = false) := by
            show _ = _
            rw [decide_eq_false_iff_not]
            intro h
            exact hxy (by rw [h])
          clear hxy
          generalize xs.getD t 0 = x at *
          generalize ys.getD t 0 = y at *
          go_wp2_with fail
          go_quiet (fail)
          go_wp2_with fail
          go_ret
          exact ⟨ret_bool (by rw [HE.out]), (HD.out.more _).below⟩
      · have : t = n := by omega
        subst this
        have HE : Hid (decide (xs = ys) = true) := by
          show _ = _
          rw [decide_eq_true_iff]
          apply List.ext_getElem (by rw [HN.out, HM.out])
          intro i h1 h2
          have := hag i (by rw [HN.out] at h1; exact h1)
          simpa [List.getD_eq_getElem?_getD, h1, h2] using this
        go_wp2
        go_ret
        exact ⟨ret_bool (by rw [HE.out]), hd.below⟩
  · have e1 : ((n : Int) != (m : Int)) = true := by rw [bne_iff_ne]; omega
    have HE : Hid (decide (xs = ys) = false) := by
      show _ = _
      rw [decide_eq_false_iff_not]
      intro h
      exact hnm (by rw [← hn, ← hm, h])
    clear hn hm hnm hR hS
    go_enter Try.func29, Try.ntmps29
    go_wp2
    go_ret
    exact ⟨ret_bool (by rw [HE.out]), Below.refl _ _⟩
end Go.Proofs.Yteepfkolibeekaa
