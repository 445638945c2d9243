/-
  WALKS of layer 2: the law SumsOwn.
-/
import Derived.Test.YteepfkolibeekaaSumsS
import Derived.Test.YteepfkolibeekaaStr
set_option linter.unusedVariables false
set_option linter.unusedSimpArgs false
namespace Go.Proofs.Yteepfkolibeekaa
open Go.RowKit

set_option maxHeartbeats 3200000 in
theorem SumsOwn_calls (c n : Nat) (A : Option Addr) (xs : List Int) (hn : xs.length = n) (w : World) (hR : Rd w .u8 A xs) (hx : Bytes xs) (hA : A = none → c = 0) (hl : n ≤ 140737488351232) :
    Calls Try.prog 9 #[.slice A n c] w fun e w' => e = .returned (.bool true) ∧ Below w.heap.size w w' := by
  have HR := hid hR; clear hR
  have HX := hid hx; clear hx
  have HN := hid hn; clear hn
  have HA := hid hA; clear hA
  have hcv := conv_str (P := Try.prog) (w := w) (dst := 9) Try.underlying22 Try.underlying5 Try.underlying9 n c HN.out HR.out
  have htt : ((strOfNums xs).toList == (strOfNums xs).toList) = true := beq_self_eq_true _
  by_cases h12 : n < 12
  · go_enter Try.func9, Try.ntmps9
    go_wp2_with fail
    refine (stamp_short c n A h12 _).mono ?_
    rintro e w1 ⟨rfl, rfl⟩
    go_wp2_with fail
    refine wp_loop_rounds 1 ?_
    rw [rounds_succ]
    go_wp2_with fail
    refine (live_calls _).mono ?_
    rintro e w5 ⟨rfl, hb5⟩
    have hcv2 := conv_str (P := Try.prog) (w := w5) (dst := 9) Try.underlying22 Try.underlying5 Try.underlying9 n c HN.out (HR.out.below hb5)
    go_wp2
    go_ret
    exact ⟨ret_bool (by simp), hb5⟩
  · go_enter Try.func9, Try.ntmps9
    go_wp2_with fail
    refine (stamp_calls c n A xs HN.out (by omega) _ HR.out HX.out HA.out hl).mono ?_
    rintro e w1 ⟨g, c2, rfl, ho1, hb1⟩
    have hlen1 := ho1.len.symm
    generalize stamp xs = zs at *
    clear hcv h12
    have HO1 := hid ho1; clear ho1
    have HL1 := hid hlen1; clear hlen1
    have HB1 := hid hb1; clear hb1
    go_wp2_with fail
    go_loopw [6] (fun i wr => ∃ t : Nat, t ≤ n ∧ i = .int .i64 t ∧ (∃ ys, Own wr w.heap.size 5 .u8 (.slice (some ⟨g, 0, none⟩) n c2) ys) ∧ Below w.heap.size w wr) (fun i _ => n - (intOf i).toNat)
    case atStart => exact ⟨0, Nat.zero_le _, rfl, ⟨_, HO1.out⟩, HB1.out⟩
    case round =>
      obtain ⟨t, ht, rfl, ⟨ys, ho⟩, hb⟩ := hrel
      have hyl := ho.len
      by_cases hlt : t < n
      · have hcl := ho.cell t (by omega)
        have hfr := ho.free t
        have HYL := hid hyl; clear hyl
        have hgb := (ho.lt g rfl).1
        have HS := hid (ho.set t (by rw [← HYL.out]; exact hlt) (bits .xor .u8 (ys.getD t 0) 90))
        have HB := hid (below_set hb g t (.int .u8 (bits .xor .u8 (ys.getD t 0) 90)) hgb)
        generalize ys.getD t 0 = y at *
        clear ho hb
        have ht0 : (0 : Int) ≤ (t : Int) := by omega
        have ht1 : (t : Int) < (n : Int) := by omega
        go_wp2
        go_roundw
        case rel => exact ⟨t + 1, by omega, by go_num, ⟨_, HS.out⟩, HB.out⟩
        case measure => simp [intOf]; omega
      · clear hyl ho
        have HB := hid hb; clear hb
        go_wp2_with fail
        refine (live_calls _).mono ?_
        rintro e w5 ⟨rfl, hb5⟩
        have hcv2 := conv_str (P := Try.prog) (w := w5) (dst := 9) Try.underlying22 Try.underlying5 Try.underlying9 n c HN.out ((HR.out.below HB.out).below hb5)
        go_wp2
        go_ret
        exact ⟨ret_bool (by simp), below_then HB.out hb5⟩
end Go.Proofs.Yteepfkolibeekaa
