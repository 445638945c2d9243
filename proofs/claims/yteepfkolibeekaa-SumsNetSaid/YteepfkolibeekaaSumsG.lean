import Derived.Test.YteepfkolibeekaaSumsE
import Derived.Test.YteepfkolibeekaaApp
set_option linter.unusedVariables false
set_option linter.unusedSimpArgs false
namespace Go.Proofs.Yteepfkolibeekaa
open Go.RowKit

theorem elem8 : Elem Try.prog 22 5 .u8 1 := Elem.mk' Try.underlying22 (by kernel_rfl)
set_option maxHeartbeats 800000 in
theorem SumsNet_calls (c : Nat) (A : Option Addr) (xs : List Int) (s o : Int) (s0 : 0 ≤ s) (s1 : s ≤ 65535) (o0 : 0 ≤ o) (o1 : o ≤ 65535) (w : World) (hR : Rd w .u8 A xs) (hx : Bytes xs) :
    Calls Try.prog 7 #[.slice A xs.length c, .int .u16 s, .int .u16 o] w fun e w' => e = .returned (.bool true) ∧ Below w.heap.size w w' := by
  have HR := hid hR; clear hR
  have HX := hid hx; clear hx
  have hns := hid (not16 s s0 s1)
  go_enter Try.func7, Try.ntmps7
  go_wp2_with fail
  refine (live_calls _).mono ?_
  rintro e w1 ⟨rfl, hb1⟩
  go_wp2_with fail
  refine (net_calls c A xs _ (HR.out.below hb1) HX.out).mono ?_
  rintro e w2 ⟨rfl, rfl⟩
  go_wp2_with fail
  refine (refnet_calls c A xs _ (HR.out.below hb1) HX.out).mono ?_
  rintro e w2 ⟨rfl, rfl⟩
  have ht : (net xs == net xs) = true := beq_self_eq_true _
  go_wp2_with fail
  rw [hns.out]
  refine (swap_calls _ _ _ s0 s1 o0 o1 (by omega) (by omega) _).mono ?_
  rintro e w2 ⟨rfl, rfl⟩
  go_wp2_with fail
  rw [hns.out]
  refine (refswap_calls _ _ _ s0 s1 o0 o1 (by omega) (by omega) _).mono ?_
  rintro e w2 ⟨rfl, rfl⟩
  have ht2 : (swp s o (65535 - s) == swp s o (65535 - s)) = true := beq_self_eq_true _
  have hq3 : 0 ≤ IntKind.u16.wrap (s.tdiv 3) ∧ IntKind.u16.wrap (s.tdiv 3) ≤ 65535 := by rw [IntKind.wrap_u16]; omega
  go_wp2_with fail
  refine (swap_calls _ _ _ s0 s1 o0 o1 hq3.1 hq3.2 _).mono ?_
  rintro e w2 ⟨rfl, rfl⟩
  go_wp2_with fail
  refine (refswap_calls _ _ _ s0 s1 o0 o1 hq3.1 hq3.2 _).mono ?_
  rintro e w2 ⟨rfl, rfl⟩
  go_wp2
  go_ret
  exact ⟨ret_bool (by simp), hb1⟩

/-- The end of it: with the sum's two bytes behind an even number of bytes. -/
theorem whole_end (ys : List Int) (hy : Bytes ys) (he : ys.length % 2 = 0) : net (ys ++ [net ys / 256, net ys % 256]) = 0 := by
  have hr := net_range ys
  have := net_whole ys he (netS_range ys hy.at_ _).1
  exact this

set_option maxHeartbeats 1600000 in
theorem SumsWhole_calls (c : Nat) (A : Option Addr) (xs : List Int) (w : World) (hR : Rd w .u8 A xs) (hx : Bytes xs) (hl : xs.length ≤ 140737488351232) (hA : A = none → c = 0) :
    Calls Try.prog 5 #[.slice A xs.length c] w fun e w' => e = .returned (.bool true) ∧ Below w.heap.size w w' := by
  have HR := hid hR; clear hR
  have HX := hid hx; clear hx
  have hrest : ∀ (ys : List Int) (v1 : Value) (w1 : World), Own w1 w.heap.size 5 .u8 v1 ys → Below w.heap.size w w1 → Bytes ys → ys.length % 2 = 0 → net ys = net xs → ys.length ≤ 140737488351233 → True := fun _ _ _ _ _ _ _ _ _ => trivial
  clear hrest
  by_cases hp : xs.length % 2 = 1
  · have hpt : ((xs.length : Int) % 2 == 1) = true := beq_iff_eq.2 (by omega)
    go_enter Try.func5, Try.ntmps5
    go_wp2_with (at_builtin; refine hold ?_)
    refine hid ?_
    refine wpList_app rfl _ _ 22 5 .u8 1 rfl elem8 w.heap.size _ [] rfl (Own.lit w 5 .u8 w.heap.size (Nat.le_refl _) [] #[] 0 rfl rfl (by decide)) A c xs.length xs rfl rfl hA (HR.out.below ((Below.refl _ _).alloc (Nat.le_refl _) _)) (by simp; omega) (by simp [maxLen]; omega) (by simp) ?_
    intro v1 w1 ho1 hg1
    have hb1 : Below w.heap.size w w1 := below_own ((Below.refl _ _).alloc (Nat.le_refl _) _) hg1 (fun g hg => Nat.le_of_eq (Option.some.inj hg))
    rw [List.nil_append] at ho1
    obtain ⟨A1, c1, rfl, hA1, hR1, hB1⟩ := ho1.rd (by omega)
    clear hg1
    go_wp2_with (at_builtin; refine hold ?_)
    refine hid ?_
    have hb1' : Below w1.heap.size w1 (w1.alloc (.cells #[.int .u8 0] 5)) := (Below.refl _ _).alloc (Nat.le_refl _) _
    refine wpList_app rfl _ _ 22 5 .u8 1 rfl elem8 w.heap.size _ xs rfl (ho1.below hb1') (some ⟨w1.heap.size, 0, none⟩) 1 1 [0] rfl rfl (by simp) (Rd_new w1 .u8 5 (0, 0) _ _ rfl (by decide) _ _ (heap_alloc_new w1 _)) (by omega) (by simp [maxLen]; omega) (by have := hb1.size; simp; omega) ?_
    intro v2 w2 ho2 hg2
    have hb2 : Below w.heap.size w w2 := below_own (below_then hb1 hb1') hg2 (fun g hg => (ho1.lt g hg).1)
    clear hg2 hb1' hR1 hB1 hA1
    have hpad := net_pad xs hp
    have hy : Bytes (xs ++ [0]) := HX.out.append (Bytes.cons (by decide) (by decide) Bytes.nil)
    have hye : (xs ++ [0]).length % 2 = 0 := by simp; omega
    have hyl : (xs ++ [0]).length ≤ 140737488351233 := by simp; omega
    clear ho1 hb1 hpt
    generalize xs ++ [0] = ys at *
    obtain ⟨A2, c2, rfl, hA2, hR2, hB2⟩ := ho2.rd (by omega)
    go_wp2_with fail
    refine (net_calls c2 A2 ys _ hR2 hy).mono ?_
    rintro e w3 ⟨rfl, rfl⟩
    have hend := hid (whole_end ys hy hye)
    have HP := hid hpad
    have hnr := net_range ys
    clear hpad
    generalize hnn : net ys = nn at *
    have HNN := hid hnn; clear hnn
    go_wp2_with fail
    refine (live_calls _).mono ?_
    rintro e w3 ⟨rfl, hb3⟩
    go_wp2_with (at_builtin; refine hold ?_)
    refine hid ?_
    have hb4 : Below w3.heap.size w3 (w3.alloc (.cells #[.int .u8 (nn / 256), .int .u8 (nn % 256)] 5)) := (Below.refl _ _).alloc (Nat.le_refl _) _
    refine wpList_app rfl _ _ 22 5 .u8 1 rfl elem8 w.heap.size _ ys rfl ((ho2.below hb3).below hb4) (some ⟨w3.heap.size, 0, none⟩) 2 2 [nn / 256, nn % 256] rfl rfl (by simp) (Rd_new w3 .u8 5 (0, 0) _ _ rfl (by simp) _ _ (heap_alloc_new w3 _)) (by omega) (by simp [maxLen]; omega) (by have := hb2.size; have := hb3.size; simp; omega) ?_
    intro v4 w4 ho4 hg4
    have hb5 : Below w.heap.size w w4 := below_own (below_then (below_then hb2 hb3) hb4) hg4 (fun g hg => (ho2.lt g hg).1)
    have hy4 : Bytes (ys ++ [nn / 256, nn % 256]) := hy.append (Bytes.cons (by omega) (by omega) (Bytes.cons (by omega) (by omega) Bytes.nil))
    have hyl4 : (ys ++ [nn / 256, nn % 256]).length ≤ 140737488355328 := by simp; omega
    have HX2 := HR.out.below hb5
    have HXH := hid HX2; clear HX2
    clear hg4 hb4 hb3 ho2 hR2 hB2 hA2
    generalize ys ++ [nn / 256, nn % 256] = zs at *
    obtain ⟨A4, c4, rfl, hA4, hR4, hB4⟩ := ho4.rd hyl4
    go_wp2_with fail
    refine (net_calls c4 A4 zs _ hR4 hy4).mono ?_
    rintro e w5 ⟨rfl, rfl⟩
    rw [hend.out]
    go_wp2_with fail
    refine (net_calls c A xs _ HXH.out HX.out).mono ?_
    rintro e w5 ⟨rfl, rfl⟩
    rw [← HP.out]
    go_wp2
    go_ret
    exact ⟨ret_bool (by simp), hb5⟩
  · have hpt : ((xs.length : Int) % 2 == 1) = false := beq_eq_false_iff_ne.2 (by omega)
    go_enter Try.func5, Try.ntmps5
    go_wp2_with (at_builtin; refine hold ?_)
    refine hid ?_
    refine wpList_app rfl _ _ 22 5 .u8 1 rfl elem8 w.heap.size _ [] rfl (Own.lit w 5 .u8 w.heap.size (Nat.le_refl _) [] #[] 0 rfl rfl (by decide)) A c xs.length xs rfl rfl hA (HR.out.below ((Below.refl _ _).alloc (Nat.le_refl _) _)) (by simp; omega) (by simp [maxLen]; omega) (by simp) ?_
    intro v1 w2 ho2 hg2
    have hb2 : Below w.heap.size w w2 := below_own ((Below.refl _ _).alloc (Nat.le_refl _) _) hg2 (fun g hg => Nat.le_of_eq (Option.some.inj hg))
    rw [List.nil_append] at ho2
    clear hg2
    have hpad : net xs = net xs := rfl
    have hy : Bytes xs := HX.out
    have hye : xs.length % 2 = 0 := by omega
    have hyl : xs.length ≤ 140737488351233 := by omega
    obtain ⟨ys, rfl⟩ : ∃ ys, ys = xs := ⟨_, rfl⟩
    obtain ⟨A2, c2, rfl, hA2, hR2, hB2⟩ := ho2.rd (by omega)
    go_wp2_with fail
    refine (net_calls c2 A2 ys _ hR2 hy).mono ?_
    rintro e w3 ⟨rfl, rfl⟩
    have hend := hid (whole_end ys hy hye)
    have HP := hid hpad
    have hnr := net_range ys
    clear hpad
    generalize hnn : net ys = nn at *
    have HNN := hid hnn; clear hnn
    go_wp2_with fail
    refine (live_calls _).mono ?_
    rintro e w3 ⟨rfl, hb3⟩
    go_wp2_with (at_builtin; refine hold ?_)
    refine hid ?_
    have hb4 : Below w3.heap.size w3 (w3.alloc (.cells #[.int .u8 (nn / 256), .int .u8 (nn % 256)] 5)) := (Below.refl _ _).alloc (Nat.le_refl _) _
    refine wpList_app rfl _ _ 22 5 .u8 1 rfl elem8 w.heap.size _ ys rfl ((ho2.below hb3).below hb4) (some ⟨w3.heap.size, 0, none⟩) 2 2 [nn / 256, nn % 256] rfl rfl (by simp) (Rd_new w3 .u8 5 (0, 0) _ _ rfl (by simp) _ _ (heap_alloc_new w3 _)) (by omega) (by simp [maxLen]; omega) (by have := hb2.size; have := hb3.size; simp; omega) ?_
    intro v4 w4 ho4 hg4
    have hb5 : Below w.heap.size w w4 := below_own (below_then (below_then hb2 hb3) hb4) hg4 (fun g hg => (ho2.lt g hg).1)
    have hy4 : Bytes (ys ++ [nn / 256, nn % 256]) := hy.append (Bytes.cons (by omega) (by omega) (Bytes.cons (by omega) (by omega) Bytes.nil))
    have hyl4 : (ys ++ [nn / 256, nn % 256]).length ≤ 140737488355328 := by simp; omega
    have HX2 := HR.out.below hb5
    have HXH := hid HX2; clear HX2
    clear hg4 hb4 hb3 ho2 hR2 hB2 hA2
    generalize ys ++ [nn / 256, nn % 256] = zs at *
    obtain ⟨A4, c4, rfl, hA4, hR4, hB4⟩ := ho4.rd hyl4
    go_wp2_with fail
    refine (net_calls c4 A4 zs _ hR4 hy4).mono ?_
    rintro e w5 ⟨rfl, rfl⟩
    rw [hend.out]
    go_wp2_with fail
    refine (net_calls c A ys _ HXH.out HX.out).mono ?_
    rintro e w5 ⟨rfl, rfl⟩
    rw [HNN.out]
    go_wp2
    go_ret
    exact ⟨ret_bool (by simp), hb5⟩
end Go.Proofs.Yteepfkolibeekaa
