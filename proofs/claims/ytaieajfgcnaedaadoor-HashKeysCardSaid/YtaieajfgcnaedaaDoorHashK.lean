/-
  LAYER 5, WALKS: HashSums; HashKeys.
-/
import Derived.Test.YtaieajfgcnaedaaDoorHashI
import Derived.Deep.RegionLaw
import Derived.BigRegion
import Derived.Deep.RegionWith
set_option linter.unusedVariables false
set_option linter.unusedSimpArgs false
namespace Go.Proofs.YtaieajfgcnaedaaDoor
open Go.RowKit

theorem keyOf_long (key : List Int) (h : 64 < key.length) : keyOf (sha key) = keyOf key := by
  unfold keyOf
  rw [if_pos h, if_neg (by rw [sha_len]; omega)]
theorem keyOf_zeros (key : List Int) (n : Nat) (h : key.length + n ≤ 64) : keyOf (key ++ List.replicate n 0) = keyOf key := by
  have h1 : ¬ 64 < (key ++ List.replicate n (0 : Int)).length := by rw [List.length_append, List.length_replicate]; omega
  have h2 : ¬ 64 < key.length := by omega
  unfold keyOf
  simp only [h1, h2, if_false]
  show key ++ List.replicate n 0 ++ List.replicate (64 - (key ++ List.replicate n 0).length) 0 = key ++ List.replicate (64 - key.length) 0
  rw [List.append_assoc, List.replicate_append_replicate, List.length_append, List.length_replicate]
  congr 2
  omega
theorem mac_long (key bs : List Int) (h : 64 < key.length) : mac (sha key) bs = mac key bs := by unfold mac; rw [keyOf_long key h]
theorem mac_zeros (key bs : List Int) (n : Nat) (h : key.length + n ≤ 64) : mac (key ++ List.replicate n 0) bs = mac key bs := by unfold mac; rw [keyOf_zeros key n h]
set_option maxHeartbeats 6400000 in
set_option maxRecDepth 100000 in
theorem HashKeys_calls (w : World) (hT : Tab w) (ck nk c n : Nat) (Ak A : Option Addr) (key bs : List Int) (z : Int) (hnk : key.length = nk) (hn : bs.length = n) (hRk : Rd w .u8 Ak key) (hR : Rd w .u8 A bs) (hbk : Bytes key) (hb : Bytes bs) (hAk : Ak = none → ck = 0) (hA : A = none → c = 0) (hmk : nk ≤ 140737488351232) (hm : n ≤ 140737488351232) (z0 : 0 ≤ z) (z1 : z ≤ 255) :
    Calls Tryd.prog 6 #[.slice Ak nk ck, .slice A n c, .int .u8 z] w fun e w' => e = .returned (.bool true) ∧ Below w.heap.size w w' := by
  have HT := hid hT; have HRk := hid hRk; have HR := hid hR; have HAk := hid hAk; have HA := hid hA; have HBk := hid hbk; have HBb := hid hb; have HNk := hid hnk; have HN := hid hn
  clear hT hRk hR hAk hA hbk hb hnk hn
  have heq := eq32 (mac key bs) (mac_len key bs)
  have HMZ : Box (∀ m, nk + m ≤ 64 → ((mac (key ++ List.replicate m 0) bs).map (Value.int .u8)).toArray = ((mac key bs).map (Value.int .u8)).toArray) := ⟨fun m h => by rw [mac_zeros key bs m (by rw [HNk.out]; exact h)]⟩
  have HML : Box (64 < nk → ((mac (sha key) bs).map (Value.int .u8)).toArray = ((mac key bs).map (Value.int .u8)).toArray) := ⟨fun h => by rw [mac_long key bs (by rw [HNk.out]; exact h)]⟩
  obtain ⟨MR, hMR⟩ : ∃ MR, MR = ((mac key bs).map (Value.int .u8)).toArray := ⟨_, rfl⟩
  rw [← hMR] at heq HMZ HML
  have HMR : Box (((mac key bs).map (Value.int .u8)).toArray = MR) := ⟨hMR.symm⟩
  clear hMR
  go_enter Tryd.func6, Tryd.ntmps6
  by_cases hlong : 64 < nk
  · have hli : (64 : Int) < (nk : Int) := by omega
    go_wp2_with (go_at_call 15; refine hold ?_)
    refine hid ?_
    refine Calls.mono (sum_calls ck nk Ak key HNk.out w HT.out HRk.out HAk.out HBk.out (by omega)) ?_
    rintro e wb ⟨rfl, hBb⟩
    have HBw := hid hBb
    clear hBb
    have hML := HML.out hlong
    obtain ⟨S, hS⟩ : ∃ S, S = sha key := ⟨_, rfl⟩
    rw [show shaV key = (S.map (Value.int .u8)).toArray by rw [hS]; rfl]
    rw [← hS] at hML
    have HSL : Hid (S.length = 32) := hid (by rw [hS]; exact sha_len _)
    have HSB : Hid (Bytes S) := hid (by rw [hS]; exact sha_bytes _)
    have HML2 : Box (((mac S bs).map (Value.int .u8)).toArray = MR) := ⟨hML⟩
    clear hS hML HML HMZ
    go_wp2_with (with_reducible refine hold_op (o := ⟨none, _, _, _, _, _⟩) ?_)
    have hO1 : (wb.alloc (.cells #[Value.int IntKind.u8 0, Value.int IntKind.u8 0, Value.int IntKind.u8 0, Value.int IntKind.u8 0, Value.int IntKind.u8 0, Value.int IntKind.u8 0, Value.int IntKind.u8 0, Value.int IntKind.u8 0, Value.int IntKind.u8 0, Value.int IntKind.u8 0, Value.int IntKind.u8 0, Value.int IntKind.u8 0, Value.int IntKind.u8 0, Value.int IntKind.u8 0, Value.int IntKind.u8 0, Value.int IntKind.u8 0, Value.int IntKind.u8 0, Value.int IntKind.u8 0, Value.int IntKind.u8 0, Value.int IntKind.u8 0, Value.int IntKind.u8 0, Value.int IntKind.u8 0, Value.int IntKind.u8 0, Value.int IntKind.u8 0, Value.int IntKind.u8 0, Value.int IntKind.u8 0, Value.int IntKind.u8 0, Value.int IntKind.u8 0, Value.int IntKind.u8 0, Value.int IntKind.u8 0, Value.int IntKind.u8 0, Value.int IntKind.u8 0] 24)).heap[wb.heap.size]? = some (.cells #[Value.int IntKind.u8 0, Value.int IntKind.u8 0, Value.int IntKind.u8 0, Value.int IntKind.u8 0, Value.int IntKind.u8 0, Value.int IntKind.u8 0, Value.int IntKind.u8 0, Value.int IntKind.u8 0, Value.int IntKind.u8 0, Value.int IntKind.u8 0, Value.int IntKind.u8 0, Value.int IntKind.u8 0, Value.int IntKind.u8 0, Value.int IntKind.u8 0, Value.int IntKind.u8 0, Value.int IntKind.u8 0, Value.int IntKind.u8 0, Value.int IntKind.u8 0, Value.int IntKind.u8 0, Value.int IntKind.u8 0, Value.int IntKind.u8 0, Value.int IntKind.u8 0, Value.int IntKind.u8 0, Value.int IntKind.u8 0, Value.int IntKind.u8 0, Value.int IntKind.u8 0, Value.int IntKind.u8 0, Value.int IntKind.u8 0, Value.int IntKind.u8 0, Value.int IntKind.u8 0, Value.int IntKind.u8 0, Value.int IntKind.u8 0] 24 (0, 0)) := heap_alloc_new _ _
    have hB1 : Below wb.heap.size wb (wb.alloc (.cells #[Value.int IntKind.u8 0, Value.int IntKind.u8 0, Value.int IntKind.u8 0, Value.int IntKind.u8 0, Value.int IntKind.u8 0, Value.int IntKind.u8 0, Value.int IntKind.u8 0, Value.int IntKind.u8 0, Value.int IntKind.u8 0, Value.int IntKind.u8 0, Value.int IntKind.u8 0, Value.int IntKind.u8 0, Value.int IntKind.u8 0, Value.int IntKind.u8 0, Value.int IntKind.u8 0, Value.int IntKind.u8 0, Value.int IntKind.u8 0, Value.int IntKind.u8 0, Value.int IntKind.u8 0, Value.int IntKind.u8 0, Value.int IntKind.u8 0, Value.int IntKind.u8 0, Value.int IntKind.u8 0, Value.int IntKind.u8 0, Value.int IntKind.u8 0, Value.int IntKind.u8 0, Value.int IntKind.u8 0, Value.int IntKind.u8 0, Value.int IntKind.u8 0, Value.int IntKind.u8 0, Value.int IntKind.u8 0, Value.int IntKind.u8 0] 24)) := (Below.refl _ _).alloc (Nat.le_refl _) _
    have HO1 := hid hO1; have HB1 := hid hB1
    clear hO1 hB1
    generalize wb.alloc (.cells #[Value.int IntKind.u8 0, Value.int IntKind.u8 0, Value.int IntKind.u8 0, Value.int IntKind.u8 0, Value.int IntKind.u8 0, Value.int IntKind.u8 0, Value.int IntKind.u8 0, Value.int IntKind.u8 0, Value.int IntKind.u8 0, Value.int IntKind.u8 0, Value.int IntKind.u8 0, Value.int IntKind.u8 0, Value.int IntKind.u8 0, Value.int IntKind.u8 0, Value.int IntKind.u8 0, Value.int IntKind.u8 0, Value.int IntKind.u8 0, Value.int IntKind.u8 0, Value.int IntKind.u8 0, Value.int IntKind.u8 0, Value.int IntKind.u8 0, Value.int IntKind.u8 0, Value.int IntKind.u8 0, Value.int IntKind.u8 0, Value.int IntKind.u8 0, Value.int IntKind.u8 0, Value.int IntKind.u8 0, Value.int IntKind.u8 0, Value.int IntKind.u8 0, Value.int IntKind.u8 0, Value.int IntKind.u8 0, Value.int IntKind.u8 0] 24) = wc at *
    refine hid ?_
    refine wpList_store_row rfl 24 (.tmp 7) (.tmp 13) rfl wb.heap.size _ rfl rfl 24 _ HO1.out (by rw [List.size_toArray, List.length_map, HSL.out]; kernel_rfl) (by show 32 = (S.map (Value.int .u8)).length; rw [List.length_map, HSL.out]) (map_one _) ?_
    have HSE := hid (setRow_heap wc wb.heap.size _ ((S.map (Value.int .u8)).toArray) 24 _ HO1.out)
    have HBE := hid (below_setRow HB1.out (Nat.le_refl _) ((S.map (Value.int .u8)).toArray))
    clear HO1 HB1
    generalize wc.setRow wb.heap.size ((S.map (Value.int .u8)).toArray) = wd at *
    have HRS : Hid (Rd wd .u8 (some ⟨wb.heap.size, 0, none⟩) S) := hid (Rd.row HSE.out (by rw [HSL.out]; omega))
    have HWd := hid (below_then HBw.out HBE.out)
    clear HSE HBE HBw
    generalize (S.map (Value.int .u8)).toArray = SA
    go_wp2_with fail
    go_region_law (first
      | (go_simp; go_at_call 14; refine Calls.mono (live_calls _ (HT.out.below (below_drewN HWd.out 1))) ?_; rintro e w4 ⟨rfl, hB4⟩; have HB4 := hid (show Below wd.heap.size wd w4 from ⟨hB4.os, hB4.tape, hB4.output, hB4.size, hB4.block⟩); clear hB4)
      | (go_simp; go_at_call_of 17 (Value.slice Ak nk ck); refine Calls.mono (mac_calls ck nk c n Ak A key bs HNk.out HN.out _ (HT.out.below (below_then HWd.out HB4.out)) (HRk.out.below (below_then HWd.out HB4.out)) (HR.out.below (below_then HWd.out HB4.out)) HAk.out HA.out HBk.out HBb.out (by omega) (by omega)) ?_; rintro e w5 ⟨rfl, hB5⟩; rw [HMR.out]; have HB5 := hid (below_then HB4.out hB5); clear hB5)
      | (go_simp; go_at_call_of 17 (Value.slice (some ⟨wb.heap.size, 0, none⟩) 32 32); refine Calls.mono (mac_calls 32 32 c n _ A S bs HSL.out HN.out _ (HT.out.below (below_then HWd.out HB5.out)) (HRS.out.below HB5.out) (HR.out.below (below_then HWd.out HB5.out)) (fun h => by simp at h) HA.out HSB.out HBb.out (by omega) (by omega)) ?_; rintro e w6 ⟨rfl, hB6⟩; rw [HML2.out]; have HB6 := hid (below_then HB5.out hB6); clear hB6))
    all_goals
      go_wp2
      go_ret
      exact ⟨rfl, below_then HWd.out HB6.out⟩
  · have hli : ¬ (64 : Int) < (nk : Int) := by omega
    have hd0 : (65 : Int) - (nk : Int) ≠ 0 := by omega
    have hm0 := Int.emod_nonneg z hd0
    have hm1 := Int.emod_lt_of_pos z (show (0 : Int) < 65 - (nk : Int) by omega)
    obtain ⟨m, hm⟩ := Int.eq_ofNat_of_zero_le hm0
    rw [hm] at hm0 hm1
    have hmk2 : nk + m ≤ 64 := by omega
    have HMZ2 : Box (((mac (key ++ List.replicate m 0) bs).map (Value.int .u8)).toArray = MR) := ⟨HMZ.out m hmk2⟩
    have HKZ : Hid ((key ++ List.replicate m 0).length = nk + m) := hid (by rw [List.length_append, HNk.out, List.length_replicate])
    have HKB : Hid (Bytes (key ++ List.replicate m 0)) := hid (HBk.out.append (fun x hx => by rw [List.eq_of_mem_replicate hx]; omega))
    clear HMZ HML hm0 hm1
    go_wp2_with (go_at_call 14; refine hold ?_)
    refine hid ?_
    refine Calls.mono (live_calls w HT.out) ?_
    rintro e w1 ⟨rfl, hB1⟩
    have HB1 := hid hB1
    clear hB1
    go_wp2_with (go_at_call 17; refine hold ?_)
    refine hid ?_
    refine Calls.mono (mac_calls ck nk c n Ak A key bs HNk.out HN.out w1 (HT.out.below HB1.out) (HRk.out.below HB1.out) (HR.out.below HB1.out) HAk.out HA.out HBk.out HBb.out (by omega) (by omega)) ?_
    rintro e w2 ⟨rfl, hB2⟩
    rw [HMR.out]
    have HB2 := hid (below_then HB1.out hB2)
    clear hB2 HB1
    go_wp2_with (at_builtin; refine hold ?_)
    refine hid ?_
    refine wpList_app2 rfl _ _ 22 5 .u8 1 rfl elemB w2.heap.size _ [] rfl (Own.lit w2 5 .u8 w2.heap.size (Nat.le_refl _) [] #[] 0 rfl rfl (by decide)) Ak ck nk key rfl HNk.out HAk.out ((HRk.out.below HB2.out).below ((Below.refl _ _).alloc (Nat.le_refl _) _)) (by simp; omega) (by simp [maxLen]; omega) (by simp) ?_
    intro v3 w3 ho3 hg3 hat3
    have hb3 : Below w2.heap.size w2 w3 := below_own ((Below.refl _ _).alloc (Nat.le_refl _) _) hg3 (fun q hq => Nat.le_of_eq (Option.some.inj hq))
    rw [List.nil_append] at ho3
    have HO3 := hid ho3; have HB3 := hid hb3
    clear ho3 hb3 hg3 hat3
    go_wp2_with (at_builtin; refine hold ?_)
    refine hid ?_
    refine wpList_app0 rfl _ _ 22 3 5 .u8 .i64 .i64 1 rfl elemB (by kernel_rfl) w2.heap.size v3 key rfl HO3.out m rfl (by rw [HNk.out]; omega) (by rw [HNk.out]; simp [maxLen]; omega) HB3.out.size ?_
    intro v4 w4 ho4 hg4 hat4
    have hb4 : Below w2.heap.size w2 w4 := below_own HB3.out hg4 (fun q hq => (HO3.out.lt q hq).1)
    obtain ⟨A4, c4, rfl, hA4, hR4, _⟩ := ho4.rd (by rw [HKZ.out]; omega)
    rw [HKZ.out]
    have HB4 := hid (below_then HB2.out hb4)
    have HA4 := hid hA4; have HR4 := hid hR4
    clear ho4 hb4 hg4 hat4 hA4 hR4 HO3 HB3 HB2
    go_wp2_with (go_at_call 17; refine hold ?_)
    refine hid ?_
    refine Calls.mono (mac_calls c4 (nk + m) c n A4 A (key ++ List.replicate m 0) bs HKZ.out HN.out w4 (HT.out.below HB4.out) HR4.out (HR.out.below HB4.out) HA4.out HA.out HKB.out HBb.out (by omega) (by omega)) ?_
    rintro e w5 ⟨rfl, hB5⟩
    rw [HMZ2.out]
    go_wp2
    go_ret
    exact ⟨rfl, below_then HB4.out hB5⟩
end Go.Proofs.YtaieajfgcnaedaaDoor
