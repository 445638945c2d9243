/-
  WALK of layer 2: the law SumsLinear.
-/
import Derived.Test.YteepfkolibeekaaSumsY
import Derived.Test.YteepfkolibeekaaSumsS
import Derived.Deep.RegionHeld3
import Derived.Test.YteepfkolibeekaaMk
set_option linter.unusedVariables false
set_option linter.unusedSimpArgs false
namespace Go.Proofs.Yteepfkolibeekaa
open Go.RowKit

theorem zip_take (xs ys : List Int) (t : Nat) (hx : t < xs.length) (hy : t < ys.length) : List.zipWith xorb (xs.take (t + 1)) (ys.take (t + 1)) = List.zipWith xorb (xs.take t) (ys.take t) ++ [xorb (xs.getD t 0) (ys.getD t 0)] := by
  rw [List.take_succ_eq_append_getElem hx, List.take_succ_eq_append_getElem hy, List.zipWith_append (by simp; omega)]
  simp [List.getD_eq_getElem?_getD, hx, hy]
theorem xz_bytes : ∀ {u v : List Int}, Bytes u → Bytes v → Bytes (List.zipWith xorb u v)
  | [], _, _, _ => fun x hx => by simp at hx
  | _ :: _, [], _, _ => fun x hx => by simp at hx
  | a :: u, b :: v, hu, hv => fun x hx => by
    simp only [List.zipWith_cons_cons, List.mem_cons] at hx
    rcases hx with rfl | hx
    · exact xorb_range a b (hu a (by simp)) (hv b (by simp))
    · exact xz_bytes (fun z hz => hu z (by simp [hz])) (fun z hz => hv z (by simp [hz])) x hx
theorem rd_own {w : World} {base : Nat} {e : TypeId} {k : IntKind} {g n c : Nat} {xs : List Int} (h : Own w base e k (.slice (some ⟨g, 0, none⟩) n c) xs) (hl : xs.length ≤ 140737488355328 := by simp; omega) : Rd w k (some ⟨g, 0, none⟩) xs := by
  obtain ⟨A, c', e, _, hR, _⟩ := h.rd hl
  injection e with e1 _ _
  rw [e1]; exact hR
theorem Rd.take {w : World} {k : IntKind} {A : Option Addr} {xs : List Int} (h : Rd w k A xs) (t : Nat) : Rd w k A (xs.take t) :=
  ⟨by have := h.len; simp; omega, fun j hj => by
    have hj' : j < xs.length := by simp at hj; omega
    obtain ⟨b, o, e, hl, hc⟩ := h.at_ j hj'
    refine ⟨b, o, e, hl, hc.trans ?_⟩
    have hjt : j < t := by simp at hj; omega
    simp [List.getD_eq_getElem?_getD, hjt]⟩

set_option maxHeartbeats 6400000 in
theorem SumsLinear_calls (c c2 la lb : Nat) (A B : Option Addr) (xs ys : List Int) (hla : xs.length = la) (hlb : ys.length = lb) (w : World) (hR : Rd w .u8 A xs) (hS : Rd w .u8 B ys) (hx : Bytes xs) (hy : Bytes ys) (hca : la ≤ c) (hcb : lb ≤ c2) (h47 : la ≤ 140737488351232) (hcc : c ≤ 140737488351232) (hcc2 : c2 ≤ 140737488351232) :
    Calls Try.prog 4 #[.slice A la c, .slice B lb c2] w fun e w' => e = .returned (.bool true) ∧ Below w.heap.size w w' := by
  have HR := hid hR; clear hR
  have HS := hid hS; clear hS
  have HX := hid hx; clear hx
  have HY := hid hy; clear hy
  have HLA := hid hla; clear hla
  have HLB := hid hlb; clear hlb
  rcases Nat.lt_or_ge lb la with hle | hle
  rotate_left
  · have hi : (la : Int) ≤ (lb : Int) := by omega
    have hna : la ≤ la := Nat.le_refl _
    have hnb : la ≤ lb := hle
    have HL := hid (crc_linear (xs.take la) (ys.take la) (HX.out.sub fun z hz => List.mem_of_mem_take hz) (HY.out.sub fun z hz => List.mem_of_mem_take hz) (by simp [HLA.out, HLB.out]; omega))
    go_enter Try.func4, Try.ntmps4
    go_wp2_with fail
    go_loopw [6, 7] (fun v i wr => ∃ t : Nat, t ≤ la ∧ i = .int .i64 t ∧ Own wr w.heap.size 5 .u8 v (List.zipWith xorb (xs.take t) (ys.take t)) ∧ Below w.heap.size w wr) (fun _ i _ => la - (intOf i).toNat)
    case atStart => exact ⟨0, Nat.zero_le _, rfl, Own.nil _ _ _ _, Below.refl _ _⟩
    case round =>
      obtain ⟨t, ht, rfl, ho, hb⟩ := hrel
      by_cases hlt : t < la
      · obtain ⟨b1, o1, rfl, hl1⟩ := HR.out.form t (by rw [HLA.out]; omega)
        obtain ⟨b2, o2, rfl, hl2⟩ := HS.out.form t (by rw [HLB.out]; omega)
        have c1 := (HR.out.below hb).cell t (by rw [HLA.out]; omega)
        have c2' := (HS.out.below hb).cell t (by rw [HLB.out]; omega)
        have HZ := hid (zip_take xs ys t (by rw [HLA.out]; omega) (by rw [HLB.out]; omega))
        have HZL : Hid ((List.zipWith xorb (xs.take t) (ys.take t)).length = t) := by show _ = _; simp [HLA.out, HLB.out]; omega
        have HC1 := hid (HR.out.cell t (by rw [HLA.out]; omega))
        have HC2 := hid (HS.out.cell t (by rw [HLB.out]; omega))
        generalize xs.getD t 0 = x at *
        generalize ys.getD t 0 = y at *
        have HO := hid ho; clear ho
        have HB := hid hb
        have hsz := hb.size
        clear hb
        have ht0 : (0 : Int) ≤ (t : Int) := by omega
        have ht1 : (t : Int) < (la : Int) := by omega
        have ht2 : (t : Int) < (lb : Int) := by omega
        go_wp2_with fail
        obtain ⟨wo, rfl⟩ : ∃ wo : World, wo = wr := ⟨_, rfl⟩
        go_region_held3 (fun w' => w'.cell? ⟨b1, o1 + t, none⟩ = some (.int .u8 x) ∧ w'.cell? ⟨b2, o2 + t, none⟩ = some (.int .u8 y)) (first | exact ⟨c1, c2'⟩ | exact ⟨d1, d2⟩ | go_keep) (first | (refine step_app (by rfl) _ _ 22 5 .u8 1 (by rfl) elemB w.heap.size _ (List.zipWith xorb (xs.take t) (ys.take t)) (by rfl) (HO.out.below ((Below.refl _ _).alloc (Nat.le_refl _) _).drew) (some ⟨wo.heap.size, 0, none⟩) 1 1 [xorb x y] (by rfl) rfl (by simp) (Rd_new wo .u8 5 (0, 0) _ _ rfl (by simp) _ _ (heap_alloc_new wo _)) (by rw [HZL.out]; omega) (by rw [HZL.out]; simp [maxLen]; omega) (by simp; omega) ?_; intro v1 w1 ho1 hg1; have hb1 : Below w.heap.size w w1 := below_own (below_then HB.out ((Below.refl _ _).alloc (Nat.le_refl _) _).drew) hg1 (fun g hg => (HO.out.lt g hg).1); have d1 : w1.cell? ⟨b1, o1 + t, none⟩ = some (.int .u8 x) := (hb1.cell (by exact hl1)).trans HC1.out; have d2 : w1.cell? ⟨b2, o2 + t, none⟩ = some (.int .u8 y) := (hb1.cell (by exact hl2)).trans HC2.out))
        rw [← HZ.out] at ho1
        clear hg1
        go_wp2
        go_roundw
        case rel => exact ⟨t + 1, by omega, by go_num, ho1, hb1⟩
        case measure => simp [intOf]; omega
      · obtain rfl : t = la := by omega
        have HNN := hid hnb; clear hnb hi hna ht
        have hzl : (List.zipWith xorb (xs.take t) (ys.take t)).length = t := by simp [HLA.out, HLB.out]; omega
        have hzb : Bytes (List.zipWith xorb (xs.take t) (ys.take t)) := xz_bytes (HX.out.sub fun z hz => List.mem_of_mem_take hz) (HY.out.sub fun z hz => List.mem_of_mem_take hz)
        obtain ⟨A9, c9, e9, hA9, hR9, _⟩ := ho.rd (by rw [hzl]; omega)
        rw [hzl] at e9
        subst e9
        have kC : ∀ W, Below wr.heap.size wr W → Calls Try.prog 13 #[.slice A9 t c9] W fun e W' => e = .returned (.int .u32 (crc (List.zipWith xorb (xs.take t) (ys.take t)))) ∧ Below W.heap.size W W' := fun W hW => crc_calls' c9 t A9 _ hzl W (hR9.below hW) hzb
        have kA : ∀ W, Below wr.heap.size wr W → Calls Try.prog 13 #[.slice A t c] W fun e W' => e = .returned (.int .u32 (crc (xs.take t))) ∧ Below W.heap.size W W' := fun W hW => crc_calls' c t A _ (by simp [HLA.out]) W ((HR.out.take t).below (below_then hb hW)) (HX.out.sub fun z hz => List.mem_of_mem_take hz)
        have kB : ∀ W, Below wr.heap.size wr W → Calls Try.prog 13 #[.slice B t c2] W fun e W' => e = .returned (.int .u32 (crc (ys.take t))) ∧ Below W.heap.size W W' := fun W hW => crc_calls' c2 t B _ (by simp [HLB.out]; omega) W ((HS.out.take t).below (below_then hb hW)) (HY.out.sub fun z hz => List.mem_of_mem_take hz)
        have kZ : ∀ W g, Rd W .u8 (some ⟨g, 0, none⟩) (List.replicate t 0) → Calls Try.prog 13 #[.slice (some ⟨g, 0, none⟩) t t] W fun e W' => e = .returned (.int .u32 (crc (List.replicate (xs.take t).length 0))) ∧ Below W.heap.size W W' := fun W g hW => by
          have e : (xs.take t).length = t := by simp [HLA.out]
          rw [e]
          exact crc_calls' t t _ _ (by simp) W hW (fun x hx => by simp at hx; omega)
        generalize crc (List.zipWith xorb (xs.take t) (ys.take t)) = K0 at *
        generalize crc (xs.take t) = K1 at *
        generalize crc (ys.take t) = K2 at *
        generalize crc (List.replicate (xs.take t).length 0) = K3 at *
        have KC := hid kC; have KA := hid kA; have KB := hid kB; have KZ := hid kZ
        clear kC kA kB kZ hzl hzb hR9 ho
        have HB := hid hb
        clear hb
        have ht0 : (0 : Int) ≤ (t : Int) := by omega
        have hS0 : Below wr.heap.size wr wr := Below.refl _ _
        have htc : (t : Int) ≤ (c : Int) := by omega
        have htc2 : (t : Int) ≤ (c2 : Int) := by have := HNN.out; omega
        go_wp2_with fail
        go_region_held3 (fun w' => Below wr.heap.size wr w') (first | exact hS0 | exact hS0.drew | assumption) (first | (refine Calls.mono (live_calls _) ?_; rintro e w1 ⟨rfl, hb1⟩; have hS0 : Below wr.heap.size wr w1 := below_then (by assumption) hb1) | (with_reducible refine Calls.mono (KC.out _ (by assumption)) ?_; rintro e w1 ⟨rfl, hb1⟩; have hS0 : Below wr.heap.size wr w1 := below_then (by assumption) hb1; try have hz := hid (hz.out.below hb1)) | (with_reducible refine Calls.mono (KA.out _ (by assumption)) ?_; rintro e w1 ⟨rfl, hb1⟩; have hS0 : Below wr.heap.size wr w1 := below_then (by assumption) hb1; try have hz := hid (hz.out.below hb1)) | (with_reducible refine Calls.mono (KB.out _ (by assumption)) ?_; rintro e w1 ⟨rfl, hb1⟩; have hS0 : Below wr.heap.size wr w1 := below_then (by assumption) hb1; try have hz := hid (hz.out.below hb1)) | (with_reducible refine Calls.mono (KZ.out _ _ hz.out) ?_; rintro e w1 ⟨rfl, hb1⟩; have hS0 : Below wr.heap.size wr w1 := below_then (by assumption) hb1) | (refine upon_mk 22 5 .u8 1 elemB 0 .i64 .i64 t (by omega) (by simp [maxLen]; omega) (Nat.zero_le _) ?_; intro w1 hz0 hb1; have hS0 : Below wr.heap.size wr w1 := below_then (by assumption) hb1; have hz := hid (rd_own hz0)))
        all_goals
          go_wp2
          go_ret
          refine ⟨ret_bool ?_, below_then HB.out hS0⟩
          have e := HL.out
          simp [e]
  · have hi : (lb : Int) < (la : Int) := by omega
    have hna : lb ≤ la := by omega
    have hnb : lb ≤ lb := Nat.le_refl _
    have HL := hid (crc_linear (xs.take lb) (ys.take lb) (HX.out.sub fun z hz => List.mem_of_mem_take hz) (HY.out.sub fun z hz => List.mem_of_mem_take hz) (by simp [HLA.out, HLB.out]; omega))
    go_enter Try.func4, Try.ntmps4
    go_wp2_with fail
    go_loopw [6, 7] (fun v i wr => ∃ t : Nat, t ≤ lb ∧ i = .int .i64 t ∧ Own wr w.heap.size 5 .u8 v (List.zipWith xorb (xs.take t) (ys.take t)) ∧ Below w.heap.size w wr) (fun _ i _ => lb - (intOf i).toNat)
    case atStart => exact ⟨0, Nat.zero_le _, rfl, Own.nil _ _ _ _, Below.refl _ _⟩
    case round =>
      obtain ⟨t, ht, rfl, ho, hb⟩ := hrel
      by_cases hlt : t < lb
      · obtain ⟨b1, o1, rfl, hl1⟩ := HR.out.form t (by rw [HLA.out]; omega)
        obtain ⟨b2, o2, rfl, hl2⟩ := HS.out.form t (by rw [HLB.out]; omega)
        have c1 := (HR.out.below hb).cell t (by rw [HLA.out]; omega)
        have c2' := (HS.out.below hb).cell t (by rw [HLB.out]; omega)
        have HZ := hid (zip_take xs ys t (by rw [HLA.out]; omega) (by rw [HLB.out]; omega))
        have HZL : Hid ((List.zipWith xorb (xs.take t) (ys.take t)).length = t) := by show _ = _; simp [HLA.out, HLB.out]; omega
        have HC1 := hid (HR.out.cell t (by rw [HLA.out]; omega))
        have HC2 := hid (HS.out.cell t (by rw [HLB.out]; omega))
        generalize xs.getD t 0 = x at *
        generalize ys.getD t 0 = y at *
        have HO := hid ho; clear ho
        have HB := hid hb
        have hsz := hb.size
        clear hb
        have ht0 : (0 : Int) ≤ (t : Int) := by omega
        have ht1 : (t : Int) < (la : Int) := by omega
        have ht2 : (t : Int) < (lb : Int) := by omega
        go_wp2_with fail
        obtain ⟨wo, rfl⟩ : ∃ wo : World, wo = wr := ⟨_, rfl⟩
        go_region_held3 (fun w' => w'.cell? ⟨b1, o1 + t, none⟩ = some (.int .u8 x) ∧ w'.cell? ⟨b2, o2 + t, none⟩ = some (.int .u8 y)) (first | exact ⟨c1, c2'⟩ | exact ⟨d1, d2⟩ | go_keep) (first | (refine step_app (by rfl) _ _ 22 5 .u8 1 (by rfl) elemB w.heap.size _ (List.zipWith xorb (xs.take t) (ys.take t)) (by rfl) (HO.out.below ((Below.refl _ _).alloc (Nat.le_refl _) _).drew) (some ⟨wo.heap.size, 0, none⟩) 1 1 [xorb x y] (by rfl) rfl (by simp) (Rd_new wo .u8 5 (0, 0) _ _ rfl (by simp) _ _ (heap_alloc_new wo _)) (by rw [HZL.out]; omega) (by rw [HZL.out]; simp [maxLen]; omega) (by simp; omega) ?_; intro v1 w1 ho1 hg1; have hb1 : Below w.heap.size w w1 := below_own (below_then HB.out ((Below.refl _ _).alloc (Nat.le_refl _) _).drew) hg1 (fun g hg => (HO.out.lt g hg).1); have d1 : w1.cell? ⟨b1, o1 + t, none⟩ = some (.int .u8 x) := (hb1.cell (by exact hl1)).trans HC1.out; have d2 : w1.cell? ⟨b2, o2 + t, none⟩ = some (.int .u8 y) := (hb1.cell (by exact hl2)).trans HC2.out))
        rw [← HZ.out] at ho1
        clear hg1
        go_wp2
        go_roundw
        case rel => exact ⟨t + 1, by omega, by go_num, ho1, hb1⟩
        case measure => simp [intOf]; omega
      · obtain rfl : t = lb := by omega
        have HNN := hid hna; clear hnb hi hna ht
        have hzl : (List.zipWith xorb (xs.take t) (ys.take t)).length = t := by have := HNN.out; simp [HLA.out, HLB.out]; omega
        have hzb : Bytes (List.zipWith xorb (xs.take t) (ys.take t)) := xz_bytes (HX.out.sub fun z hz => List.mem_of_mem_take hz) (HY.out.sub fun z hz => List.mem_of_mem_take hz)
        obtain ⟨A9, c9, e9, hA9, hR9, _⟩ := ho.rd (by rw [hzl]; omega)
        rw [hzl] at e9
        subst e9
        have kC : ∀ W, Below wr.heap.size wr W → Calls Try.prog 13 #[.slice A9 t c9] W fun e W' => e = .returned (.int .u32 (crc (List.zipWith xorb (xs.take t) (ys.take t)))) ∧ Below W.heap.size W W' := fun W hW => crc_calls' c9 t A9 _ hzl W (hR9.below hW) hzb
        have kA : ∀ W, Below wr.heap.size wr W → Calls Try.prog 13 #[.slice A t c] W fun e W' => e = .returned (.int .u32 (crc (xs.take t))) ∧ Below W.heap.size W W' := fun W hW => crc_calls' c t A _ (by simp [HLA.out]; have := HNN.out; omega) W ((HR.out.take t).below (below_then hb hW)) (HX.out.sub fun z hz => List.mem_of_mem_take hz)
        have kB : ∀ W, Below wr.heap.size wr W → Calls Try.prog 13 #[.slice B t c2] W fun e W' => e = .returned (.int .u32 (crc (ys.take t))) ∧ Below W.heap.size W W' := fun W hW => crc_calls' c2 t B _ (by simp [HLB.out]) W ((HS.out.take t).below (below_then hb hW)) (HY.out.sub fun z hz => List.mem_of_mem_take hz)
        have kZ : ∀ W g, Rd W .u8 (some ⟨g, 0, none⟩) (List.replicate t 0) → Calls Try.prog 13 #[.slice (some ⟨g, 0, none⟩) t t] W fun e W' => e = .returned (.int .u32 (crc (List.replicate (xs.take t).length 0))) ∧ Below W.heap.size W W' := fun W g hW => by
          have e : (xs.take t).length = t := by have := HNN.out; simp [HLA.out]; omega
          rw [e]
          exact crc_calls' t t _ _ (by simp) W hW (fun x hx => by simp at hx; omega)
        generalize crc (List.zipWith xorb (xs.take t) (ys.take t)) = K0 at *
        generalize crc (xs.take t) = K1 at *
        generalize crc (ys.take t) = K2 at *
        generalize crc (List.replicate (xs.take t).length 0) = K3 at *
        have KC := hid kC; have KA := hid kA; have KB := hid kB; have KZ := hid kZ
        clear kC kA kB kZ hzl hzb hR9 ho
        have HB := hid hb
        clear hb
        have ht0 : (0 : Int) ≤ (t : Int) := by omega
        have hS0 : Below wr.heap.size wr wr := Below.refl _ _
        have htc : (t : Int) ≤ (c : Int) := by have := HNN.out; omega
        have htc2 : (t : Int) ≤ (c2 : Int) := by omega
        go_wp2_with fail
        go_region_held3 (fun w' => Below wr.heap.size wr w') (first | exact hS0 | exact hS0.drew | assumption) (first | (refine Calls.mono (live_calls _) ?_; rintro e w1 ⟨rfl, hb1⟩; have hS0 : Below wr.heap.size wr w1 := below_then (by assumption) hb1) | (with_reducible refine Calls.mono (KC.out _ (by assumption)) ?_; rintro e w1 ⟨rfl, hb1⟩; have hS0 : Below wr.heap.size wr w1 := below_then (by assumption) hb1; try have hz := hid (hz.out.below hb1)) | (with_reducible refine Calls.mono (KA.out _ (by assumption)) ?_; rintro e w1 ⟨rfl, hb1⟩; have hS0 : Below wr.heap.size wr w1 := below_then (by assumption) hb1; try have hz := hid (hz.out.below hb1)) | (with_reducible refine Calls.mono (KB.out _ (by assumption)) ?_; rintro e w1 ⟨rfl, hb1⟩; have hS0 : Below wr.heap.size wr w1 := below_then (by assumption) hb1; try have hz := hid (hz.out.below hb1)) | (with_reducible refine Calls.mono (KZ.out _ _ hz.out) ?_; rintro e w1 ⟨rfl, hb1⟩; have hS0 : Below wr.heap.size wr w1 := below_then (by assumption) hb1) | (refine upon_mk 22 5 .u8 1 elemB 0 .i64 .i64 t (by omega) (by simp [maxLen]; omega) (Nat.zero_le _) ?_; intro w1 hz0 hb1; have hS0 : Below wr.heap.size wr w1 := below_then (by assumption) hb1; have hz := hid (rd_own hz0)))
        all_goals
          go_wp2
          go_ret
          refine ⟨ret_bool ?_, below_then HB.out hS0⟩
          have e := HL.out
          simp [e]
end Go.Proofs.Yteepfkolibeekaa
