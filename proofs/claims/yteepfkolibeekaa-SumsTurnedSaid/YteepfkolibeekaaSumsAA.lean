/-
  WALK of layer 2: the law SumsTurned.
-/
import Derived.Test.YteepfkolibeekaaSumsV
import Derived.Test.YteepfkolibeekaaSumsR
import Derived.BigRegion
set_option linter.unusedVariables false
set_option linter.unusedSimpArgs false
namespace Go.Proofs.Yteepfkolibeekaa
open Go.RowKit

theorem xorb_same {x y : Int} (hx : 0 ≤ x ∧ x < 256) (hy : 0 ≤ y ∧ y < 256) : xorb x y = x ↔ y = 0 := by
  rw [xorb_nat x y hx hy]
  constructor
  · intro h
    have h1 : x.toNat ^^^ y.toNat = x.toNat := by omega
    have h2 : y.toNat = 0 := by
      apply Nat.eq_of_testBit_eq
      intro i
      have := congrArg (fun n => n.testBit i) h1
      simp only [Nat.testBit_xor] at this
      revert this
      cases x.toNat.testBit i <;> cases y.toNat.testBit i <;> simp
    omega
  · intro h
    subst h
    simp; omega

theorem from_place (at_ : Int) (n : Nat) (ha : -9223372036854775808 ≤ at_ ∧ at_ ≤ 9223372036854775807) (hn : 12 < n) (hl : n ≤ 140737488351232) :
    ∃ fr : Nat, wrap64 (12 + wrap64 ((IntKind.u64.wrap at_).tmod ((n : Int) - 12))) = fr ∧ 12 ≤ fr ∧ fr < n := by
  have h0 : 0 ≤ IntKind.u64.wrap at_ := by rw [IntKind.wrap_u64]; omega
  rw [Int.tmod_eq_emod_of_nonneg h0]
  have h1 := Int.emod_nonneg (IntKind.u64.wrap at_) (show (n : Int) - 12 ≠ 0 by omega)
  have h2 := Int.emod_lt_of_pos (IntKind.u64.wrap at_) (show (0 : Int) < (n : Int) - 12 by omega)
  generalize IntKind.u64.wrap at_ % ((n : Int) - 12) = r at *
  refine ⟨(12 + r).toNat, ?_, by omega, by omega⟩
  unfold wrap64
  omega
/-- What t rounds have laid. -/
def ST (z : List Int) (fr : Nat) (bys : List Int) (t : Nat) : List Int := List.zipWith xorb ((z.drop fr).take t) (bys.take t)
def anyb (bys : List Int) (t : Nat) : Bool := (bys.take t).any fun y => y != 0
theorem ST_len (z : List Int) (fr : Nat) (bys : List Int) (t : Nat) (h : fr + t ≤ z.length) (hb : t ≤ bys.length) : (ST z fr bys t).length = t := by
  simp [ST]; omega
theorem ST_succ (z : List Int) (fr : Nat) (bys : List Int) (t : Nat) (h : fr + t < z.length) (hb : t < bys.length) : ST z fr bys (t + 1) = ST z fr bys t ++ [xorb (z.getD (fr + t) 0) (bys.getD t 0)] := by
  unfold ST
  have h1 : t < (z.drop fr).length := by simp; omega
  rw [List.take_succ_eq_append_getElem h1, List.take_succ_eq_append_getElem hb, List.zipWith_append (by simp; omega)]
  simp [List.getD_eq_getElem?_getD, h, hb]
theorem anyb_succ (bys : List Int) (t : Nat) (hb : t < bys.length) : anyb bys (t + 1) = (anyb bys t || bys.getD t 0 != 0) := by
  unfold anyb
  rw [List.take_succ_eq_append_getElem hb, List.any_append]
  simp [List.getD_eq_getElem?_getD, hb]
theorem zip_bytes : ∀ {u v : List Int}, Bytes u → Bytes v → Bytes (List.zipWith xorb u v)
  | [], _, _, _ => by simp [Bytes]
  | _ :: _, [], _, _ => by simp [Bytes]
  | x :: u, y :: v, hu, hv => by
    have h1 := xorb_range x y (hu x (by simp)) (hv y (by simp))
    exact Bytes.cons h1.1 h1.2 (zip_bytes (fun z hz => hu z (List.mem_cons_of_mem _ hz)) (fun z hz => hv z (List.mem_cons_of_mem _ hz)))
theorem ST_bytes {z bys : List Int} (hz : Bytes z) (hb : Bytes bys) (fr t : Nat) : Bytes (ST z fr bys t) :=
  zip_bytes (hz.sub fun y hy => List.mem_of_mem_drop (List.mem_of_mem_take hy)) (hb.sub fun y hy => List.mem_of_mem_take hy)
theorem zip_same : ∀ {u v : List Int}, Bytes u → Bytes v → u.length = v.length → (List.zipWith xorb u v = u ↔ (v.any fun y => y != 0) = false)
  | [], [], _, _, _ => by simp
  | [], _ :: _, _, _, h => by simp at h
  | _ :: _, [], _, _, h => by simp at h
  | x :: u, y :: v, hu, hv, h => by
    have ih := zip_same (fun z hz => hu z (List.mem_cons_of_mem _ hz)) (fun z hz => hv z (List.mem_cons_of_mem _ hz)) (show u.length = v.length by simpa using h)
    have h1 := xorb_same (hu x (by simp)) (hv y (by simp))
    rw [List.zipWith_cons_cons, List.cons.injEq, h1, ih, List.any_cons, Bool.or_eq_false_iff, bne_eq_false_iff_eq]
theorem ST_same {z bys : List Int} (hz : Bytes z) (hb : Bytes bys) (fr t : Nat) (h : fr + t ≤ z.length) (ht : t ≤ bys.length) : ST z fr bys t = (z.drop fr).take t ↔ anyb bys t = false :=
  zip_same (hz.sub fun y hy => List.mem_of_mem_drop (List.mem_of_mem_take hy)) (hb.sub fun y hy => List.mem_of_mem_take hy) (by simp; omega)
set_option maxHeartbeats 6400000 in
theorem SumsTurned_calls (c n : Nat) (A : Option Addr) (xs : List Int) (hn : xs.length = n) (at_ b0 b1 b2 b3 : Int) (ha : -9223372036854775808 ≤ at_ ∧ at_ ≤ 9223372036854775807) (hb : Bytes [b0, b1, b2, b3]) (w : World) (hR : Rd w .u8 A xs) (hx : Bytes xs) (hA : A = none → c = 0) (hl : n ≤ 140737488351232) :
    Calls Try.prog 11 #[.slice A n c, .int .i64 at_, .agg #[.int .u8 b0, .int .u8 b1, .int .u8 b2, .int .u8 b3]] w fun e w' => e = .returned (.bool true) ∧ Below w.heap.size w w' := by
  have HR := hid hR; clear hR
  have HX := hid hx; clear hx
  have HN := hid hn; clear hn
  have HA := hid hA; clear hA
  have HBB := hid hb; clear hb
  have hw0 : Below w.heap.size w (w.alloc (.cells #[.int .u8 b0, .int .u8 b1, .int .u8 b2, .int .u8 b3] 38)) := (Below.refl _ _).alloc (Nat.le_refl _) _
  have HW0 := hid hw0; clear hw0
  by_cases h12 : n < 12
  · have hlt : ((n : Int) < 12) := by omega
    have H12 := hid h12; clear h12
    go_enter Try.func11, Try.ntmps11
    go_wp2_with fail
    refine (stamp_short c n A H12.out _).mono ?_
    rintro e w1 ⟨rfl, rfl⟩
    go_wp2_with fail
    refine (live_calls _).mono ?_
    rintro e w5 ⟨rfl, hb5⟩
    go_wp2_with fail
    refine (stamped_short c n A H12.out _).mono ?_
    rintro e w1 ⟨rfl, rfl⟩
    go_wp2
    go_ret
    exact ⟨rfl, below_then HW0.out hb5⟩
  · have H12 : Hid (12 ≤ n) := Nat.le_of_not_lt h12
    clear h12
    go_enter Try.func11, Try.ntmps11
    go_wp2_with fail
    refine (stamp_calls c n A xs HN.out H12.out _ (HR.out.below HW0.out) HX.out HA.out hl).mono ?_
    rintro e w1 ⟨g, c2, rfl, ho1, hb1⟩
    have hl1 := ho1.len.symm
    obtain ⟨A4, c4, e4, _, r4, _⟩ := ho1.rd (by omega)
    injection e4 with e4 e4n e5
    clear e4n
    subst e4 e5
    have HO1 := hid ho1; clear ho1
    have HB1 := hid hb1; clear hb1
    have HR4 := hid r4; clear r4
    have HL1 := hid hl1; clear hl1
    have HFIX : Hid (decide (stamp (stamp xs) = stamp xs) = true) := by
      show _ = _
      rw [decide_eq_true_iff, stamp_iff _ (by rw [HL1.out]; exact H12.out), zeroed_stamp xs (by rw [HN.out]; exact H12.out), stamp_sum xs (by rw [HN.out]; exact H12.out)]
    go_wp2_with fail
    refine (stamped_calls c2 n _ (stamp xs) HL1.out H12.out _ HR4.out (bytes_stamp HX.out) (by simp) hl).mono ?_
    rintro e w2 ⟨rfl, hb2⟩
    rw [HFIX.out]
    by_cases hn12 : n = 12
    · have hz : ((n : Int) == 12) = true := beq_iff_eq.2 (by omega)
      clear hn12
      go_wp2_with fail
      refine (live_calls _).mono ?_
      rintro e w5 ⟨rfl, hb5⟩
      go_wp2
      go_ret
      exact ⟨rfl, below_then (below_then (below_then HW0.out HB1.out) hb2) hb5⟩
    · have hz : ((n : Int) == 12) = false := beq_eq_false_iff_ne.2 (by omega)
      have hgt : 12 < n := by have := H12.out; omega
      clear hn12
      go_wp2_with fail
      obtain ⟨fr, hfr, hfr12, hfrn⟩ := from_place at_ n ha hgt hl
      rw [hfr]
      clear hfr hz
      have HOZ : Hid (Own w2 (w.heap.size + 1) 5 .u8 (.slice (some ⟨g, 0, none⟩) n c2) (stamp xs)) := by
        have h9 := HO1.out.below hb2
        rw [World.size_alloc] at h9
        exact h9
      have HBZ := hid (below_then HW0.out (below_then HB1.out hb2))
      have hsz2 : w.heap.size + 1 ≤ g := by have := (HO1.out.lt g rfl).1; simp at this; omega
      have HBY : Hid (w2.heap[w.heap.size]? = some (.cells #[.int .u8 b0, .int .u8 b1, .int .u8 b2, .int .u8 b3] 38 (0, 0))) := by
        show _ = _
        rw [(below_then HB1.out hb2).block _ (by simp)]
        exact heap_alloc_new w _
      have HZB := hid (bytes_stamp HX.out)
      have HTT : Hid (∀ s : List Int, Bytes s → fr + s.length ≤ n → s.length ≤ 4 → (stamp (splice (stamp xs) fr s) = splice (stamp xs) fr s ↔ s = ((stamp xs).drop fr).take s.length)) := fun s h1 h2 h3 => turned_tells xs s fr HX.out h1 hfr12 (by rw [HN.out]; exact h2) h3
      have hb2' := hid hb2
      clear hb2
      generalize stamp xs = z at *
      clear HFIX
      have HS0 : Hid (splice z fr (ST z fr [b0, b1, b2, b3] 0) = z) := by show _ = _; simp [ST, splice]
      go_loopw [10, 11] (fun tb i wr => ∃ t : Nat, t ≤ 4 ∧ fr + t ≤ n ∧ i = .int .i64 t ∧ tb = .bool (anyb [b0, b1, b2, b3] t) ∧ Own wr (w.heap.size + 1) 5 .u8 (.slice (some ⟨g, 0, none⟩) n c2) (splice z fr (ST z fr [b0, b1, b2, b3] t)) ∧ Hid (wr.heap[w.heap.size]? = some (.cells #[.int .u8 b0, .int .u8 b1, .int .u8 b2, .int .u8 b3] 38 (0, 0))) ∧ Below w.heap.size w wr) (fun _ i _ => 4 - (intOf i).toNat)
      case atStart => exact ⟨0, by omega, by omega, rfl, rfl, by rw [HS0.out]; exact HOZ.out, HBY, HBZ.out⟩
      case round =>
        obtain ⟨t, ht4, htn, rfl, rfl, ho, HBYr, hb⟩ := hrel
        have hsl := ST_len z fr [b0, b1, b2, b3] t (by rw [HL1.out]; exact htn) (by simpa using ht4)
        by_cases hgo : t < 4 ∧ fr + t < n
        · obtain ⟨h4, hfn⟩ := hgo
          have hcy : wr.cell? ⟨w.heap.size, t, none⟩ = some (.int .u8 ([b0, b1, b2, b3].getD t 0)) := by
            have := HBYr.out
            simp only [World.cell?, this]
            rcases (show t = 0 ∨ t = 1 ∨ t = 2 ∨ t = 3 from by omega) with h | h | h | h <;> subst h <;> rfl
          have hln : (splice z fr (ST z fr [b0, b1, b2, b3] t)).length = n := by rw [splice_len (by rw [HL1.out, hsl]; exact htn), HL1.out]
          have hcx := ho.cell (fr + t) (by omega)
          have hfz := ho.free (fr + t)
          have hxy : (splice z fr (ST z fr [b0, b1, b2, b3] t)).getD (fr + t) 0 = z.getD (fr + t) 0 := by
            rw [List.getD_eq_getElem?_getD, splice_at (by rw [HL1.out, hsl]; exact htn), if_neg (by omega), if_neg (by rw [hsl]; omega), List.getD_eq_getElem?_getD]
          rw [hxy] at hcx
          have hst := ho.set (fr + t) (by omega) (xorb (z.getD (fr + t) 0) ([b0, b1, b2, b3].getD t 0))
          have hss := splice_set (xs := z) (ys := ST z fr [b0, b1, b2, b3] t) (off := fr) (xorb (z.getD (fr + t) 0) ([b0, b1, b2, b3].getD t 0)) (by rw [HL1.out, hsl]; exact hfn)
          rw [hsl] at hss
          rw [hss, ← ST_succ z fr [b0, b1, b2, b3] t (by rw [HL1.out]; exact hfn) (by simpa using h4)] at hst
          have HST := hid hst
          have HBN := hid (below_set hb g (fr + t) (.int .u8 (xorb (z.getD (fr + t) 0) ([b0, b1, b2, b3].getD t 0))) (by omega))
          have HAN := hid (anyb_succ [b0, b1, b2, b3] t (by simpa using h4))
          have hne : w.heap.size ≠ g := by omega
          have HBYn : Hid ((wr.setCell ⟨g, fr + t, none⟩ (.int .u8 (xorb (z.getD (fr + t) 0) ([b0, b1, b2, b3].getD t 0)))).heap[w.heap.size]? = some (.cells #[.int .u8 b0, .int .u8 b1, .int .u8 b2, .int .u8 b3] 38 (0, 0))) := by
            show _ = _
            rw [Below.heap_setCell _ _ _ _ hne]; exact HBYr.out
          generalize z.getD (fr + t) 0 = x at *
          generalize [b0, b1, b2, b3].getD t 0 = y at *
          clear ho hb hst hss hln hxy hsl
          have ht0 : (0 : Int) ≤ (t : Int) := by omega
          have ht1 : (t : Int) < 4 := by omega
          have ht2 : (fr : Int) + (t : Int) < (n : Int) := by omega
          have ht3 : (0 : Int) ≤ (fr : Int) + (t : Int) := by omega
          have ht4 : ((fr : Int) + (t : Int)).toNat = fr + t := by omega
          have ht5 : IntKind.i64.wrap ((fr : Int) + (t : Int)) = (fr : Int) + (t : Int) := IntWalk.i64_in _ (by omega)
          have hxr : x = x := rfl
          cases htb : anyb [b0, b1, b2, b3] t with
          | true =>
            have HTB := hid htb; clear htb hxr
            go_wp2_with fail
            go_region
            go_wp2_with fail
            go_roundw
            case rel => exact ⟨t + 1, by omega, by omega, by go_num, by rw [HAN.out, HTB.out]; rfl, HST.out, HBYn, HBN.out.drew⟩
            case measure => simp [intOf]; omega
          | false =>
            have HTB := hid htb; clear htb hxr
            go_wp2_with fail
            go_region
            go_wp2_with fail
            go_roundw
            case rel => exact ⟨t + 1, by omega, by omega, by go_num, by rw [HAN.out, HTB.out]; rfl, HST.out, HBYn, HBN.out.drew⟩
            case measure => simp [intOf]; omega
        · have hln : (splice z fr (ST z fr [b0, b1, b2, b3] t)).length = n := by rw [splice_len (by rw [HL1.out, hsl]; exact htn), HL1.out]
          have hsb : Bytes (ST z fr [b0, b1, b2, b3] t) := ST_bytes HZB.out HBB.out fr t
          have hcb : Bytes (splice z fr (ST z fr [b0, b1, b2, b3] t)) := bytes_splice HZB.out hsb fr
          have HDEC : Hid (decide (stamp (splice z fr (ST z fr [b0, b1, b2, b3] t)) = splice z fr (ST z fr [b0, b1, b2, b3] t)) = !anyb [b0, b1, b2, b3] t) := by
            show _ = _
            have h1 := HTT.out _ hsb (by rw [hsl]; exact htn) (by rw [hsl]; exact ht4)
            rw [hsl] at h1
            have h2 := ST_same HZB.out HBB.out fr t (by rw [HL1.out]; exact htn) (by simpa using ht4)
            cases hx2 : anyb [b0, b1, b2, b3] t with
            | true =>
              rw [Bool.not_true, decide_eq_false_iff_not]
              intro h3
              have := h2.1 (h1.1 h3)
              rw [hx2] at this
              cases this
            | false =>
              rw [Bool.not_false, decide_eq_true_iff]
              exact h1.2 (h2.2 hx2)
          obtain ⟨A9, c9, e9, _, hR9, _⟩ := ho.rd (by omega)
          injection e9 with e9 e9n e10
          clear e9n
          subst e9 e10
          have HBE := hid hb
          clear ho hb hsl HTT
          by_cases h4 : t = 4
          · have h5 : ¬ ((t : Int) < 4) := by omega
            clear h4
            go_wp2_with fail
            refine (live_calls _).mono ?_
            rintro e w5 ⟨rfl, hb5⟩
            go_wp2_with fail
            refine (stamped_calls c2 n _ _ hln H12.out _ (hR9.below hb5) hcb (by simp) hl).mono ?_
            rintro e w6 ⟨rfl, hb6⟩
            rw [HDEC.out]
            cases htb : anyb [b0, b1, b2, b3] t with
            | true =>
              clear htb
              go_wp2
              go_ret
              exact ⟨rfl, below_then (below_then HBE.out hb5) hb6⟩
            | false =>
              clear htb
              go_wp2
              go_ret
              exact ⟨rfl, below_then (below_then HBE.out hb5) hb6⟩
          · have h5 : (t : Int) < 4 := by omega
            have h6 : ¬ ((fr : Int) + (t : Int) < (n : Int)) := by omega
            clear h4
            go_wp2_with fail
            refine (live_calls _).mono ?_
            rintro e w5 ⟨rfl, hb5⟩
            go_wp2_with fail
            refine (stamped_calls c2 n _ _ hln H12.out _ (hR9.below hb5) hcb (by simp) hl).mono ?_
            rintro e w6 ⟨rfl, hb6⟩
            rw [HDEC.out]
            cases htb : anyb [b0, b1, b2, b3] t with
            | true =>
              clear htb
              go_wp2
              go_ret
              exact ⟨rfl, below_then (below_then HBE.out hb5) hb6⟩
            | false =>
              clear htb
              go_wp2
              go_ret
              exact ⟨rfl, below_then (below_then HBE.out hb5) hb6⟩
end Go.Proofs.Yteepfkolibeekaa
