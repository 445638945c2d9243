/-
  LAYER 5, WALKS: HashSame.
-/
import Derived.Test.YtaieajfgcnaedaaDoorHashI
import Derived.Deep.RegionLaw
import Derived.BigRegion
set_option linter.unusedVariables false
set_option linter.unusedSimpArgs false
namespace Go.Proofs.YtaieajfgcnaedaaDoor
open Go.RowKit

theorem str_eq {xs ys : List Int} (hx : Bytes xs) (hy : Bytes ys) : ((strOfNums xs).toList == (strOfNums ys).toList) = decide (xs = ys) := by
  by_cases h : xs = ys
  · subst h; simp
  · rw [decide_eq_false h, beq_eq_false_iff_ne]
    intro h1
    apply h
    apply str_inj hx hy
    have h2 : (strOfNums xs).data.toList = (strOfNums ys).data.toList := by
      rw [← ByteArray.toList_eq, ← ByteArray.toList_eq]; exact h1
    have h3 := Array.toList_inj.1 h2
    cases hs : strOfNums xs
    cases ht : strOfNums ys
    rw [hs, ht] at h3
    simpa using h3
theorem xor16_ne (x : Int) (h0 : 0 ≤ x) (h1 : x < 256) : xorI x 16 ≠ x := by
  obtain ⟨n, rfl⟩ := Int.eq_ofNat_of_zero_le h0
  intro h
  have key : ∀ m : Fin 256, ((BitVec.ofNat 8 m.val ^^^ BitVec.ofInt 8 16).toNat : Int) ≠ m.val := by decide +kernel
  exact key ⟨n, by omega⟩ h
theorem set_ne (xs : List Int) (j : Nat) (hj : j < xs.length) (hb : Bytes xs) : ¬ xs = xs.set j (xorI (xs.getD j 0) 16) := by
  intro h
  have h1 := congrArg (fun l => l.getD j 0) h
  simp only [List.getD_eq_getElem?_getD, List.getElem?_set_self hj, Option.getD_some] at h1
  have := hb.at_ j
  rw [List.getD_eq_getElem?_getD] at this
  exact xor16_ne _ this.1 this.2 h1.symm
theorem set_bytes (xs : List Int) (j : Nat) (hb : Bytes xs) : Bytes (xs.set j (xorI (xs.getD j 0) 16)) := by
  intro x hx
  rcases List.mem_or_eq_of_mem_set hx with h | rfl
  · exact hb x h
  · have := (BitVec.ofInt 8 (xs.getD j 0) ^^^ BitVec.ofInt 8 16).isLt
    unfold xorI
    omega
set_option maxHeartbeats 6400000 in
set_option maxRecDepth 100000 in
theorem HashSame_calls (w : World) (hT : Tab w) (ca na cb nb : Nat) (A B : Option Addr) (xs ys : List Int) (at_ : Int) (hna : xs.length = na) (hnb : ys.length = nb) (hX : Rd w .u8 A xs) (hY : Rd w .u8 B ys) (hbx : Bytes xs) (hby : Bytes ys) (hA : A = none → ca = 0) (hB : B = none → cb = 0) (hla : na ≤ 140737488351232) (hlb : nb ≤ 140737488351232) (h0 : -9223372036854775808 ≤ at_) (h1 : at_ ≤ 9223372036854775807) :
    Calls Tryd.prog 5 #[.slice A na ca, .slice B nb cb, .int .i64 at_] w fun e w' => e = .returned (.bool true) ∧ Below w.heap.size w w' := by
  have HT := hid hT; have HX := hid hX; have HY := hid hY; have HBX := hid hbx; have HBY := hid hby; have HA := hid hA; have HB := hid hB; have HNA := hid hna; have HNB := hid hnb
  clear hT hX hY hbx hby hA hB hna hnb
  have hse := str_eq HBX.out HBY.out
  have hcv1 : ∀ n, Sem.run Tryd.prog (convert 22 9 (.slice A na ca)) (w.drewN n) = .ok (.string (strOfNums xs)) (w.drewN n) := fun n =>
    conv_str (P := Tryd.prog) (w := w.drewN n) (dst := 9) Tryd.underlying22 Tryd.underlying5 Tryd.underlying9 na ca HNA.out (HX.out.below (below_drewN (Below.refl _ _) n))
  have hcv2 : ∀ n, Sem.run Tryd.prog (convert 22 9 (.slice B nb cb)) (w.drewN n) = .ok (.string (strOfNums ys)) (w.drewN n) := fun n =>
    conv_str (P := Tryd.prog) (w := w.drewN n) (dst := 9) Tryd.underlying22 Tryd.underlying5 Tryd.underlying9 nb cb HNB.out (HY.out.below (below_drewN (Below.refl _ _) n))
  have hcv1' : Sem.run Tryd.prog (convert 22 9 (.slice A na ca)) w.drew = .ok (.string (strOfNums xs)) w.drew := hcv1 1
  have hcv2' : Sem.run Tryd.prog (convert 22 9 (.slice B nb cb)) w.drew = .ok (.string (strOfNums ys)) w.drew := hcv2 1
  generalize strOfNums xs = SX at *
  generalize strOfNums ys = SY at *
  go_enter Tryd.func5, Tryd.ntmps5
  obtain ⟨b, hd⟩ : ∃ b, decide (xs = ys) = b := ⟨_, rfl⟩
  · rw [hd] at hse
    go_wp2_with fail
    go_region_law (first
      | (go_simp; go_at_call_of 19 (Value.slice B nb cb); refine Calls.mono (same_calls ca na cb nb A B xs ys HNA.out HNB.out _ (HX.out.below (below_drewN (Below.refl _ _) 1)) (HY.out.below (below_drewN (Below.refl _ _) 1)) HBX.out HBY.out) ?_; rintro e w1 ⟨rfl, k, rfl⟩; rw [hd])
      | (refine step_app2 (by rfl) (.tmp 19) (.tmp 20) 22 5 .u8 1 rfl elemB w.heap.size _ [] rfl (Own.lit _ 5 .u8 w.heap.size (Nat.le_refl _) [] #[] 0 rfl rfl (by decide)) A ca na xs rfl HNA.out HA.out (HX.out.below ((below_drewN (Below.refl _ _) _).alloc (Nat.le_refl _) _)) (by simp; omega) (by simp [maxLen]; omega) (by simp) ?_; intro v3 w3 ho3 hg3 hat3; rw [List.nil_append] at ho3; obtain ⟨A3, c3, rfl, hA3, hR3, hb3⟩ := ho3.rd (by rw [HNA.out]; omega); rw [HNA.out]; have hB3 : Below w.heap.size w w3 := below_own ((below_drewN (Below.refl _ _) _).alloc (Nat.le_refl _) _) hg3 (fun q hq => Nat.le_of_eq (Option.some.inj hq)); clear hg3 hat3)
      | (go_simp; go_at_call 19; refine Calls.mono (same_calls ca na c3 na A A3 xs xs HNA.out HNA.out _ (HX.out.below hB3) hR3 HBX.out HBX.out) ?_; rintro e w4 ⟨rfl, hD4⟩; rw [decide_eq_true rfl]))
    all_goals
      have HB4 := hid (below_then hB3 hD4.below)
      clear hB3 hD4 ho3 hA3 hR3 hb3 hse hcv1 hcv2 hcv1' hcv2' hd
      have HT4 := hid (HT.out.below HB4.out)
      have HX4 := hid (HX.out.below HB4.out)
      clear HY HBY HB HNB HT HX
      by_cases h0 : na = 0
      · have hz : ¬ (0 : Int) < (na : Int) := by omega
        go_wp2_with (go_at_call 14; refine Calls.mono (live_calls _ HT4.out) ?_; rintro e w5 ⟨rfl, hB5⟩)
        go_ret
        exact ⟨rfl, below_then HB4.out hB5⟩
      · have hz : (0 : Int) < (na : Int) := by omega
        obtain ⟨U, hU, hU0, hU1⟩ : ∃ U, IntKind.u64.wrap at_ = U ∧ 0 ≤ U ∧ U < 18446744073709551616 := ⟨_, rfl, by rw [IntKind.wrap_u64]; omega, by rw [IntKind.wrap_u64]; omega⟩
        have hn64 : IntKind.u64.wrap (na : Int) = (na : Int) := by rw [IntKind.wrap_u64]; omega
        have hm0 := Int.emod_nonneg U (show (na : Int) ≠ 0 by omega)
        have hm1 := Int.emod_lt_of_pos U hz
        obtain ⟨j, hj⟩ := Int.eq_ofNat_of_zero_le hm0
        rw [hj] at hm0 hm1
        have hjn : j < na := by omega
        have ht : U.tmod (na : Int) = (j : Int) := by rw [Int.tmod_eq_emod_of_nonneg hU0]; exact hj
        have hjw : IntKind.i64.wrap (j : Int) = (j : Int) := IntWalk.i64_in _ (by omega)
        have hnz : ¬ (na : Int) = 0 := by omega
        clear hU0 hU1
        go_wp2_with (at_builtin; refine hold ?_)
        refine hid ?_
        refine wpList_app2 rfl _ _ 22 5 .u8 1 rfl elemB w4.heap.size _ [] rfl (Own.lit w4 5 .u8 w4.heap.size (Nat.le_refl _) [] #[] 0 rfl rfl (by decide)) A ca na xs rfl HNA.out HA.out (HX4.out.below ((Below.refl _ _).alloc (Nat.le_refl _) _)) (by simp; omega) (by simp [maxLen]; omega) (by simp) ?_
        intro v6 w6 ho6 hg6 hat6
        rw [List.nil_append] at ho6
        obtain ⟨A6, c6, rfl, hA6, hR6, hb6⟩ := ho6.rd (by rw [HNA.out]; omega)
        obtain ⟨g6, o6, rfl, hlt6⟩ := hR6.form 0 (by rw [HNA.out]; omega)
        obtain rfl : o6 = 0 := (hb6 _ _ rfl).2
        have hB6 : Below w4.heap.size w4 w6 := below_own ((Below.refl _ _).alloc (Nat.le_refl _) _) hg6 (fun q hq => Nat.le_of_eq (Option.some.inj hq))
        have hjx : j < xs.length := by rw [HNA.out]; exact hjn
        have cj := ho6.cell j hjx
        have fj := ho6.free j
        have hst := ho6.set j hjx (xorI (xs.getD j 0) 16)
        have hx16 : bits .xor .u8 (xs.getD j 0) 16 = xorI (xs.getD j 0) 16 := xorI_eq _ 16 (HBX.out.at_ j).1
        have hne : ¬ xs = xs.set j (xorI (xs.getD j 0) 16) := set_ne xs j hjx HBX.out
        have hne' : ¬ xs.set j (xorI (xs.getD j 0) 16) = xs := fun h => hne h.symm
        have hbs : Bytes (xs.set j (xorI (xs.getD j 0) 16)) := set_bytes xs j HBX.out
        have hsl : (xs.set j (xorI (xs.getD j 0) 16)).length = na := by rw [List.length_set, HNA.out]
        have hg4 := (hb6 _ _ rfl).1
        have hB7s : Below w4.heap.size w4 (w6.setCell ⟨g6, j, none⟩ (.int .u8 (xorI (xs.getD j 0) 16))) := hB6.setCell hg4 _
        have hB7 := hid (below_then HB4.out hB7s)
        have HST := hid hst; have HNE := hid hne; have HNE' := hid hne'; have HBS := hid hbs; have HSL := hid hsl
        have hX7 := hid (HX4.out.below hB7s)
        have hT7 := hid (HT4.out.below hB7s)
        clear hB7s hst hne hne' hbs hsl ho6 hA6 hR6 hb6 hg6 hat6 hB6 hjx HT4 HX4 HB4
        rw [HNA.out] at HST
        obtain ⟨ys', hys⟩ : ∃ ys', ys' = xs.set j (xorI (xs.getD j 0) 16) := ⟨_, rfl⟩
        rw [← hys] at HST HNE HNE' HBS HSL
        clear hys
        obtain ⟨p, hp⟩ : ∃ p, p = xs.getD j 0 := ⟨_, rfl⟩
        rw [← hp] at cj hx16 HST hB7 hX7 hT7
        clear hp
        rw [HNA.out]
        go_wp2_with (go_at_call 14; refine hold ?_)
        refine hid ?_
        refine Calls.mono (live_calls _ hT7.out) ?_
        rintro e w8 ⟨rfl, hB8⟩
        have HX8 := hid (hX7.out.below hB8)
        have HY8 : Hid (Rd w8 .u8 (some ⟨g6, 0, none⟩) ys') := hid ((HST.out.rd' (by rw [HSL.out]; omega)).below hB8)
        have HB8 := hid (below_then hB7.out hB8)
        clear hB8 hX7 hT7 hB7 HST
        go_wp2_with (go_at_call 19; refine hold ?_)
        refine hid ?_
        refine Calls.mono (same_calls ca na c6 na A _ xs ys' HNA.out HSL.out w8 HX8.out HY8.out HBX.out HBS.out) ?_
        rintro e w9 ⟨rfl, hD9⟩
        rw [decide_eq_false HNE.out]
        have HX9 := hid (HX8.out.below hD9.below)
        have HY9 := hid (HY8.out.below hD9.below)
        have HB9 := hid (below_then HB8.out hD9.below)
        clear hD9 HX8 HY8 HB8
        go_wp2_with (go_at_call 19; refine hold ?_)
        refine hid ?_
        refine Calls.mono (same_calls c6 na ca na _ A ys' xs HSL.out HNA.out w9 HY9.out HX9.out HBS.out HBX.out) ?_
        rintro e w10 ⟨rfl, hD10⟩
        rw [decide_eq_false HNE'.out]
        go_wp2
        go_ret
        exact ⟨rfl, below_then HB9.out hD10.below⟩
end Go.Proofs.YtaieajfgcnaedaaDoor
