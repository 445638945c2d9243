/-
  WALK of layer 2: the law SumsSwaps.
-/
import Derived.Test.YteepfkolibeekaaSumsE
import Derived.Test.YteepfkolibeekaaApp2
import Derived.Deep.QuietTactic
import Derived.BigQuiet
set_option linter.unusedVariables false
set_option linter.unusedSimpArgs false
namespace Go.Proofs.Yteepfkolibeekaa
open Go.RowKit
theorem elem8L : Elem Try.prog 22 5 .u8 1 := Elem.mk' Try.underlying22 (by kernel_rfl)
theorem flip_same {P : Program} {f : FuncId} {args : Array Value} {w : World} {v : Value} (h : Calls P f args w fun e w' => e = .returned v ∧ w = w') : Calls P f args w fun e w' => e = .returned v ∧ w' = w := h.mono fun _ _ ⟨he, hm⟩ => ⟨he, hm.symm⟩
theorem getD_range {l : List Int} (h : ∀ x ∈ l, 0 ≤ x ∧ x ≤ 65535) (t : Nat) : 0 ≤ l.getD t 0 ∧ l.getD t 0 ≤ 65535 := by
  rw [List.getD_eq_getElem?_getD]
  rcases Nat.lt_or_ge t l.length with h1 | h1
  · rw [List.getElem?_eq_getElem h1]; exact h _ (List.getElem_mem h1)
  · rw [List.getElem?_eq_none h1]; simp
theorem bytes_wideL {l : List Int} (h : ∀ x ∈ l, 0 ≤ x ∧ x ≤ 65535) : Bytes (wide l) := fun y hy => by
  unfold wide at hy
  obtain ⟨x, hx, hy⟩ := List.mem_flatMap.1 hy
  have := h x hx
  simp at hy
  omega
theorem place1 (i : Int) (t : Nat) (h0 : 0 ≤ i) (ht : 0 < t) : ∃ X : Nat, i % (t : Int) = X ∧ X < t := by
  have h1 := Int.emod_lt_of_pos i (show (0 : Int) < t by omega)
  have h2 := Int.emod_nonneg i (show (t : Int) ≠ 0 by omega)
  exact ⟨(i % (t : Int)).toNat, by omega, by omega⟩

set_option maxHeartbeats 3200000 in
theorem SumsSwaps_calls (c : Nat) (A : Option Addr) (l : List Int) (p u : Int) (p0 : 0 ≤ p) (p1 : p ≤ 65535) (u0 : 0 ≤ u) (u1 : u ≤ 65535) (w : World) (hR : Rd w .u16 A l) (hx : ∀ x ∈ l, 0 ≤ x ∧ x ≤ 65535) (hl : l.length * 2 ≤ 140737488351232) :
    Calls Try.prog 8 #[.slice A l.length c, .int .u16 p, .int .u16 u] w fun e w' => e = .returned (.bool true) ∧ Below w.heap.size w w' := by
  have HR := hid hR; clear hR
  have HX := hid hx; clear hx
  generalize hn : l.length = n at *
  have HN := hid hn; clear hn
  by_cases hn0 : n = 0
  · have hz : ((n : Int) == 0) = true := beq_iff_eq.2 (by omega)
    clear hn0
    go_enter Try.func8, Try.ntmps8
    go_wp2_with fail
    refine (live_calls _).mono ?_
    rintro e w5 ⟨rfl, hb5⟩
    go_wp2
    go_ret
    exact ⟨rfl, hb5⟩
  · have hz : ((n : Int) == 0) = false := beq_eq_false_iff_ne.2 (by omega)
    have hnp : 0 < n := by omega
    have hpn : (0 : Int) < (n : Int) := by omega
    clear hn0
    obtain ⟨k, hk, hkn⟩ := place1 p n p0 hnp
    have HK := hid hk; clear hk
    have HX' : Hid (∀ x ∈ l.set k u, 0 ≤ x ∧ x ≤ 65535) := fun x hx => by
      rcases List.mem_or_eq_of_mem_set hx with h1 | h1
      · exact HX.out x h1
      · subst h1; exact ⟨u0, u1⟩
    have HTL := hid (swp_tells l HX.out k (by rw [HN.out]; exact hkn) u u0 u1)
    have HL' : Hid ((l.set k u).length = n) := by show _ = _; rw [List.length_set, HN.out]
    have HXD : Hid (∀ t, (l.set k u).getD t 0 = if t = k then u else l.getD t 0) := fun t => by
      by_cases h : t = k
      · subst h; rw [if_pos rfl, getD_set_self' _ _ _ (by rw [HN.out]; exact hkn)]
      · rw [if_neg h, getD_set_ne' _ _ _ _ (Ne.symm h)]
    generalize hl2 : l.set k u = l2 at *
    have HL2 := hid hl2; clear hl2
    go_enter Try.func8, Try.ntmps8
    go_wp2_with fail
    rw [HK.out]
    go_loopw [7, 8, 10, 11, 12] (fun a b z i _ wr => ∃ t : Nat, t ≤ n ∧ i = .int .i64 t ∧ z = .bool (zeros l2 t) ∧ Own wr w.heap.size 5 .u8 a (wide (l.take t)) ∧ Own wr w.heap.size 5 .u8 b (wide (l2.take t)) ∧ Apart a b ∧ Below w.heap.size w wr) (fun _ _ _ i _ _ => n - (intOf i).toNat)
    case atStart => exact ⟨0, Nat.zero_le _, rfl, rfl, Own.nil _ _ _ _, Own.nil _ _ _ _, Apart.nil _, Below.refl _ _⟩
    case round =>
      obtain ⟨t, ht, rfl, rfl, ha, hb, hab, hbel⟩ := hrel
      by_cases hlt : t < n
      · obtain ⟨bk, o, rfl, hbl⟩ := HR.out.form t (by rw [HN.out]; exact hlt)
        have hct : wr.cell? ⟨bk, o + t, none⟩ = some (.int .u16 (l.getD t 0)) := (hbel.cell (by exact hbl)).trans (HR.out.cell t (by rw [HN.out]; exact hlt))
        have hr1 := getD_range HX.out t
        have hr2 := getD_range HX'.out t
        have HW1 := hid (wide_take l t (by rw [HN.out]; exact hlt))
        have HW2 := hid (wide_take l2 t (by rw [HL'.out]; exact hlt))
        have HLA := hid (wide_len l t (by rw [HN.out]; exact ht))
        have HLB := hid (wide_len l2 t (by rw [HL'.out]; exact ht))
        have HZ := hid (zeros_succ l2 t (by rw [HL'.out]; exact hlt))
        have hxd := hid (HXD.out t)
        generalize l.getD t 0 = x at *
        generalize l2.getD t 0 = y at *
        obtain ⟨x0, x1⟩ := hr1
        obtain ⟨y0, y1⟩ := hr2
        have hsz := hbel.size
        have HA := hid ha; clear ha
        have HB := hid hb; clear hb
        have HAB := hid hab; clear hab
        go_wp2_with (at_builtin; refine hold ?_)
        refine hid ?_
        have hb0 : Below wr.heap.size wr (wr.alloc (.cells #[.int .u8 (x / 256), .int .u8 (x % 256)] 5)) := (Below.refl _ _).alloc (Nat.le_refl _) _
        refine wpList_app2 rfl _ _ 22 5 .u8 1 rfl elem8L w.heap.size _ (wide (l.take t)) rfl (HA.out.below hb0) (some ⟨wr.heap.size, 0, none⟩) 2 2 [x / 256, x % 256] rfl rfl (by simp) (Rd_new wr .u8 5 (0, 0) _ _ rfl (by simp) _ _ (heap_alloc_new wr _)) (by rw [HLA.out]; omega) (by rw [HLA.out]; simp [maxLen]; omega) (by simp; omega) ?_
        intro a1 w1 ha1 hg1 hat1
        have hbel1 : Below w.heap.size w w1 := below_own (below_then hbel hb0) hg1 (fun g hg => (HA.out.lt g hg).1)
        have HB1 := hid ((HB.out.below hb0).kept hg1 HAB.out.ne)
        have HA1 := hid ha1
        have HAB1 := hid (HAB.out.grow hat1 (fun g hg => ((HB.out.below hb0).lt g hg).2))
        have hsz1 := hbel1.size
        clear hb0 hg1 hat1 ha1 hbel
        by_cases htk : t = k
        · have htt : ((t : Int) == (k : Int)) = true := beq_iff_eq.2 (by omega)
          have HXE := hxd.out
          rw [if_pos htk] at HXE
          have hyy := hid HXE; clear HXE
          have HTK := hid htk; clear htk
          go_wp2_with (at_builtin; refine hold ?_)
          refine hid ?_
          have hb3 : Below w1.heap.size w1 (w1.alloc (.cells #[.int .u8 (u / 256), .int .u8 (u % 256)] 5)) := (Below.refl _ _).alloc (Nat.le_refl _) _
          refine wpList_app2 rfl _ _ 22 5 .u8 1 rfl elem8L w.heap.size _ (wide (l2.take t)) rfl (HB1.out.below hb3) (some ⟨w1.heap.size, 0, none⟩) 2 2 [u / 256, u % 256] rfl rfl (by simp) (Rd_new w1 .u8 5 (0, 0) _ _ rfl (by simp) _ _ (heap_alloc_new w1 _)) (by rw [HLB.out]; omega) (by rw [HLB.out]; simp [maxLen]; omega) (by simp; omega) ?_
          intro b2 w2 hb4 hg2 hat2
          have hbel2 : Below w.heap.size w w2 := below_own (below_then hbel1 hb3) hg2 (fun g hg => (HB1.out.lt g hg).1)
          have ha2 := (HA1.out.below hb3).kept hg2 HAB1.out.symm.ne
          have hab2 : Apart a1 b2 := (HAB1.out.symm.grow hat2 (fun g hg => ((HA1.out.below hb3).lt g hg).2)).symm
          rw [← HW1.out] at ha2
          rw [← hyy.out, ← HW2.out] at hb4
          have HA2 := hid ha2
          have HB2 := hid hb4
          clear hb3 hg2 hat2 ha2 hb4
          cases hzz : zeros l2 t with
          | false =>
            have HZZ := hid hzz; clear hzz
            go_wp2
            go_roundw
            case rel => exact ⟨t + 1, by omega, by go_num, by rw [HZ.out, HZZ.out]; rfl, HA2.out, HB2.out, hab2, hbel2⟩
            case measure => simp [intOf]; omega
          | true =>
            have HZZ := hid hzz; clear hzz
            go_wp2
            go_roundw
            case rel => exact ⟨t + 1, by omega, by go_num, by rw [HZ.out, HZZ.out, hyy.out]; rfl, HA2.out, HB2.out, hab2, hbel2⟩
            case measure => simp [intOf]; omega
        · have htt : ((t : Int) == (k : Int)) = false := beq_eq_false_iff_ne.2 (by omega)
          have HXE := hxd.out
          rw [if_neg htk] at HXE
          have hyy := hid HXE; clear HXE
          have HTK := hid htk; clear htk
          go_wp2_with (at_builtin; refine hold ?_)
          refine hid ?_
          have hb3 : Below w1.heap.size w1 (w1.alloc (.cells #[.int .u8 (x / 256), .int .u8 (x % 256)] 5)) := (Below.refl _ _).alloc (Nat.le_refl _) _
          refine wpList_app2 rfl _ _ 22 5 .u8 1 rfl elem8L w.heap.size _ (wide (l2.take t)) rfl (HB1.out.below hb3) (some ⟨w1.heap.size, 0, none⟩) 2 2 [x / 256, x % 256] rfl rfl (by simp) (Rd_new w1 .u8 5 (0, 0) _ _ rfl (by simp) _ _ (heap_alloc_new w1 _)) (by rw [HLB.out]; omega) (by rw [HLB.out]; simp [maxLen]; omega) (by simp; omega) ?_
          intro b2 w2 hb4 hg2 hat2
          have hbel2 : Below w.heap.size w w2 := below_own (below_then hbel1 hb3) hg2 (fun g hg => (HB1.out.lt g hg).1)
          have ha2 := (HA1.out.below hb3).kept hg2 HAB1.out.symm.ne
          have hab2 : Apart a1 b2 := (HAB1.out.symm.grow hat2 (fun g hg => ((HA1.out.below hb3).lt g hg).2)).symm
          rw [← HW1.out] at ha2
          rw [← hyy.out, ← HW2.out] at hb4
          have HA2 := hid ha2
          have HB2 := hid hb4
          clear hb3 hg2 hat2 ha2 hb4
          cases hzz : zeros l2 t with
          | false =>
            have HZZ := hid hzz; clear hzz
            go_wp2
            go_roundw
            case rel => exact ⟨t + 1, by omega, by go_num, by rw [HZ.out, HZZ.out]; rfl, HA2.out, HB2.out, hab2, hbel2⟩
            case measure => simp [intOf]; omega
          | true =>
            have HZZ := hid hzz; clear hzz
            go_wp2
            go_roundw
            case rel => exact ⟨t + 1, by omega, by go_num, by rw [HZ.out, HZZ.out, hyy.out]; rfl, HA2.out, HB2.out, hab2, hbel2⟩
            case measure => simp [intOf]; omega
      · have : t = n := by omega
        subst this
        have HT1 : Hid (l.take t = l) := List.take_of_length_le (by rw [HN.out]; exact Nat.le_refl _)
        have HT2 : Hid (l2.take t = l2) := List.take_of_length_le (by rw [HL'.out]; exact Nat.le_refl _)
        have HLA := hid (wide_len l t (by rw [HN.out]; exact ht))
        have HLB := hid (wide_len l2 t (by rw [HL'.out]; exact ht))
        rw [HT1.out] at ha HLA
        rw [HT2.out] at hb HLB
        rw [HN.out] at HTL
        have hlk : wr.cell? = wr.cell? := rfl
        clear hlk
        obtain ⟨A1, c1, rfl, _, hR1, _⟩ := ha.rd (by rw [HLA.out]; omega)
        obtain ⟨A2, c2, rfl, _, hR2, _⟩ := hb.rd (by rw [HLB.out]; omega)
        rw [HLA.out, HLB.out]
        obtain ⟨bk, o, rfl, hbl⟩ := HR.out.form k (by rw [HN.out]; exact hkn)
        have hck : wr.cell? ⟨bk, o + k, none⟩ = some (.int .u16 (l.getD k 0)) := (hbel.cell (by exact hbl)).trans (HR.out.cell k (by rw [HN.out]; exact hkn))
        have hrk := getD_range HX.out k
        have hnr := net_range (wide l)
        have HBW1 := hid (bytes_wideL HX.out)
        have HBW2 := hid (bytes_wideL HX'.out)
        have HR1 := hid hR1
        have HR2 := hid hR2
        have HBE := hid hbel
        clear ha hb hab hR1 hR2 hbel
        have hk0 : (0 : Int) ≤ (k : Int) := by omega
        have hk1 : (k : Int) < (t : Int) := by omega
        go_wp2_with fail
        go_quiet ((first | (go_at_call 15; exact Calls.quiet_of_same (flip_same (net_calls' c1 (2 * t) A1 (wide l) HLA.out _ (HR1.out.below (below_drewN (Below.refl _ _) _)) HBW1.out))) | (go_at_call 17; exact Calls.quiet_of_same (flip_same (swap_calls _ _ _ hnr.1 hnr.2 hrk.1 hrk.2 u0 u1 _)))))
        rw [HTL.out]
        by_cases hz1 : zeros l2 t = true
        · rw [if_pos hz1]
          have HZ1 := hid hz1
          rw [hz1]
          clear hz1
          go_wp2_with fail
          refine (live_calls _).mono ?_
          rintro e w5 ⟨rfl, hb5⟩
          go_wp2
          go_ret
          exact ⟨rfl, below_then (below_drewN HBE.out _) hb5⟩
        · rw [if_neg hz1]
          have hz2 : zeros l2 t = false := by simpa using hz1
          have HZ1 := hid hz2
          rw [hz2]
          clear hz1 hz2
          go_wp2_with fail
          refine (live_calls _).mono ?_
          rintro e w5 ⟨rfl, hb5⟩
          go_wp2_with fail
          refine (net_calls' c2 (2 * t) A2 (wide l2) HLB.out _ (((HR2.out.below (below_drewN (Below.refl _ _) _))).below hb5) HBW2.out).mono ?_
          rintro e w6 ⟨rfl, rfl⟩
          go_wp2
          go_ret
          exact ⟨ret_bool (by simp), below_then (below_drewN HBE.out _) hb5⟩
end Go.Proofs.Yteepfkolibeekaa
