import Derived.Test.YteepfkolibeekaaSumsE
import Derived.Test.YteepfkolibeekaaApp
import Derived.Deep.RegionHeld3
import Derived.Deep.QuietTactic
import Derived.BigQuiet
import Derived.Deep.AppendLies
import Derived.StillTactics
set_option linter.unusedVariables false
set_option linter.unusedSimpArgs false
namespace Go.Proofs.Yteepfkolibeekaa
open Go.RowKit
theorem elem8 : Elem Try.prog 22 5 .u8 1 := Elem.mk' Try.underlying22 (by kernel_rfl)
theorem cell_far (w : World) {g1 g2 : Nat} (h : g1 ≠ g2) (o1 o2 : Nat) (u : Value) : (w.setCell ⟨g2, o2, none⟩ u).cell? ⟨g1, o1, none⟩ = w.cell? ⟨g1, o1, none⟩ :=
  World.cell?_of_block (Below.heap_setCell w _ u g1 h)
theorem cell_draws (w : World) (n : Nat) (a : Addr) : (w.drewN n).cell? a = w.cell? a := rfl
/-- What the four stores leave. -/
theorem four_stores {w2 : World} {base g2 n c : Nat} {xs : List Int} (ho : Own w2 base 5 .u8 (.slice (some ⟨g2, 0, none⟩) n c) xs) (m p1 p2 p3 p4 : Nat) (u1 u2 u3 u4 : Int) (h1 : p1 < xs.length) (h2 : p2 < xs.length) (h3 : p3 < xs.length) (h4 : p4 < xs.length) :
    Own (((((w2.drewN m).setCell ⟨g2, p1, none⟩ (.int .u8 u1)).setCell ⟨g2, p2, none⟩ (.int .u8 u2)).setCell ⟨g2, p3, none⟩ (.int .u8 u3)).setCell ⟨g2, p4, none⟩ (.int .u8 u4)) base 5 .u8 (.slice (some ⟨g2, 0, none⟩) n c) ((((xs.set p1 u1).set p2 u2).set p3 u3).set p4 u4) ∧
    w2.grownBy (((((w2.drewN m).setCell ⟨g2, p1, none⟩ (.int .u8 u1)).setCell ⟨g2, p2, none⟩ (.int .u8 u2)).setCell ⟨g2, p3, none⟩ (.int .u8 u3)).setCell ⟨g2, p4, none⟩ (.int .u8 u4)) (some g2) := by
  refine ⟨((((ho.drewN m).set p1 h1 u1).set p2 (by simpa using h2) u2).set p3 (by simpa using h3) u3).set p4 (by simpa using h4) u4, ?_⟩
  exact grown_trans (grown_trans (grown_trans (grown_trans (grown_drewN (World.grownBy.refl _ _) m) (grown_set _ _ _ _)) (grown_set _ _ _ _)) (grown_set _ _ _ _)) (grown_set _ _ _ _)
theorem bytes_set {xs : List Int} (h : Bytes xs) (p : Nat) (u : Int) (hu : 0 ≤ u ∧ u < 256) : Bytes (xs.set p u) := fun y hy => by
  rcases List.mem_or_eq_of_mem_set hy with h1 | h1
  · exact h y h1
  · subst h1; exact hu
theorem bytes_wide {l : List Int} (h : ∀ x ∈ l, 0 ≤ x ∧ x ≤ 65535) : Bytes (wide l) := fun y hy => by
  unfold wide at hy
  obtain ⟨x, hx, hy⟩ := List.mem_flatMap.1 hy
  have := h x hx
  simp at hy
  omega
theorem place (i : Int) (t : Nat) (h0 : 0 ≤ i) (ht : 0 < t) (h : t * 2 ≤ 140737488351232) : ∃ X : Nat, wrap64 (2 * (i % (t : Int))) = X ∧ X + 1 < 2 * t ∧ X % 2 = 0 := by
  have h1 := Int.emod_lt_of_pos i (show (0 : Int) < t by omega)
  have h2 := Int.emod_nonneg i (show (t : Int) ≠ 0 by omega)
  refine ⟨(2 * (i % (t : Int))).toNat, ?_, ?_, ?_⟩
  · unfold wrap64; omega
  · omega
  · omega
set_option maxHeartbeats 6400000 in
theorem SumsAnyOrder_calls (c : Nat) (A : Option Addr) (l : List Int) (i j : Int) (i0 : 0 ≤ i) (i1 : i ≤ 65535) (j0 : 0 ≤ j) (j1 : j ≤ 65535) (w : World) (hR : Rd w .u16 A l) (hx : ∀ x ∈ l, 0 ≤ x ∧ x ≤ 65535) (hl : l.length * 2 ≤ 140737488351232) :
    Calls Try.prog 6 #[.slice A l.length c, .int .u16 i, .int .u16 j] w fun e w' => e = .returned (.bool true) ∧ Below w.heap.size w w' := by
  have HR := hid hR; clear hR
  have HX := hid hx; clear hx
  generalize hn : l.length = n at *
  have HN := hid hn; clear hn
  go_enter Try.func6, Try.ntmps6
  go_wp2
  go_loopw [7, 9] (fun v k wr => ∃ t : Nat, t ≤ n ∧ k = .int .i64 t ∧ Own wr w.heap.size 5 .u8 v (wide (l.take t)) ∧ Below w.heap.size w wr) (fun _ k _ => n - (intOf k).toNat)
  case atStart => exact ⟨0, Nat.zero_le _, rfl, Own.nil _ _ _ _, Below.refl _ _⟩
  case round =>
    obtain ⟨t, ht, rfl, ho, hb⟩ := hrel
    by_cases hlt : t < n
    · obtain ⟨b, o, rfl, hbl⟩ := HR.out.form t (by rw [HN.out]; exact hlt)
      have HC0 := hid (HR.out.cell t (by rw [HN.out]; exact hlt))
      have hct : wr.cell? ⟨b, o + t, none⟩ = some (.int .u16 (l.getD t 0)) := (hb.cell (by exact hbl)).trans (HR.out.cell t (by rw [HN.out]; exact hlt))
      have hxt : 0 ≤ l.getD t 0 ∧ l.getD t 0 ≤ 65535 := by
        rw [List.getD_eq_getElem?_getD, List.getElem?_eq_getElem (show t < l.length by rw [HN.out]; exact hlt)]; exact HX.out _ (List.getElem_mem _)
      have HW : Hid (wide (l.take (t + 1)) = wide (l.take t) ++ [IntKind.u8.wrap (l.getD t 0 / 256), IntKind.u8.wrap (l.getD t 0)]) := by
        show _ = _
        rw [wide_take l t (by rw [HN.out]; exact hlt), IntKind.wrap_u8, IntKind.wrap_u8, Int.emod_eq_of_lt (show 0 ≤ l.getD t 0 / 256 by omega) (by omega)]
      have HL : Hid ((wide (l.take t)).length = 2 * t) := wide_len l t (by rw [HN.out]; exact ht)
      obtain ⟨hx0, hx1⟩ := hxt
      have hsz := hb.size
      generalize l.getD t 0 = x at *
      have ht0 : (0 : Int) ≤ (t : Int) := by omega
      have ht1 : (t : Int) < (n : Int) := by omega
      go_wp2_with fail
      obtain ⟨wo, rfl⟩ : ∃ wo : World, wo = wr := ⟨_, rfl⟩
      go_region_held3 (fun w' => w'.cell? ⟨b, o + t, none⟩ = some (.int .u16 x)) (first | go_keep) (first | (refine step_app (by rfl) _ _ 22 5 .u8 1 (by rfl) elem8 w.heap.size _ (wide (l.take t)) (by rfl) (ho.below ((Below.refl _ _).alloc (Nat.le_refl _) _).drew) (some ⟨wo.heap.size, 0, none⟩) 2 2 [IntKind.u8.wrap (x / 256), IntKind.u8.wrap x] (by rfl) rfl (by simp) (Rd_new wo .u8 5 (0, 0) _ _ rfl (by simp) _ _ (heap_alloc_new wo _)) (by rw [HL.out]; omega) (by rw [HL.out]; simp [maxLen]; omega) (by simp; omega) ?_; intro v1 w1 ho1 hg1; have hb1 : Below w.heap.size w w1 := below_own (below_then hb ((Below.refl _ _).alloc (Nat.le_refl _) _).drew) hg1 (fun g hg => (ho.lt g hg).1); have hc1 : w1.cell? ⟨b, o + t, none⟩ = some (.int .u16 x) := (hb1.cell (by exact hbl)).trans HC0.out))
      rw [← HW.out] at ho1
      clear hg1 ho
      go_wp2
      go_roundw
      case rel => exact ⟨t + 1, by omega, by go_num, ho1, hb1⟩
      case measure => simp [intOf]; omega
    · have : t = n := by omega
      subst this
      have HT : Hid (l.take t = l) := List.take_of_length_le (by rw [HN.out]; exact Nat.le_refl _)
      rw [HT.out] at ho
      have HL : Hid ((wide l).length = 2 * t) := by
        have := wide_len l t (by rw [HN.out]; exact Nat.le_refl _)
        rw [HT.out] at this; exact this
      obtain ⟨A1, c1, rfl, hA1, hR1, hB1⟩ := ho.rd (by rw [HL.out]; omega)
      rw [HL.out]
      have hA1' := hid hA1; clear hA1
      have HB1 := hid hB1; clear hB1
      have HR1 := hid hR1; clear hR1
      go_wp2_with (at_builtin; refine hold ?_)
      refine hid ?_
      refine wpList_app rfl _ _ 22 5 .u8 1 rfl elem8 wr.heap.size (.slice none 0 0) [] rfl (Own.nil _ _ _ _) A1 c1 (2 * t) (wide l) rfl HL.out hA1'.out HR1.out (by simp; omega) (by simp [maxLen]; omega) (Nat.le_refl _) ?_
      intro v2 w2 ho2 hg2
      rw [List.nil_append] at ho2
      have hb2 : Below wr.heap.size wr w2 := (Below.refl _ _).grown (row := none) hg2 (Nat.le_refl _) (fun k hk => by cases hk)
      clear hg2
      have hb3 := below_then hb hb2
      have ho1 := ho.below hb2
      obtain ⟨A2, c2, rfl, hA2, hR2, hB2⟩ := ho2.rd (by rw [HL.out]; omega)
      rw [HL.out]
      by_cases hn0 : t = 0
      · have hgt : decide ((0 : Int) < (t : Int)) = false := by simp; omega
        have hgt2 : decide (0 < t) = false := by simp; omega
        have HN0 := hid hn0; clear hn0
        go_wp2_with fail
        refine (live_calls _).mono ?_
        rintro e w5 ⟨rfl, hb5⟩
        have HBW := hid (bytes_wide HX.out)
        go_wp2_with fail
        refine (net_calls' c1 (2 * t) A1 (wide l) HL.out _ ((HR1.out.below hb2).below hb5) HBW.out).mono ?_
        rintro e w6 ⟨rfl, rfl⟩
        go_wp2_with fail
        refine (net_calls' c2 (2 * t) A2 (wide l) HL.out _ (hR2.below hb5) HBW.out).mono ?_
        rintro e w6 ⟨rfl, rfl⟩
        go_wp2
        go_ret
        exact ⟨ret_bool (by simp), below_then hb3 hb5⟩
      · have hgt : decide ((0 : Int) < (t : Int)) = true := by simp; omega
        have hz : ((t : Int) == 0) = false := beq_eq_false_iff_ne.2 (by omega)
        have htp : (0 : Int) < (t : Int) := by omega
        go_wp2_with fail
        go_quiet (fail)
        go_wp2_with fail
        obtain ⟨X, hX, hX1, hX2⟩ := place i t i0 (by omega) hl
        obtain ⟨Y, hY, hY1, hY2⟩ := place j t j0 (by omega) hl
        rw [hX, hY]
        clear hX hY hz htp hgt
        obtain ⟨g1, o1, rfl, hg1⟩ := HR1.out.form 0 (by rw [HL.out]; omega)
        obtain ⟨g2, o2, rfl, hg2⟩ := hR2.form 0 (by rw [HL.out]; omega)
        obtain ⟨hle1, rfl⟩ := HB1.out g1 o1 rfl
        obtain ⟨hle2, rfl⟩ := hB2 g2 o2 rfl
        clear hA2 hB2
        have hne : g1 ≠ g2 := by omega
        have hR1' := HR1.out.below hb2
        by_cases hXY : X = Y
        · subst hXY
          have l3 := hR1'.cell X (by rw [HL.out]; omega)
          have l4 := hR1'.cell (X + 1) (by rw [HL.out]; omega)
          have s3 := hR2.cell X (by rw [HL.out]; omega)
          have s4 := hR2.cell (X + 1) (by rw [HL.out]; omega)
          have f2 : ∀ q, w2.frozen? ⟨g2, q, none⟩ = false := fun q => World.ownsRow.frozenAt ho2 q
          have f5 := f2 X
          have f6 := f2 (X + 1)
          have HR1'' := hid hR1'
          have HR2 := hid hR2
          have HO1 := hid ho1
          have HO2 := hid ho2
          clear hR1' hR2 f2 ho1 ho2 ho
          simp only [Nat.zero_add] at l3 l4 s3 s4
          have hrx1 := hid ((bytes_wide HX.out).at_ X)
          generalize hhx1 : (wide l).getD X 0 = x1 at *
          have HHx1 := hid hhx1; clear hhx1
          have hrx2 := hid ((bytes_wide HX.out).at_ (X + 1))
          generalize hhx2 : (wide l).getD (X + 1) 0 = x2 at *
          have HHx2 := hid hhx2; clear hhx2
          have b1 : IntKind.i64.wrap ((X : Int) + 1) = (X : Int) + 1 := IntWalk.i64_in _ (by omega)
          have b2 : (0 : Int) ≤ (X : Int) + 1 := by omega
          have b3 : ((X : Int) + 1).toNat = X + 1 := by omega
          have b4 : (X : Int) + 1 < 2 * (t : Int) := by omega
          have b5 : (X : Int) < 2 * (t : Int) := by omega
          go_region_held3 (fun w' => w'.cell? ⟨g1, X, none⟩ = some (.int .u8 x1) ∧ w'.cell? ⟨g1, X + 1, none⟩ = some (.int .u8 x2)) (first | (simp only [cell_far _ hne, cell_draws]; exact ⟨l3, l4⟩) | exact ⟨l3, l4⟩) (fail)
          have HS := four_stores HO2.out (nq + 1) X (X + 1) X (X + 1) x1 x2 x1 x2 (by rw [HL.out]; omega) (by rw [HL.out]; omega) (by rw [HL.out]; omega) (by rw [HL.out]; omega)
          have HBW := hid (bytes_wide HX.out)
          have HNZ0 : net (((((wide l).set X x1).set (X + 1) x2).set X x1).set (X + 1) x2) = net (wide l) := by
                      rw [← HHx1.out, ← HHx2.out]
                      have e1 := set_same (wide l) X
                      have e2 := set_same (wide l) (X + 1)
                      rw [e1, e2, e1, e2]
          have HNZ := hid HNZ0; clear HNZ0
          have HBZ := hid (bytes_set (bytes_set (bytes_set (bytes_set HBW.out X _ hrx1.out) (X + 1) _ hrx2.out) X _ hrx1.out) (X + 1) _ hrx2.out)
          have HLZ : Hid ((((((wide l).set X x1).set (X + 1) x2).set X x1).set (X + 1) x2).length = 2 * t) := by
            show _ = _
            simp only [List.length_set]; exact HL.out
          have HRF := hid (HR1''.out.kept HS.2 (fun b o e => by injection e with e; injection e with e1 e2; intro h; injection h with h; omega))
          obtain ⟨A9, c9, e9, _, hR9, _⟩ := HS.1.rd (by rw [HLZ.out]; omega)
          have HR9 := hid hR9; clear hR9
          injection e9 with e9 _ e10
          subst e9 e10
          have HBB := hid (hb3.grown HS.2 hb3.size (fun k hk => by have := Option.some.inj hk; have := hb.size; omega))
          clear HS l3 l4 s3 s4 f5 f6 b1 b2 b3 b4 b5
          generalize ((((wide l).set X x1).set (X + 1) x2).set X x1).set (X + 1) x2 = Z at *
          go_wp2_with fail
          refine (live_calls _).mono ?_
          rintro e w5 ⟨rfl, hb5⟩
          go_wp2_with fail
          refine (net_calls' c1 (2 * t) (some ⟨g1, 0, none⟩) (wide l) HL.out _ (HRF.out.below hb5) HBW.out).mono ?_
          rintro e w6 ⟨rfl, rfl⟩
          go_wp2_with fail
          refine (net_calls' c2 (2 * t) (some ⟨g2, 0, none⟩) Z HLZ.out _ (HR9.out.below hb5) HBZ.out).mono ?_
          rintro e w6 ⟨rfl, rfl⟩
          rw [HNZ.out]
          go_wp2
          go_ret
          exact ⟨ret_bool (by simp), below_then HBB.out hb5⟩
        · have n1 : Y ≠ X := fun h => hXY h.symm
          have n2 : Y + 1 ≠ X := by omega
          have n3 : Y ≠ X + 1 := by omega
          have n4 : Y + 1 ≠ X + 1 := by omega
          have n5 : X + 1 ≠ Y := by omega
          have n6 : X ≠ Y + 1 := by omega
          have l1 := hR1'.cell Y (by rw [HL.out]; omega)
          have l2 := hR1'.cell (Y + 1) (by rw [HL.out]; omega)
          have l3 := hR1'.cell X (by rw [HL.out]; omega)
          have l4 := hR1'.cell (X + 1) (by rw [HL.out]; omega)
          have s1 := hR2.cell Y (by rw [HL.out]; omega)
          have s2 := hR2.cell (Y + 1) (by rw [HL.out]; omega)
          have s3 := hR2.cell X (by rw [HL.out]; omega)
          have s4 := hR2.cell (X + 1) (by rw [HL.out]; omega)
          have f2 : ∀ q, w2.frozen? ⟨g2, q, none⟩ = false := fun q => World.ownsRow.frozenAt ho2 q
          have f3 := f2 Y
          have f4 := f2 (Y + 1)
          have f5 := f2 X
          have f6 := f2 (X + 1)
          have HR1'' := hid hR1'
          have HR2 := hid hR2
          have HO1 := hid ho1
          have HO2 := hid ho2
          clear hR1' hR2 f2 ho1 ho2 ho
          simp only [Nat.zero_add] at l1 l2 l3 l4 s1 s2 s3 s4
          have hry1 := hid ((bytes_wide HX.out).at_ Y)
          generalize hhy1 : (wide l).getD Y 0 = y1 at *
          have HHy1 := hid hhy1; clear hhy1
          have hry2 := hid ((bytes_wide HX.out).at_ (Y + 1))
          generalize hhy2 : (wide l).getD (Y + 1) 0 = y2 at *
          have HHy2 := hid hhy2; clear hhy2
          have hrx1 := hid ((bytes_wide HX.out).at_ X)
          generalize hhx1 : (wide l).getD X 0 = x1 at *
          have HHx1 := hid hhx1; clear hhx1
          have hrx2 := hid ((bytes_wide HX.out).at_ (X + 1))
          generalize hhx2 : (wide l).getD (X + 1) 0 = x2 at *
          have HHx2 := hid hhx2; clear hhx2
          have a1 : IntKind.i64.wrap ((Y : Int) + 1) = (Y : Int) + 1 := IntWalk.i64_in _ (by omega)
          have a2 : (0 : Int) ≤ (Y : Int) + 1 := by omega
          have a3 : ((Y : Int) + 1).toNat = Y + 1 := by omega
          have a4 : (Y : Int) + 1 < 2 * (t : Int) := by omega
          have a5 : (Y : Int) < 2 * (t : Int) := by omega
          have b1 : IntKind.i64.wrap ((X : Int) + 1) = (X : Int) + 1 := IntWalk.i64_in _ (by omega)
          have b2 : (0 : Int) ≤ (X : Int) + 1 := by omega
          have b3 : ((X : Int) + 1).toNat = X + 1 := by omega
          have b4 : (X : Int) + 1 < 2 * (t : Int) := by omega
          have b5 : (X : Int) < 2 * (t : Int) := by omega
          go_region_held3 (fun w' => w'.cell? ⟨g1, Y, none⟩ = some (.int .u8 y1) ∧ w'.cell? ⟨g1, Y + 1, none⟩ = some (.int .u8 y2) ∧ w'.cell? ⟨g1, X, none⟩ = some (.int .u8 x1) ∧ w'.cell? ⟨g1, X + 1, none⟩ = some (.int .u8 x2)) (first | (simp only [cell_far _ hne, cell_draws]; exact ⟨l1, l2, l3, l4⟩) | exact ⟨l1, l2, l3, l4⟩) (fail)
          have HS := four_stores HO2.out (nq + 1) X (X + 1) Y (Y + 1) y1 y2 x1 x2 (by rw [HL.out]; omega) (by rw [HL.out]; omega) (by rw [HL.out]; omega) (by rw [HL.out]; omega)
          have HBW := hid (bytes_wide HX.out)
          have HNZ0 : net (((((wide l).set X y1).set (X + 1) y2).set Y x1).set (Y + 1) x2) = net (wide l) := by
                      rw [← HHx1.out, ← HHx2.out, ← HHy1.out, ← HHy2.out]
                      exact net_swap (wide l) X Y (by rw [HL.out]; omega) (by rw [HL.out]; omega) hX2 hY2 hXY
          have HNZ := hid HNZ0; clear HNZ0
          have HBZ := hid (bytes_set (bytes_set (bytes_set (bytes_set HBW.out X _ hry1.out) (X + 1) _ hry2.out) Y _ hrx1.out) (Y + 1) _ hrx2.out)
          have HLZ : Hid ((((((wide l).set X y1).set (X + 1) y2).set Y x1).set (Y + 1) x2).length = 2 * t) := by
            show _ = _
            simp only [List.length_set]; exact HL.out
          have HRF := hid (HR1''.out.kept HS.2 (fun b o e => by injection e with e; injection e with e1 e2; intro h; injection h with h; omega))
          obtain ⟨A9, c9, e9, _, hR9, _⟩ := HS.1.rd (by rw [HLZ.out]; omega)
          have HR9 := hid hR9; clear hR9
          injection e9 with e9 _ e10
          subst e9 e10
          have HBB := hid (hb3.grown HS.2 hb3.size (fun k hk => by have := Option.some.inj hk; have := hb.size; omega))
          clear HS l3 l4 s3 s4 f5 f6 b1 b2 b3 b4 b5 l1 l2 s1 s2 f3 f4 a1 a2 a3 a4 a5 n1 n2 n3 n4 n5 n6
          generalize ((((wide l).set X y1).set (X + 1) y2).set Y x1).set (Y + 1) x2 = Z at *
          go_wp2_with fail
          refine (live_calls _).mono ?_
          rintro e w5 ⟨rfl, hb5⟩
          go_wp2_with fail
          refine (net_calls' c1 (2 * t) (some ⟨g1, 0, none⟩) (wide l) HL.out _ (HRF.out.below hb5) HBW.out).mono ?_
          rintro e w6 ⟨rfl, rfl⟩
          go_wp2_with fail
          refine (net_calls' c2 (2 * t) (some ⟨g2, 0, none⟩) Z HLZ.out _ (HR9.out.below hb5) HBZ.out).mono ?_
          rintro e w6 ⟨rfl, rfl⟩
          rw [HNZ.out]
          go_wp2
          go_ret
          exact ⟨ret_bool (by simp), below_then HBB.out hb5⟩
end Go.Proofs.Yteepfkolibeekaa
