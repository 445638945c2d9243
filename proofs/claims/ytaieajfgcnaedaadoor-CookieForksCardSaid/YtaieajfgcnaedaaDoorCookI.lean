/-
  LAYER 6, WALKS: Turn, the reference's May; what was sealed is opened behind one Turn too.
-/
import Derived.Test.YtaieajfgcnaedaaDoorCookF
import Derived.Test.YtaieajfgcnaedaaDoorCookP
import Derived.BigRegion
import Derived.Deep.RegionHeld3
set_option linter.unusedVariables false
set_option linter.unusedSimpArgs false
namespace Go.Proofs.YtaieajfgcnaedaaDoor
open Go.RowKit

set_option maxHeartbeats 1600000 in
theorem rmay_calls (c : Ck) (w : World) : Calls Tryd.prog 27 #[.agg c.cells] w fun e w' => e = .returned (.bool (decide c.may)) ∧ Below w.heap.size w w' := by
  obtain ⟨made, life, port, pport, tag, ptag, tsn, ptsn, room, outs, ins, addr, other⟩ := c
  unfold Ck.cells Ck.may
  simp only
  go_enter Tryd.func27, Tryd.ntmps27
  by_cases h1 : 0 ≤ made
  · by_cases h2 : made ≤ 1099511627776
    · by_cases h3 : 0 ≤ life
      · by_cases h4 : life ≤ 600
        · go_wp2
          go_ret
          exact ⟨ret_bool (decide_eq_true ⟨h1, h2, h3, h4⟩).symm, (Below.refl _ _).alloc (Nat.le_refl _) _⟩
        · go_wp2
          go_ret
          exact ⟨ret_bool (by simp; omega), (Below.refl _ _).alloc (Nat.le_refl _) _⟩
      · go_wp2
        go_ret
        exact ⟨ret_bool (by simp; omega), (Below.refl _ _).alloc (Nat.le_refl _) _⟩
    · go_wp2
      go_ret
      exact ⟨ret_bool (by simp; omega), (Below.refl _ _).alloc (Nat.le_refl _) _⟩
  · go_wp2
    go_ret
    exact ⟨ret_bool (decide_eq_false (fun h => by omega)).symm, (Below.refl _ _).alloc (Nat.le_refl _) _⟩

/-- A row that is read as bytes is no block of keys: it stays where that block is written. -/
theorem Rd.off {w w' : World} {A : Option Addr} {xs : List Int} (h : Rd w .u8 A xs) {g : Nat} {two : Bool} {n c n' c' : Nat} {A1 A2 : Option Addr} {t : TypeId} (hg : w.heap[g]? = some (.cells #[.slice A1 n c, .slice A2 n' c', .bool two] t (0, 0)))
    (hw : w.grownBy w' (some g)) : Rd w' .u8 A xs := by
  cases xs with
  | nil => exact Rd.nil _ _ _
  | cons x xs =>
    refine h.kept hw fun b o e => ?_
    subst e
    intro e
    injection e with e
    subst e
    have h0 := h.cell 0 (by simp)
    simp only [World.cell?, hg] at h0
    simp at h0
    match o, h0 with
    | 0, h0 => simp at h0
    | 1, h0 => simp at h0
    | 2, h0 => simp at h0
    | o + 3, h0 => simp at h0

set_option maxHeartbeats 3200000 in
theorem turn_calls (g c n : Nat) (A : Option Addr) (xs sec frm : List Int) (two : Bool) (hn : xs.length = n) (w : World) (hK : KSt w g sec frm two) (hR : Rd w .u8 A xs) (hA : A = none → c = 0) (hb : Bytes xs) (hl : n ≤ 140737488351232) :
    Calls Tryd.prog 29 #[.pointer (some ⟨g, 0, none⟩), .slice A n c] w fun e w' => e = .returned (.int .i64 0) ∧ KSt w' g xs sec true ∧ w.grownBy w' (some g) := by
  obtain ⟨A1, n1, c1, A2, n2, c2, k1, k2, k3, k4, k5, k6, k7⟩ := hK.ex
  have HK1 := hid k1; have HR := hid hR; have HA := hid hA; have HB := hid hb; have HN := hid hn
  have HX := hid (show sec.length = n1 ∧ Rd w .u8 A1 sec ∧ (A1 = none → c1 = 0) ∧ Bytes sec ∧ sec.length ≤ 140737488351232 from ⟨k2, k4, k6, hK.bs, hK.ls⟩)
  have x0 : w.cell? ⟨g, 0, none⟩ = some (.slice A1 n1 c1) := cellOf k1 rfl
  have x1 : w.cell? ⟨g, 1, none⟩ = some (.slice A2 n2 c2) := cellOf k1 rfl
  have x2 : w.cell? ⟨g, 2, none⟩ = some (.bool two) := cellOf k1 rfl
  have f0 : ∀ i, w.frozen? ⟨g, i, none⟩ = false := fun i => frozen_of_row w g i _ _ k1
  have HG : Hid (w.grownBy w none) := hid (World.grownBy.refl _ _)
  have hgl := hid (lt_of_block k1)
  clear hK k1 k2 k3 k4 k5 k6 k7 hR hA hb hn
  go_enter Tryd.func29, Tryd.ntmps29
  go_wp2_with fail
  go_region_with (first | (go_at_call 38; refine Calls.mono (clone_calls c n A xs HN.out _ (HR.out.below (below_drewN (Below.refl _ _) 1)) HA.out hl) ?_; rintro e w1 ⟨v, rfl, ho, hb⟩; obtain ⟨A3, c3, rfl, hA3, hR3, _⟩ := ho.rd (by rw [HN.out]; omega); have y2 : w1.heap[g]? = some (.cells #[.slice A1 n1 c1, .slice A2 n2 c2, .bool two] 78 (0, 0)) := (hb.block _ hgl.out).trans HK1.out; have y0 : w1.cell? ⟨g, 0, none⟩ = some (.slice A1 n1 c1) := cellOf y2 rfl; have y5 : w1.cell? ⟨g, 1, none⟩ = some (.slice A2 n2 c2) := cellOf y2 rfl; have y6 : w1.cell? ⟨g, 2, none⟩ = some (.bool two) := cellOf y2 rfl; have y1 : ∀ i, w1.frozen? ⟨g, i, none⟩ = false := fun i => frozen_of_row w1 g i _ _ y2))
  all_goals
    have hb' : Below w.heap.size w w1 := ⟨hb.os, hb.tape, hb.output, hb.size, hb.block⟩
    have hw : w1.grownBy (((w1.setCell ⟨g, 1, none⟩ (Value.slice A1 n1 c1)).setCell ⟨g, 0, none⟩ (Value.slice A3 xs.length c3)).setCell ⟨g, 2, none⟩ (Value.bool true)) (some g) := grown_trans (grown_trans (grown_set _ _ _ _) (grown_set _ _ _ _)) (grown_set _ _ _ _)
    have hW := hs (i := 2) (v := Value.bool true) (hs (i := 0) (v := Value.slice A3 xs.length c3) (hs (i := 1) (v := Value.slice A1 n1 c1) y2))
    generalize ((w1.setCell ⟨g, 1, none⟩ (Value.slice A1 n1 c1)).setCell ⟨g, 0, none⟩ (Value.slice A3 xs.length c3)).setCell ⟨g, 2, none⟩ (Value.bool true) = w3 at *
    obtain ⟨q1, q2, q3, q4, q5⟩ := HX.out
    have q6 := (q2.below hb').off y2 hw
    have q7 := hR3.off y2 hw
    have hxl := HN.out
    have hxb := HB.out
    have q8 := grown_trans (grown_below (row := some g) hb') hw
    have HQ1 := hid q1; have HQ3 := hid q3; have HQ4 := hid q4; have HQ5 := hid q5; have HQ6 := hid q6; have HQ7 := hid q7; have HXL := hid hxl; have HXB := hid hxb; have HQ8 := hid q8; have HW := hid hW; have HA3 := hid hA3
    clear q1 q2 q3 q4 q5 q6 q7 hxl hxb q8 hW hw hA3 hR3 ho hb hb' y0 y1 y2 y5 y6 x0 x1 x2 f0 HX HN HB HA HR HK1 HG
    go_wp2
    go_ret
    exact ⟨rfl, ⟨⟨A3, xs.length, c3, A1, n1, c1, HW.out, rfl, HQ1.out, HQ7.out, HQ6.out, HA3.out, HQ3.out⟩, HXB.out, HQ4.out, by rw [HXL.out]; exact hl, HQ5.out⟩, HQ8.out⟩
end Go.Proofs.YtaieajfgcnaedaaDoor
