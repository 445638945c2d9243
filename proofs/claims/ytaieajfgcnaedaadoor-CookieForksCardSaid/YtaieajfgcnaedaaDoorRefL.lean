/-
  LAYER 6, WALKS: the law's 'play'; CookiePlays.
-/
import Derived.Test.YtaieajfgcnaedaaDoorRefK
set_option linter.unusedVariables false
set_option linter.unusedSimpArgs false
namespace Go.Proofs.YtaieajfgcnaedaaDoor
open Go.RowKit

/-- n deeds can be read at A. -/
def RdDd (w : World) (A : Option Addr) (n : Nat) : Prop :=
  ∀ j, j < n → ∃ (b o : Nat) (cs : List Value) (d : Dd) (Aj : Option Addr) (cj : Nat), A = some ⟨b, o, none⟩ ∧ b < w.heap.size ∧ cs.length = 19 ∧ w.rangeAt b (o + j * 19) cs ∧ DCells cs.toArray d Aj cj ∧ DOk w d Aj cj
theorem RdDd.below {w w' : World} {A : Option Addr} {n : Nat} (h : RdDd w A n) (hb : Below w.heap.size w w') : RdDd w' A n := fun j hj => by
  obtain ⟨b, o, cs, d, Aj, cj, h1, h2, h3, h4, h5, h6⟩ := h j hj
  exact ⟨b, o, cs, d, Aj, cj, h1, Nat.lt_of_lt_of_le h2 hb.size, h3, fun i v hv => (hb.cell (p := ⟨b, o + j * 19 + i, none⟩) (by exact h2)).trans (h4 i v hv), h5, h6.below hb⟩
/-- What 'play' makes. -/
def Played (w : World) (e : Ending) (w' : World) : Prop :=
  ∃ p gx gy sec frm two L last, e = .returned (.tuple #[.pointer (some ⟨p, 0, none⟩), .bool true]) ∧ w.heap.size ≤ p ∧ w.heap.size ≤ gx ∧ w.heap.size ≤ gy ∧ PSt w' p gx gy sec frm two L last ∧ L.length ≤ 41 ∧ Below w.heap.size w w'
set_option maxHeartbeats 6400000 in
set_option maxRecDepth 100000 in
theorem play_calls (c n cd la : Nat) (A Ad : Option Addr) (xs : List Int) (hn : xs.length = n) (w : World) (hT : Tab w) (hR : Rd w .u8 A xs) (hA : A = none → c = 0) (hb : Bytes xs) (hl : n ≤ 140737488351232) (hD : RdDd w Ad la) (hcd : la ≤ cd) (hcm : cd ≤ 9223372036854775807) :
    Calls Tryd.prog 28 #[.slice A n c, .slice Ad la cd] w (Played w) := by
  have HT := hid hT; have HN := hid hn; have HR := hid hR; have HA := hid hA; have HB := hid hb; have HD := hid hD
  clear hT hn hR hA hb hD
  go_enter Tryd.func28, Tryd.ntmps28
  go_wp2_with (go_at_call 23; refine hold ?_)
  refine hid ?_
  refine Calls.mono (cnew_calls c n A xs HN.out w HR.out HA.out HB.out hl) ?_
  rintro e w1 ⟨gx, rfl, hgx, hK, hb1⟩
  have HK := hid hK; have HB1 := hid hb1
  have hxl := hK.lt
  clear hK hb1
  go_wp2_with (go_at_call 46; refine hold ?_)
  refine hid ?_
  refine Calls.mono (rknew_calls c n A xs HN.out w1 (HR.out.below HB1.out) HA.out HB.out hl) ?_
  rintro e w2 ⟨gy, rfl, hgy, hY, hb2⟩
  have HY := hid hY; have HB2 := hid (below_then HB1.out hb2); have HK2 := hid (HK.out.below hb2)
  have hyl := hY.lt
  have hs12 := HB1.out.size
  have hs23 := hb2.size
  clear hY hb2 HK
  have hb3 : Below w2.heap.size w2 (w2.alloc (.cells #[.pointer (some ⟨gx, 0, none⟩), .pointer (some ⟨gy, 0, none⟩), .slice none 0 0] 59)) := (Below.refl _ _).alloc (Nat.le_refl _) _
  have hg3 : (w2.alloc (.cells #[.pointer (some ⟨gx, 0, none⟩), .pointer (some ⟨gy, 0, none⟩), .slice none 0 0] 59)).heap[w2.heap.size]? = some (.cells #[.pointer (some ⟨gx, 0, none⟩), .pointer (some ⟨gy, 0, none⟩), .slice none 0 0] 59 (0, 0)) := heap_alloc_new _ _
  have HP0 := hid (show PSt _ w2.heap.size gx gy xs [] false [xs] [] from ⟨⟨none, 0, hg3, Rd.nil _ _ _, fun _ => rfl⟩, HK2.out.below hb3, HY.out.below hb3, .inl ⟨rfl, rfl, rfl⟩, Bytes.nil, by simp⟩)
  have HB3 := hid (below_then HB2.out hb3)
  have x0 : (w2.alloc (.cells #[.pointer (some ⟨gx, 0, none⟩), .pointer (some ⟨gy, 0, none⟩), .slice none 0 0] 59)).cell? ⟨w2.heap.size, 0, none⟩ = some (.pointer (some ⟨gx, 0, none⟩)) := cellOf hg3 rfl
  clear hb3 hg3
  have hp0 : w.heap.size ≤ w2.heap.size := by omega
  go_wp2_with fail
  clear x0
  generalize w2.alloc (.cells #[.pointer (some ⟨gx, 0, none⟩), .pointer (some ⟨gy, 0, none⟩), .slice none 0 0] 59) = w3 at *
  generalize w2.heap.size = p at *
  go_loopw [7] (fun i w' => ∃ j : Nat, j ≤ la ∧ j ≤ 40 ∧ i = .int .i64 j ∧ (∃ sec frm two L last, PSt w' p gx gy sec frm two L last ∧ L.length ≤ 1 + j) ∧ Below w.heap.size w w') (fun i _ => 40 - (intOf i).toNat)
  case atStart => exact ⟨0, by omega, by omega, rfl, ⟨_, _, _, _, _, HP0.out, by simp⟩, HB3.out⟩
  case round =>
    obtain ⟨j, hj, hj4, rfl, ⟨sec, frm, two, L, last, hP, hL⟩, hbl⟩ := hrel
    have HP := hid hP; have HL := hid hL; have HBL := hid hbl
    clear hP hL hbl HP0 HB3
    have hj0 : (0 : Int) ≤ (j : Int) := by omega
    by_cases hlt : j < la
    · have hj1 : (j : Int) < (la : Int) := by omega
      by_cases hlt4 : j < 40
      · have hj5 : (j : Int) < 40 := by omega
        obtain ⟨b, ob, cs, d, Aj, cj, rfl, hbb, hcs, hrg, hdc, hdo⟩ := (HD.out.below HBL.out) j hlt
        have HCS := hid hcs; have HRG := hid hrg; have HDC := hid hdc; have HDO := hid hdo
        clear hcs hrg hdc hdo hbb
        go_wp2_with (with_reducible refine hold_op (o := ⟨some 34, _, _, _, _, _⟩) ?_)
        refine hid ?_
        refine wpList_load_mid rfl 64 (.tmp 33) rfl b (ob + j * 19) rfl cs _ HRG.out Tryd.underlying64 rfl (by rw [HCS.out]; kernel_rfl) ?_
        simp only [Act.put, List.setIfInBounds_toArray, List.set_cons_succ, List.set_cons_zero]
        generalize cs.toArray = CA at *
        go_wp2_with (go_at_call 32; refine hold ?_)
        refine hid ?_
        refine Calls.mono (pdo_calls p gx gy d CA Aj cj HDC.out sec frm two L last wr (HT.out.below HBL.out) HP.out (by have := HL.out; omega) HDO.out) ?_
        rintro e w4 ⟨rfl, ⟨sec', frm', two', L', last', hP', hL'⟩, hk⟩
        have HP' := hid hP'; have HL' := hid hL'
        have HB4 := hid (hk.below HBL.out hp0 (by omega) (by omega))
        clear hP' hL' hk
        go_wp2
        go_roundw
        case rel => exact ⟨j + 1, by omega, by omega, by go_num, ⟨_, _, _, _, _, HP'.out, by have := HL'.out; have := HL.out; omega⟩, HB4.out⟩
        case measure => simp [intOf]; omega
      · have hj5 : ¬ (j : Int) < 40 := by omega
        go_wp2
        go_ret2
        exact ⟨p, gx, gy, sec, frm, two, L, last, rfl, hp0, by omega, by omega, HP.out, by have := HL.out; omega, HBL.out⟩
    · have hj1 : ¬ (j : Int) < (la : Int) := by omega
      go_wp2
      go_ret2
      exact ⟨p, gx, gy, sec, frm, two, L, last, rfl, hp0, by omega, by omega, HP.out, by have := HL.out; omega, HBL.out⟩
set_option maxHeartbeats 3200000 in
theorem CookiePlays_calls (c n cd la : Nat) (A Ad : Option Addr) (xs : List Int) (hn : xs.length = n) (w : World) (hT : Tab w) (hR : Rd w .u8 A xs) (hA : A = none → c = 0) (hb : Bytes xs) (hl : n ≤ 140737488351232) (hD : RdDd w Ad la) (hcd : la ≤ cd) (hcm : cd ≤ 9223372036854775807) :
    Calls Tryd.prog 10 #[.slice A n c, .slice Ad la cd] w fun e w' => e = .returned (.bool true) ∧ Below w.heap.size w w' := by
  have HT := hid hT
  have HC := hid (play_calls c n cd la A Ad xs hn w hT hR hA hb hl hD hcd hcm)
  clear hT hn hR hA hb hD
  go_enter Tryd.func10, Tryd.ntmps10
  go_wp2_with (go_at_call 28; refine hold ?_)
  refine hid ?_
  refine Calls.mono HC.out ?_
  rintro e w1 ⟨p, gx, gy, sec, frm, two, L, last, rfl, _, _, _, _, _, hb1⟩
  have HB1 := hid hb1
  clear hb1
  go_wp2_with (go_at_call 25; refine hold ?_)
  refine hid ?_
  refine Calls.mono (clive_calls w1 (HT.out.below HB1.out)) ?_
  rintro e w2 ⟨rfl, hb2⟩
  have HB2 := hid (below_then HB1.out hb2)
  clear hb2
  go_wp2
  go_ret
  exact ⟨rfl, HB2.out⟩

end Go.Proofs.YtaieajfgcnaedaaDoor
