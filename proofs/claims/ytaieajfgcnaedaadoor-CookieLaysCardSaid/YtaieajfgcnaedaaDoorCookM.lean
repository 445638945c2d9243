/-
  LAYER 6, WALKS: two cookies that are not the same are not the same bytes.
-/
import Derived.Test.YtaieajfgcnaedaaDoorCookK
import Derived.Test.YtaieajfgcnaedaaDoorHashJ
import Derived.Deep.RegionHeld3
set_option linter.unusedVariables false
set_option linter.unusedSimpArgs false
namespace Go.Proofs.YtaieajfgcnaedaaDoor
open Go.RowKit

/-- The boxes of the two arguments. -/
structure Bl (w W : World) (R S : Array Value) : Prop where
  all : Below w.heap.size w W
  c : W.heap[w.heap.size]? = some (.cells R 40 (0, 0))
  d : W.heap[w.heap.size + 1]? = some (.cells S 40 (0, 0))
theorem Bl.below {w W W' : World} {R S : Array Value} (h : Bl w W R S) (hb : Below W.heap.size W W') : Bl w W' R S :=
  ⟨below_then h.all hb, (hb.block _ (lt_of_block h.c)).trans h.c, (hb.block _ (lt_of_block h.d)).trans h.d⟩
theorem Bl.cells {w W : World} {ck dk : Ck} (h : Bl w W ck.cells dk.cells) : W.cell? ⟨w.heap.size, 0, none⟩ = some (.int .i64 ck.made) ∧ W.cell? ⟨w.heap.size, 1, none⟩ = some (.int .i64 ck.life) ∧ W.cell? ⟨w.heap.size, 2, none⟩ = some (.int .u16 ck.port) ∧ W.cell? ⟨w.heap.size, 3, none⟩ = some (.int .u16 ck.pport) ∧ W.cell? ⟨w.heap.size, 4, none⟩ = some (.int .u32 ck.tag) ∧ W.cell? ⟨w.heap.size, 5, none⟩ = some (.int .u32 ck.ptag) ∧ W.cell? ⟨w.heap.size, 6, none⟩ = some (.int .u32 ck.tsn) ∧ W.cell? ⟨w.heap.size, 7, none⟩ = some (.int .u32 ck.ptsn) ∧ W.cell? ⟨w.heap.size, 8, none⟩ = some (.int .u32 ck.room) ∧ W.cell? ⟨w.heap.size, 9, none⟩ = some (.int .u16 ck.outs) ∧ W.cell? ⟨w.heap.size, 10, none⟩ = some (.int .u16 ck.ins) ∧ W.cell? ⟨w.heap.size, 11, none⟩ = some (.int .u32 ck.addr) ∧ W.cell? ⟨w.heap.size, 12, none⟩ = some (.int .u32 ck.other) ∧ W.cell? ⟨w.heap.size + 1, 0, none⟩ = some (.int .i64 dk.made) ∧ W.cell? ⟨w.heap.size + 1, 1, none⟩ = some (.int .i64 dk.life) ∧ W.cell? ⟨w.heap.size + 1, 2, none⟩ = some (.int .u16 dk.port) ∧ W.cell? ⟨w.heap.size + 1, 3, none⟩ = some (.int .u16 dk.pport) ∧ W.cell? ⟨w.heap.size + 1, 4, none⟩ = some (.int .u32 dk.tag) ∧ W.cell? ⟨w.heap.size + 1, 5, none⟩ = some (.int .u32 dk.ptag) ∧ W.cell? ⟨w.heap.size + 1, 6, none⟩ = some (.int .u32 dk.tsn) ∧ W.cell? ⟨w.heap.size + 1, 7, none⟩ = some (.int .u32 dk.ptsn) ∧ W.cell? ⟨w.heap.size + 1, 8, none⟩ = some (.int .u32 dk.room) ∧ W.cell? ⟨w.heap.size + 1, 9, none⟩ = some (.int .u16 dk.outs) ∧ W.cell? ⟨w.heap.size + 1, 10, none⟩ = some (.int .u16 dk.ins) ∧ W.cell? ⟨w.heap.size + 1, 11, none⟩ = some (.int .u32 dk.addr) ∧ W.cell? ⟨w.heap.size + 1, 12, none⟩ = some (.int .u32 dk.other) :=
  ⟨cellOf h.c rfl, cellOf h.c rfl, cellOf h.c rfl, cellOf h.c rfl, cellOf h.c rfl, cellOf h.c rfl, cellOf h.c rfl, cellOf h.c rfl, cellOf h.c rfl, cellOf h.c rfl, cellOf h.c rfl, cellOf h.c rfl, cellOf h.c rfl, cellOf h.d rfl, cellOf h.d rfl, cellOf h.d rfl, cellOf h.d rfl, cellOf h.d rfl, cellOf h.d rfl, cellOf h.d rfl, cellOf h.d rfl, cellOf h.d rfl, cellOf h.d rfl, cellOf h.d rfl, cellOf h.d rfl, cellOf h.d rfl⟩
set_option maxHeartbeats 12800000 in
set_option maxRecDepth 100000 in
theorem CookieLays_calls (w : World) (hT : Tab w) (c n : Nat) (A : Option Addr) (xs : List Int) (hn : xs.length = n) (hR : Rd w .u8 A xs) (hb : Bytes xs) (hA : A = none → c = 0) (hl : n ≤ 140737488351232) (ck dk : Ck) (hok : ck.Ok) (hod : dk.Ok) :
    Calls Tryd.prog 9 #[.slice A n c, .agg ck.cells, .agg dk.cells] w fun e w' => e = .returned (.bool true) ∧ Below w.heap.size w w' := by
  have HT := hid hT; have HN := hid hn; have HRx := hid hR; have HBx := hid hb; have HAx := hid hA; have HOK := hid hok; have HOD := hid hod
  clear hT hn hR hb hA hok hod
  obtain ⟨R, hR⟩ : ∃ R, R = ck.cells := ⟨_, rfl⟩
  obtain ⟨S, hS⟩ : ∃ S, S = dk.cells := ⟨_, rfl⟩
  rw [← hR, ← hS]
  have HR := hid hR; have HS := hid hS; clear hR hS
  go_enter Tryd.func9, Tryd.ntmps9
  go_wp2_with (go_at_call 23; refine hold ?_)
  refine hid ?_
  have hS1 : (w.alloc (.cells R 40)).heap.size = w.heap.size + 1 := by simp
  have hE : (w.alloc (.cells R 40)).heap[w.heap.size]? = some (.cells R 40 (0, 0)) := heap_alloc_new _ _
  have hB : Below w.heap.size w (w.alloc (.cells R 40)) := (Below.refl _ _).alloc (Nat.le_refl _) _
  generalize w.alloc (.cells R 40) = w1 at *
  have hC : (w1.alloc (.cells S 40)).heap[w1.heap.size]? = some (.cells S 40 (0, 0)) := heap_alloc_new _ _
  have hB2 : Below w1.heap.size w1 (w1.alloc (.cells S 40)) := (Below.refl _ _).alloc (Nat.le_refl _) _
  generalize w1.alloc (.cells S 40) = w2 at *
  rw [hS1] at hC
  have K0 : Hid (Bl w w2 R S) := hid ⟨below_then hB hB2, (hB2.block _ (lt_of_block hE)).trans hE, hC⟩
  clear hS1 hE hB hC hB2
  refine Calls.mono (cnew_calls c n A xs HN.out w2 (HRx.out.below K0.out.all) HAx.out HBx.out hl) ?_
  rintro e w100 ⟨g, rfl, hg, hK, hb⟩
  have HK := hid hK; have K1 := hid (K0.out.below hb)
  clear hg hK hb K0
  go_wp2_with (with_reducible refine hold_op (o := ⟨some 18, _, _, _, _, _⟩) ?_)
  refine hid ?_
  refine wpList_load_row rfl 40 (.tmp 4) rfl (w.heap.size) rfl 40 R (0, 0) _ K1.out.c Tryd.underlying40 rfl (by rw [HR.out]; kernel_rfl) ?_
  simp only [Act.put, List.setIfInBounds_toArray, List.set_cons_succ, List.set_cons_zero]
  go_wp2_with (go_at_call 24; refine hold ?_)
  refine hid ?_
  rw [HR.out]
  by_cases hm : ck.may
  rotate_left
  · have HD : Hid (decide ck.may = false) := hid (decide_eq_false hm)
    refine Calls.mono (seal_may g ck hm w100) ?_
    rintro e w200 ⟨rfl, hb⟩
    rw [← HR.out]
    have K2 := hid (K1.out.below hb); have HK2 := hid (HK.out.below hb)
    clear hb hm K1 HK
    go_wp2_with (with_reducible refine hold_op (o := ⟨some 24, _, _, _, _, _⟩) ?_)
    refine hid ?_
    refine wpList_load_row rfl 40 (.tmp 5) rfl (w.heap.size + 1) rfl 40 S (0, 0) _ K2.out.d Tryd.underlying40 rfl (by rw [HS.out]; kernel_rfl) ?_
    simp only [Act.put, List.setIfInBounds_toArray, List.set_cons_succ, List.set_cons_zero]
    go_wp2_with (go_at_call 24; refine hold ?_)
    refine hid ?_
    rw [HS.out]
    by_cases hm2 : dk.may
    rotate_left
    · refine Calls.mono (seal_may g dk hm2 w200) ?_
      rintro e w300 ⟨rfl, hb⟩
      rw [← HS.out]
      have K3 := hid (K2.out.below hb)
      clear hb hm2 K2
      go_wp2_with (go_at_call 25; refine hold ?_)
      refine hid ?_
      refine Calls.mono (clive_calls w300 (HT.out.below K3.out.all)) ?_
      rintro e w400 ⟨rfl, hb⟩
      have K4 := hid (K3.out.below hb)
      clear hb
      go_wp2_with (with_reducible refine hold_op (o := ⟨some 56, _, _, _, _, _⟩) ?_)
      refine hid ?_
      refine BigFrame.wpList_want rfl fun K hK => wp_load_row 40 (.tmp 4) rfl (w.heap.size) rfl 40 R (0, 0) _ K4.out.c Tryd.underlying40 rfl (by rw [HR.out]; kernel_rfl) (hK _ _ ?_)
      simp only [Act.put, List.setIfInBounds_toArray, List.set_cons_succ, List.set_cons_zero]
      go_wp2_with (go_at_call 27; refine hold ?_)
      refine hid ?_
      rw [HR.out]
      refine Calls.mono (rmay_calls ck w400) ?_
      rw [HD.out]
      rw [← HR.out]
      rintro e w500 ⟨rfl, hb⟩
      have K5 := hid (K4.out.below hb)
      clear hb
      go_wp2
      go_ret
      exact ⟨rfl, K5.out.all⟩
    refine Calls.mono (seal_calls g dk hm2 HOD.out xs [] false w200 (HT.out.below K2.out.all) HK2.out) ?_
    rintro e w300 ⟨v, rfl, ho, hb⟩
    rw [← HS.out]
    obtain ⟨A3, c3, rfl, hA3, hR3, hB3⟩ := ho.rd (by rw [Ck.seal_len]; omega)
    rw [Ck.seal_len]
    have K3 := hid (K2.out.below hb)
    clear hb hm2 K2 ho hA3 hR3 hB3
    go_wp2_with (go_at_call 25; refine hold ?_)
    refine hid ?_
    refine Calls.mono (clive_calls w300 (HT.out.below K3.out.all)) ?_
    rintro e w400 ⟨rfl, hb⟩
    have K4 := hid (K3.out.below hb)
    clear hb
    go_wp2_with (with_reducible refine hold_op (o := ⟨some 56, _, _, _, _, _⟩) ?_)
    refine hid ?_
    refine BigFrame.wpList_want rfl fun K hK => wp_load_row 40 (.tmp 4) rfl (w.heap.size) rfl 40 R (0, 0) _ K4.out.c Tryd.underlying40 rfl (by rw [HR.out]; kernel_rfl) (hK _ _ ?_)
    simp only [Act.put, List.setIfInBounds_toArray, List.set_cons_succ, List.set_cons_zero]
    go_wp2_with (go_at_call 27; refine hold ?_)
    refine hid ?_
    rw [HR.out]
    refine Calls.mono (rmay_calls ck w400) ?_
    rw [HD.out]
    rw [← HR.out]
    rintro e w500 ⟨rfl, hb⟩
    have K5 := hid (K4.out.below hb)
    clear hb
    go_wp2
    go_ret
    exact ⟨rfl, K5.out.all⟩
  have HD : Hid (decide ck.may = true) := hid (decide_eq_true hm)
  refine Calls.mono (seal_calls g ck hm HOK.out xs [] false w100 (HT.out.below K1.out.all) HK.out) ?_
  rintro e w200 ⟨v, rfl, ho, hb⟩
  rw [← HR.out]
  obtain ⟨A2, c2, rfl, hA2, hR2, hB2⟩ := ho.rd (by rw [Ck.seal_len]; omega)
  rw [Ck.seal_len] at ho ⊢
  have HCP := hid ho.caps
  have HRS := hid hR2; have HM := hid hm
  have HK2 := hid (HK.out.below hb); have K2 := hid (K1.out.below hb)
  clear hA2 ho hm hb hR2 hB2 K1 HK
  go_wp2_with (with_reducible refine hold_op (o := ⟨some 24, _, _, _, _, _⟩) ?_)
  refine hid ?_
  refine wpList_load_row rfl 40 (.tmp 5) rfl (w.heap.size + 1) rfl 40 S (0, 0) _ K2.out.d Tryd.underlying40 rfl (by rw [HS.out]; kernel_rfl) ?_
  simp only [Act.put, List.setIfInBounds_toArray, List.set_cons_succ, List.set_cons_zero]
  go_wp2_with (go_at_call 24; refine hold ?_)
  refine hid ?_
  rw [HS.out]
  by_cases hm2 : dk.may
  rotate_left
  · have HE : Hid (decide dk.may = false) := hid (decide_eq_false hm2)
    refine Calls.mono (seal_may g dk hm2 w200) ?_
    rintro e w300 ⟨rfl, hb⟩
    rw [← HS.out]
    have K3 := hid (K2.out.below hb)
    clear hb hm2 K2
    go_wp2_with (go_at_call 25; refine hold ?_)
    refine hid ?_
    refine Calls.mono (clive_calls w300 (HT.out.below K3.out.all)) ?_
    rintro e w400 ⟨rfl, hb⟩
    have K4 := hid (K3.out.below hb)
    clear hb
    go_wp2_with (with_reducible refine hold_op (o := ⟨some 56, _, _, _, _, _⟩) ?_)
    refine hid ?_
    refine BigFrame.wpList_want rfl fun K hK => wp_load_row 40 (.tmp 4) rfl (w.heap.size) rfl 40 R (0, 0) _ K4.out.c Tryd.underlying40 rfl (by rw [HR.out]; kernel_rfl) (hK _ _ ?_)
    simp only [Act.put, List.setIfInBounds_toArray, List.set_cons_succ, List.set_cons_zero]
    go_wp2_with (go_at_call 27; refine hold ?_)
    refine hid ?_
    rw [HR.out]
    refine Calls.mono (rmay_calls ck w400) ?_
    rw [HD.out]
    rw [← HR.out]
    rintro e w500 ⟨rfl, hb⟩
    have K5 := hid (K4.out.below hb)
    clear hb
    go_wp2_with (with_reducible refine hold_op (o := ⟨some 59, _, _, _, _, _⟩) ?_)
    refine hid ?_
    refine BigFrame.wpList_want rfl fun K hK => wp_load_row 40 (.tmp 5) rfl (w.heap.size + 1) rfl 40 S (0, 0) _ K5.out.d Tryd.underlying40 rfl (by rw [HS.out]; kernel_rfl) (hK _ _ ?_)
    simp only [Act.put, List.setIfInBounds_toArray, List.set_cons_succ, List.set_cons_zero]
    go_wp2_with (go_at_call 27; refine hold ?_)
    refine hid ?_
    rw [HS.out]
    refine Calls.mono (rmay_calls dk w500) ?_
    rw [HE.out]
    rw [← HS.out]
    rintro e w600 ⟨rfl, hb⟩
    have K6 := hid (K5.out.below hb)
    clear hb
    go_wp2
    go_ret
    exact ⟨rfl, K6.out.all⟩
  refine Calls.mono (seal_calls g dk hm2 HOD.out xs [] false w200 (HT.out.below K2.out.all) HK2.out) ?_
  rintro e w300 ⟨v, rfl, ho, hb⟩
  rw [← HS.out]
  obtain ⟨A3, c3, rfl, hA3, hR3, hB3⟩ := ho.rd (by rw [Ck.seal_len]; omega)
  rw [Ck.seal_len] at ho ⊢
  have HCQ := hid ho.caps
  have HRT := hid hR3
  have HRU := hid (HRS.out.below hb); have K3 := hid (K2.out.below hb)
  have hpi := plain_inj ck dk HM.out hm2 HOK.out HOD.out
  have HPI := hid hpi
  clear hA3 ho hm2 hb hR3 hB3 HRS K2 HK2 hpi
  have t52 : (ck.seal xs).take 52 = ck.plain := by unfold Ck.seal; exact List.take_left' (Ck.plain_len ck)
  have u52 : (dk.seal xs).take 52 = dk.plain := by unfold Ck.seal; exact List.take_left' (Ck.plain_len dk)
  have hcA : ∀ W, Below w300.heap.size w300 W → Sem.run Tryd.prog (convert 22 9 (.slice A2 52 c2)) W = .ok (.string (strOfNums ck.plain)) W := fun W hW => by
    rw [← t52]
    exact conv_str (P := Tryd.prog) (w := W) (dst := 9) Tryd.underlying22 Tryd.underlying5 Tryd.underlying9 52 c2 (by rw [t52, Ck.plain_len]) ((HRU.out.take 52).below hW)
  have hcB : ∀ W, Below w300.heap.size w300 W → Sem.run Tryd.prog (convert 22 9 (.slice A3 52 c3)) W = .ok (.string (strOfNums dk.plain)) W := fun W hW => by
    rw [← u52]
    exact conv_str (P := Tryd.prog) (w := W) (dst := 9) Tryd.underlying22 Tryd.underlying5 Tryd.underlying9 52 c3 (by rw [u52, Ck.plain_len]) ((HRT.out.take 52).below hW)
  have hcC : ∀ W, Below w300.heap.size w300 W → Sem.run Tryd.prog (convert 22 9 (.slice A2 84 c2)) W = .ok (.string (strOfNums (ck.seal xs))) W := fun W hW =>
    conv_str (P := Tryd.prog) (w := W) (dst := 9) Tryd.underlying22 Tryd.underlying5 Tryd.underlying9 84 c2 (Ck.seal_len _ _) (HRU.out.below hW)
  have hcD : ∀ W, Below w300.heap.size w300 W → Sem.run Tryd.prog (convert 22 9 (.slice A3 84 c3)) W = .ok (.string (strOfNums (dk.seal xs))) W := fun W hW =>
    conv_str (P := Tryd.prog) (w := W) (dst := 9) Tryd.underlying22 Tryd.underlying5 Tryd.underlying9 84 c3 (Ck.seal_len _ _) (HRT.out.below hW)
  have hq1 : ∀ W, (binOp .eql 40 (.agg R) (.agg S)).run Tryd.prog W = .ok (.bool (decide (ck = dk))) W := fun W => by rw [HR.out, HS.out]; exact eqck2 W ck dk
  have hq2 : ∀ W, (binOp .neq 40 (.agg R) (.agg S)).run Tryd.prog W = .ok (.bool (!decide (ck = dk))) W := fun W => by rw [HR.out, HS.out]; exact neqck2 W ck dk
  have hS0 : Below w300.heap.size w300 w300 := Below.refl _ _
  have hs1 : ((strOfNums ck.plain).toList == (strOfNums dk.plain).toList) = decide (ck = dk) := by
    rw [str_eq (Ck.plain_bytes ck) (Ck.plain_bytes dk)]
    exact decide_eq_decide.2 HPI.out
  have hs2 : ck = dk → ((strOfNums (ck.seal xs)).toList == (strOfNums (dk.seal xs)).toList) = true := fun h => by rw [h]; exact beq_self_eq_true _
  have hRe := HR.out
  have hSe := HS.out
  have HK3 := K3.out
  rw [hRe, hSe] at HK3
  have K3 := hid HK3
  clear HK3
  rw [hRe, hSe] at hq1 hq2
  clear HR HS
  subst hRe hSe
  have x0 := K3.out.cells
  have kx : ∀ W, Below w300.heap.size w300 W → Bl w W ck.cells dk.cells := fun W hW => K3.out.below hW
  have KX := hid kx
  clear kx
  generalize strOfNums ck.plain = s1 at *
  generalize strOfNums dk.plain = s2 at *
  generalize strOfNums (ck.seal xs) = s3 at *
  generalize strOfNums (dk.seal xs) = s4 at *
  by_cases hcd : ck = dk
  · have hd : decide (ck = dk) = true := decide_eq_true hcd
    have hs3 := hs2 hcd
    rw [hd] at hs1
    simp only [hd, Bool.not_true] at hq1 hq2
    clear hs2 hcd hd
    unfold Ck.cells at hq1 hq2
    have h52a : (52 : Int) ≤ (c2 : Int) := by have := HCP.out; omega
    have h52b : (52 : Int) ≤ (c3 : Int) := by have := HCQ.out; omega
    clear t52 u52
    go_wp2_with fail
    go_region_held3 (fun w' => Below w300.heap.size w300 w' ∧ w'.cell? ⟨w.heap.size, 0, none⟩ = some (.int .i64 ck.made) ∧ w'.cell? ⟨w.heap.size, 1, none⟩ = some (.int .i64 ck.life) ∧ w'.cell? ⟨w.heap.size, 2, none⟩ = some (.int .u16 ck.port) ∧ w'.cell? ⟨w.heap.size, 3, none⟩ = some (.int .u16 ck.pport) ∧ w'.cell? ⟨w.heap.size, 4, none⟩ = some (.int .u32 ck.tag) ∧ w'.cell? ⟨w.heap.size, 5, none⟩ = some (.int .u32 ck.ptag) ∧ w'.cell? ⟨w.heap.size, 6, none⟩ = some (.int .u32 ck.tsn) ∧ w'.cell? ⟨w.heap.size, 7, none⟩ = some (.int .u32 ck.ptsn) ∧ w'.cell? ⟨w.heap.size, 8, none⟩ = some (.int .u32 ck.room) ∧ w'.cell? ⟨w.heap.size, 9, none⟩ = some (.int .u16 ck.outs) ∧ w'.cell? ⟨w.heap.size, 10, none⟩ = some (.int .u16 ck.ins) ∧ w'.cell? ⟨w.heap.size, 11, none⟩ = some (.int .u32 ck.addr) ∧ w'.cell? ⟨w.heap.size, 12, none⟩ = some (.int .u32 ck.other) ∧ w'.cell? ⟨w.heap.size + 1, 0, none⟩ = some (.int .i64 dk.made) ∧ w'.cell? ⟨w.heap.size + 1, 1, none⟩ = some (.int .i64 dk.life) ∧ w'.cell? ⟨w.heap.size + 1, 2, none⟩ = some (.int .u16 dk.port) ∧ w'.cell? ⟨w.heap.size + 1, 3, none⟩ = some (.int .u16 dk.pport) ∧ w'.cell? ⟨w.heap.size + 1, 4, none⟩ = some (.int .u32 dk.tag) ∧ w'.cell? ⟨w.heap.size + 1, 5, none⟩ = some (.int .u32 dk.ptag) ∧ w'.cell? ⟨w.heap.size + 1, 6, none⟩ = some (.int .u32 dk.tsn) ∧ w'.cell? ⟨w.heap.size + 1, 7, none⟩ = some (.int .u32 dk.ptsn) ∧ w'.cell? ⟨w.heap.size + 1, 8, none⟩ = some (.int .u32 dk.room) ∧ w'.cell? ⟨w.heap.size + 1, 9, none⟩ = some (.int .u16 dk.outs) ∧ w'.cell? ⟨w.heap.size + 1, 10, none⟩ = some (.int .u16 dk.ins) ∧ w'.cell? ⟨w.heap.size + 1, 11, none⟩ = some (.int .u32 dk.addr) ∧ w'.cell? ⟨w.heap.size + 1, 12, none⟩ = some (.int .u32 dk.other)) (first | exact ⟨hS0, x0⟩ | exact ⟨hS0.drew, x0⟩ | exact ⟨hS0, (KX.out _ hS0).cells⟩ | exact ⟨hS0.drew, (KX.out _ hS0).cells⟩) (first | (refine Calls.mono (clive_calls _ (HT.out.below (below_then K3.out.all (by first | assumption | exact hS0.drew)))) ?_; rintro e w1 ⟨rfl, hb1⟩; have hS0 : Below w300.heap.size w300 w1 := below_then (by first | assumption | exact hS0.drew) hb1))
    go_wp2
    go_ret
    exact ⟨rfl, below_then K3.out.all hS0⟩
  have hd : decide (ck = dk) = false := decide_eq_false hcd
  rw [hd] at hs1
  simp only [hd, Bool.not_false] at hq1 hq2
  clear hs2 hcd hd
  unfold Ck.cells at hq1 hq2
  have h52a : (52 : Int) ≤ (c2 : Int) := by have := HCP.out; omega
  have h52b : (52 : Int) ≤ (c3 : Int) := by have := HCQ.out; omega
  clear t52 u52
  go_wp2_with fail
  refine wp_region_held_drew (S := fun w' => Below w300.heap.size w300 w' ∧ w'.cell? ⟨w.heap.size, 0, none⟩ = some (.int .i64 ck.made) ∧ w'.cell? ⟨w.heap.size, 1, none⟩ = some (.int .i64 ck.life) ∧ w'.cell? ⟨w.heap.size, 2, none⟩ = some (.int .u16 ck.port) ∧ w'.cell? ⟨w.heap.size, 3, none⟩ = some (.int .u16 ck.pport) ∧ w'.cell? ⟨w.heap.size, 4, none⟩ = some (.int .u32 ck.tag) ∧ w'.cell? ⟨w.heap.size, 5, none⟩ = some (.int .u32 ck.ptag) ∧ w'.cell? ⟨w.heap.size, 6, none⟩ = some (.int .u32 ck.tsn) ∧ w'.cell? ⟨w.heap.size, 7, none⟩ = some (.int .u32 ck.ptsn) ∧ w'.cell? ⟨w.heap.size, 8, none⟩ = some (.int .u32 ck.room) ∧ w'.cell? ⟨w.heap.size, 9, none⟩ = some (.int .u16 ck.outs) ∧ w'.cell? ⟨w.heap.size, 10, none⟩ = some (.int .u16 ck.ins) ∧ w'.cell? ⟨w.heap.size, 11, none⟩ = some (.int .u32 ck.addr) ∧ w'.cell? ⟨w.heap.size, 12, none⟩ = some (.int .u32 ck.other) ∧ w'.cell? ⟨w.heap.size + 1, 0, none⟩ = some (.int .i64 dk.made) ∧ w'.cell? ⟨w.heap.size + 1, 1, none⟩ = some (.int .i64 dk.life) ∧ w'.cell? ⟨w.heap.size + 1, 2, none⟩ = some (.int .u16 dk.port) ∧ w'.cell? ⟨w.heap.size + 1, 3, none⟩ = some (.int .u16 dk.pport) ∧ w'.cell? ⟨w.heap.size + 1, 4, none⟩ = some (.int .u32 dk.tag) ∧ w'.cell? ⟨w.heap.size + 1, 5, none⟩ = some (.int .u32 dk.ptag) ∧ w'.cell? ⟨w.heap.size + 1, 6, none⟩ = some (.int .u32 dk.tsn) ∧ w'.cell? ⟨w.heap.size + 1, 7, none⟩ = some (.int .u32 dk.ptsn) ∧ w'.cell? ⟨w.heap.size + 1, 8, none⟩ = some (.int .u32 dk.room) ∧ w'.cell? ⟨w.heap.size + 1, 9, none⟩ = some (.int .u16 dk.outs) ∧ w'.cell? ⟨w.heap.size + 1, 10, none⟩ = some (.int .u16 dk.ins) ∧ w'.cell? ⟨w.heap.size + 1, 11, none⟩ = some (.int .u32 dk.addr) ∧ w'.cell? ⟨w.heap.size + 1, 12, none⟩ = some (.int .u32 dk.other)) (by kernel_rfl) ⟨hS0.drew, x0⟩ (fun hHeld => ?_)
  refine wpAnyH_ready (rs := [0]) (by kernel_rfl) (by simp) ?_
  refine AllReadyH.cons (o := _) rfl (fun K hK => ?_) AllReadyH.nil
  go_simp
  go_at_call 25
  refine Calls.mono (clive_calls _ (HT.out.below (below_then K3.out.all hS0.drew))) ?_
  rintro e w1 ⟨rfl, hb1⟩
  have hS1 : Below w300.heap.size w300 w1 := below_then hS0.drew hb1
  refine hK.out _ _ ⟨hS1, (KX.out _ hS1).cells⟩ (fun hHeld => ?_)
  clear hK K
  try simp only [Act.put, List.setIfInBounds_toArray, List.set_cons_succ, List.set_cons_zero]
  refine wpAnyH_take (i := 1) (oi := { dst := some 65, op := Op.move (Operand.tmp 64), type := 4, pos := "law.go:144", after := #[{ on := 0, ground := Ground.data }, { on := 0, ground := Ground.chain }], guard := none }) (v := ?_) rfl (by kernel_rfl) (by kernel_rfl) (by kernel_rfl) (fun _ _ _ h => h) (Or.inl ⟨by rfl, ?_⟩) hHeld ?_
  rotate_left
  · (intro w hSw; (try dsimp only at hSw); go_simp; try with_reducible rfl)
  try simp only [Act.put, List.setIfInBounds_toArray, List.set_cons_succ, List.set_cons_zero]
  refine wpAnyH_take (i := 2) (oi := { dst := some 66, op := Op.move (Operand.tmp 8), type := 22, pos := "law.go:144", after := #[{ on := 1, ground := Ground.guard }], guard := some (1, true) }) (v := ?_) rfl (by kernel_rfl) (by kernel_rfl) (by kernel_rfl) (fun _ _ _ h => h) (Or.inl ⟨by rfl, ?_⟩) hHeld ?_
  rotate_left
  · (intro w hSw; (try dsimp only at hSw); go_simp; try with_reducible rfl)
  try simp only [Act.put, List.setIfInBounds_toArray, List.set_cons_succ, List.set_cons_zero]
  refine wpAnyH_take (i := 3) (oi := { dst := some 67, op := Op.slice 22 (Operand.tmp 66) none (some (Operand.const (Value.int IntKind.i64 52))) none, type := 22, pos := "law.go:144", after := #[{ on := 2, ground := Ground.data }, { on := 1, ground := Ground.guard }], guard := some (1, true) }) (v := ?_) rfl (by kernel_rfl) (by kernel_rfl) (by kernel_rfl) (fun _ _ _ h => h) (Or.inl ⟨by rfl, ?_⟩) hHeld ?_
  rotate_left
  · (intro w hSw; (try dsimp only at hSw); go_simp; try with_reducible rfl)
  try simp only [Act.put, List.setIfInBounds_toArray, List.set_cons_succ, List.set_cons_zero]
  refine wpAnyH_take (i := 4) (oi := { dst := some 68, op := Op.convert 22 9 (Operand.tmp 67), type := 9, pos := "law.go:144", after := #[{ on := 3, ground := Ground.data }, { on := 1, ground := Ground.guard }], guard := some (1, true) }) (v := ?_) rfl (by kernel_rfl) (by kernel_rfl) (by kernel_rfl) (fun _ _ _ h => h) (Or.inl ⟨by rfl, ?_⟩) hHeld ?_
  rotate_left
  · (intro w hSw; (try dsimp only at hSw); go_simp; try with_reducible rfl)
  try simp only [Act.put, List.setIfInBounds_toArray, List.set_cons_succ, List.set_cons_zero]
  refine wpAnyH_take (i := 5) (oi := { dst := some 69, op := Op.move (Operand.tmp 10), type := 22, pos := "law.go:144", after := #[{ on := 1, ground := Ground.guard }], guard := some (1, true) }) (v := ?_) rfl (by kernel_rfl) (by kernel_rfl) (by kernel_rfl) (fun _ _ _ h => h) (Or.inl ⟨by rfl, ?_⟩) hHeld ?_
  rotate_left
  · (intro w hSw; (try dsimp only at hSw); go_simp; try with_reducible rfl)
  try simp only [Act.put, List.setIfInBounds_toArray, List.set_cons_succ, List.set_cons_zero]
  refine wpAnyH_take (i := 6) (oi := { dst := some 70, op := Op.slice 22 (Operand.tmp 69) none (some (Operand.const (Value.int IntKind.i64 52))) none, type := 22, pos := "law.go:144", after := #[{ on := 5, ground := Ground.data }, { on := 1, ground := Ground.guard }], guard := some (1, true) }) (v := ?_) rfl (by kernel_rfl) (by kernel_rfl) (by kernel_rfl) (fun _ _ _ h => h) (Or.inl ⟨by rfl, ?_⟩) hHeld ?_
  rotate_left
  · (intro w hSw; (try dsimp only at hSw); go_simp; try with_reducible rfl)
  try simp only [Act.put, List.setIfInBounds_toArray, List.set_cons_succ, List.set_cons_zero]
  refine wpAnyH_take (i := 7) (oi := { dst := some 71, op := Op.convert 22 9 (Operand.tmp 70), type := 9, pos := "law.go:144", after := #[{ on := 6, ground := Ground.data }, { on := 1, ground := Ground.guard }], guard := some (1, true) }) (v := ?_) rfl (by kernel_rfl) (by kernel_rfl) (by kernel_rfl) (fun _ _ _ h => h) (Or.inl ⟨by rfl, ?_⟩) hHeld ?_
  rotate_left
  · (intro w hSw; (try dsimp only at hSw); go_simp; try with_reducible rfl)
  try simp only [Act.put, List.setIfInBounds_toArray, List.set_cons_succ, List.set_cons_zero]
  refine wpAnyH_take (i := 8) (oi := { dst := some 72, op := Op.binOp BinOp.eql 9 (Operand.tmp 68) (Operand.tmp 71) 9, type := 4, pos := "law.go:144", after := #[{ on := 4, ground := Ground.data }, { on := 7, ground := Ground.data }, { on := 1, ground := Ground.guard }], guard := some (1, true) }) (v := ?_) rfl (by kernel_rfl) (by kernel_rfl) (by kernel_rfl) (fun _ _ _ h => h) (Or.inl ⟨by rfl, ?_⟩) hHeld ?_
  rotate_left
  · (intro w hSw; (try dsimp only at hSw); go_simp; try with_reducible rfl)
  try simp only [Act.put, List.setIfInBounds_toArray, List.set_cons_succ, List.set_cons_zero]
  refine wpAnyH_take (i := 9) (oi := { dst := some 73, op := Op.load 40 (Operand.tmp 4), type := 40, pos := "law.go:144", after := #[{ on := 1, ground := Ground.guard }], guard := some (1, true) }) (v := ?_) rfl (by kernel_rfl) (by kernel_rfl) (by kernel_rfl) (fun _ _ _ h => h) (Or.inl ⟨by rfl, ?_⟩) hHeld ?_
  rotate_left
  · (intro w hSw; (try dsimp only at hSw); go_simp; try with_reducible rfl)
  try simp only [Act.put, List.setIfInBounds_toArray, List.set_cons_succ, List.set_cons_zero]
  refine wpAnyH_take (i := 10) (oi := { dst := some 74, op := Op.load 40 (Operand.tmp 5), type := 40, pos := "law.go:144", after := #[{ on := 1, ground := Ground.guard }], guard := some (1, true) }) (v := ?_) rfl (by kernel_rfl) (by kernel_rfl) (by kernel_rfl) (fun _ _ _ h => h) (Or.inl ⟨by rfl, ?_⟩) hHeld ?_
  rotate_left
  · (intro w hSw; (try dsimp only at hSw); go_simp; try with_reducible rfl)
  try simp only [Act.put, List.setIfInBounds_toArray, List.set_cons_succ, List.set_cons_zero]
  refine wpAnyH_take (i := 11) (oi := { dst := some 75, op := Op.binOp BinOp.eql 40 (Operand.tmp 73) (Operand.tmp 74) 40, type := 4, pos := "law.go:144", after := #[{ on := 9, ground := Ground.data }, { on := 10, ground := Ground.data }, { on := 1, ground := Ground.guard }], guard := some (1, true) }) (v := ?_) rfl (by kernel_rfl) (by kernel_rfl) (by kernel_rfl) (fun _ _ _ h => h) (Or.inl ⟨by rfl, ?_⟩) hHeld ?_
  rotate_left
  · (intro w hSw; (try dsimp only at hSw); go_simp; try with_reducible rfl)
  try simp only [Act.put, List.setIfInBounds_toArray, List.set_cons_succ, List.set_cons_zero]
  refine wpAnyH_take (i := 12) (oi := { dst := some 76, op := Op.binOp BinOp.eql 4 (Operand.tmp 72) (Operand.tmp 75) 4, type := 4, pos := "law.go:144", after := #[{ on := 8, ground := Ground.data }, { on := 11, ground := Ground.data }, { on := 1, ground := Ground.guard }], guard := some (1, true) }) (v := ?_) rfl (by kernel_rfl) (by kernel_rfl) (by kernel_rfl) (fun _ _ _ h => h) (Or.inl ⟨by rfl, ?_⟩) hHeld ?_
  rotate_left
  · (intro w hSw; (try dsimp only at hSw); go_simp; try with_reducible rfl)
  try simp only [Act.put, List.setIfInBounds_toArray, List.set_cons_succ, List.set_cons_zero]
  refine wpAnyH_take (i := 13) (oi := { dst := some 77, op := Op.pick (Operand.tmp 65) (Operand.tmp 76) (Operand.const (Value.bool false)), type := 4, pos := "law.go:144", after := #[{ on := 1, ground := Ground.data }, { on := 12, ground := Ground.data }], guard := none }) (v := ?_) rfl (by kernel_rfl) (by kernel_rfl) (by kernel_rfl) (fun _ _ _ h => h) (Or.inl ⟨by rfl, ?_⟩) hHeld ?_
  rotate_left
  · (intro w hSw; (try dsimp only at hSw); go_simp; try with_reducible rfl)
  try simp only [Act.put, List.setIfInBounds_toArray, List.set_cons_succ, List.set_cons_zero]
  refine wpAnyH_take (i := 14) (oi := { dst := some 78, op := Op.move (Operand.tmp 77), type := 4, pos := "law.go:144", after := #[{ on := 13, ground := Ground.data }, { on := 1, ground := Ground.chain }], guard := none }) (v := ?_) rfl (by kernel_rfl) (by kernel_rfl) (by kernel_rfl) (fun _ _ _ h => h) (Or.inl ⟨by rfl, ?_⟩) hHeld ?_
  rotate_left
  · (intro w hSw; (try dsimp only at hSw); go_simp; try with_reducible rfl)
  try simp only [Act.put, List.setIfInBounds_toArray, List.set_cons_succ, List.set_cons_zero]
  refine wpAnyH_take (i := 15) (oi := { dst := some 79, op := Op.load 40 (Operand.tmp 4), type := 40, pos := "law.go:144", after := #[{ on := 14, ground := Ground.guard }], guard := some (14, true) }) (v := ?_) rfl (by kernel_rfl) (by kernel_rfl) (by kernel_rfl) (fun _ _ _ h => h) (Or.inl ⟨by rfl, ?_⟩) hHeld ?_
  rotate_left
  · (intro w hSw; (try dsimp only at hSw); go_simp; try with_reducible rfl)
  try simp only [Act.put, List.setIfInBounds_toArray, List.set_cons_succ, List.set_cons_zero]
  refine wpAnyH_take (i := 16) (oi := { dst := some 80, op := Op.load 40 (Operand.tmp 5), type := 40, pos := "law.go:144", after := #[{ on := 14, ground := Ground.guard }], guard := some (14, true) }) (v := ?_) rfl (by kernel_rfl) (by kernel_rfl) (by kernel_rfl) (fun _ _ _ h => h) (Or.inl ⟨by rfl, ?_⟩) hHeld ?_
  rotate_left
  · (intro w hSw; (try dsimp only at hSw); go_simp; try with_reducible rfl)
  try simp only [Act.put, List.setIfInBounds_toArray, List.set_cons_succ, List.set_cons_zero]
  refine wpAnyH_take (i := 17) (oi := { dst := some 81, op := Op.binOp BinOp.neq 40 (Operand.tmp 79) (Operand.tmp 80) 40, type := 4, pos := "law.go:144", after := #[{ on := 15, ground := Ground.data }, { on := 16, ground := Ground.data }, { on := 14, ground := Ground.guard }], guard := some (14, true) }) (v := ?_) rfl (by kernel_rfl) (by kernel_rfl) (by kernel_rfl) (fun _ _ _ h => h) (Or.inl ⟨by rfl, ?_⟩) hHeld ?_
  rotate_left
  · (intro w hSw; (try dsimp only at hSw); go_simp; try with_reducible rfl)
  try simp only [Act.put, List.setIfInBounds_toArray, List.set_cons_succ, List.set_cons_zero]
  refine wpAnyH_take (i := 18) (oi := { dst := some 82, op := Op.move (Operand.tmp 81), type := 4, pos := "law.go:144", after := #[{ on := 17, ground := Ground.data }, { on := 14, ground := Ground.chain }, { on := 14, ground := Ground.guard }], guard := some (14, true) }) (v := ?_) rfl (by kernel_rfl) (by kernel_rfl) (by kernel_rfl) (fun _ _ _ h => h) (Or.inl ⟨by rfl, ?_⟩) hHeld ?_
  rotate_left
  · (intro w hSw; (try dsimp only at hSw); go_simp; try with_reducible rfl)
  try simp only [Act.put, List.setIfInBounds_toArray, List.set_cons_succ, List.set_cons_zero]
  refine wpAnyH_take (i := 19) (oi := { dst := some 83, op := Op.move (Operand.tmp 8), type := 22, pos := "law.go:144", after := #[{ on := 18, ground := Ground.guard }], guard := some (18, false) }) (v := undef) rfl (by kernel_rfl) (by kernel_rfl) (by kernel_rfl) (fun _ _ _ h => h) (Or.inr ⟨by rfl, rfl⟩) hHeld ?_
  try simp only [Act.put, List.setIfInBounds_toArray, List.set_cons_succ, List.set_cons_zero]
  refine wpAnyH_take (i := 20) (oi := { dst := some 84, op := Op.convert 22 9 (Operand.tmp 83), type := 9, pos := "law.go:144", after := #[{ on := 19, ground := Ground.data }, { on := 18, ground := Ground.guard }], guard := some (18, false) }) (v := undef) rfl (by kernel_rfl) (by kernel_rfl) (by kernel_rfl) (fun _ _ _ h => h) (Or.inr ⟨by rfl, rfl⟩) hHeld ?_
  try simp only [Act.put, List.setIfInBounds_toArray, List.set_cons_succ, List.set_cons_zero]
  refine wpAnyH_take (i := 21) (oi := { dst := some 85, op := Op.move (Operand.tmp 10), type := 22, pos := "law.go:144", after := #[{ on := 18, ground := Ground.guard }], guard := some (18, false) }) (v := undef) rfl (by kernel_rfl) (by kernel_rfl) (by kernel_rfl) (fun _ _ _ h => h) (Or.inr ⟨by rfl, rfl⟩) hHeld ?_
  try simp only [Act.put, List.setIfInBounds_toArray, List.set_cons_succ, List.set_cons_zero]
  refine wpAnyH_take (i := 22) (oi := { dst := some 86, op := Op.convert 22 9 (Operand.tmp 85), type := 9, pos := "law.go:144", after := #[{ on := 21, ground := Ground.data }, { on := 18, ground := Ground.guard }], guard := some (18, false) }) (v := undef) rfl (by kernel_rfl) (by kernel_rfl) (by kernel_rfl) (fun _ _ _ h => h) (Or.inr ⟨by rfl, rfl⟩) hHeld ?_
  try simp only [Act.put, List.setIfInBounds_toArray, List.set_cons_succ, List.set_cons_zero]
  refine wpAnyH_take (i := 23) (oi := { dst := some 87, op := Op.binOp BinOp.eql 9 (Operand.tmp 84) (Operand.tmp 86) 9, type := 4, pos := "law.go:144", after := #[{ on := 20, ground := Ground.data }, { on := 22, ground := Ground.data }, { on := 18, ground := Ground.guard }], guard := some (18, false) }) (v := undef) rfl (by kernel_rfl) (by kernel_rfl) (by kernel_rfl) (fun _ _ _ h => h) (Or.inr ⟨by rfl, rfl⟩) hHeld ?_
  try simp only [Act.put, List.setIfInBounds_toArray, List.set_cons_succ, List.set_cons_zero]
  refine wpAnyH_take (i := 24) (oi := { dst := some 88, op := Op.pick (Operand.tmp 82) (Operand.const (Value.bool true)) (Operand.tmp 87), type := 4, pos := "law.go:144", after := #[{ on := 18, ground := Ground.data }, { on := 23, ground := Ground.data }, { on := 14, ground := Ground.guard }], guard := some (14, true) }) (v := ?_) rfl (by kernel_rfl) (by kernel_rfl) (by kernel_rfl) (fun _ _ _ h => h) (Or.inl ⟨by rfl, ?_⟩) hHeld ?_
  rotate_left
  · (intro w hSw; (try dsimp only at hSw); go_simp; try with_reducible rfl)
  try simp only [Act.put, List.setIfInBounds_toArray, List.set_cons_succ, List.set_cons_zero]
  refine wpAnyH_take (i := 25) (oi := { dst := some 89, op := Op.pick (Operand.tmp 78) (Operand.tmp 88) (Operand.const (Value.bool false)), type := 4, pos := "law.go:144", after := #[{ on := 14, ground := Ground.data }, { on := 24, ground := Ground.data }], guard := none }) (v := ?_) rfl (by kernel_rfl) (by kernel_rfl) (by kernel_rfl) (fun _ _ _ h => h) (Or.inl ⟨by rfl, ?_⟩) hHeld ?_
  rotate_left
  · (intro w hSw; (try dsimp only at hSw); go_simp; try with_reducible rfl)
  try simp only [Act.put, List.setIfInBounds_toArray, List.set_cons_succ, List.set_cons_zero]
  refine wpAnyH_take (i := 26) (oi := { dst := some 6, op := Op.assign (Operand.tmp 89), type := 4, pos := "law.go:144", after := #[{ on := 25, ground := Ground.data }, { on := 18, ground := Ground.chain }, { on := 0, ground := Ground.phase }, { on := 1, ground := Ground.phase }, { on := 2, ground := Ground.phase }, { on := 3, ground := Ground.phase }, { on := 4, ground := Ground.phase }, { on := 5, ground := Ground.phase }, { on := 6, ground := Ground.phase }, { on := 7, ground := Ground.phase }, { on := 8, ground := Ground.phase }, { on := 9, ground := Ground.phase }, { on := 10, ground := Ground.phase }, { on := 11, ground := Ground.phase }, { on := 12, ground := Ground.phase }, { on := 13, ground := Ground.phase }, { on := 14, ground := Ground.phase }, { on := 15, ground := Ground.phase }, { on := 16, ground := Ground.phase }, { on := 17, ground := Ground.phase }, { on := 18, ground := Ground.phase }, { on := 19, ground := Ground.phase }, { on := 20, ground := Ground.phase }, { on := 21, ground := Ground.phase }, { on := 22, ground := Ground.phase }, { on := 23, ground := Ground.phase }, { on := 24, ground := Ground.phase }, { on := 25, ground := Ground.phase }], guard := none }) (v := ?_) rfl (by kernel_rfl) (by kernel_rfl) (by kernel_rfl) (fun _ _ _ h => h) (Or.inl ⟨by rfl, ?_⟩) hHeld ?_
  rotate_left
  · (intro w hSw; (try dsimp only at hSw); go_simp; try with_reducible rfl)
  try simp only [Act.put, List.setIfInBounds_toArray, List.set_cons_succ, List.set_cons_zero]
  refine wpAnyH_done (by kernel_rfl) ?_ _
  
  go_wp2
  go_ret
  exact ⟨rfl, below_then K3.out.all hS1⟩
end Go.Proofs.YtaieajfgcnaedaaDoor
