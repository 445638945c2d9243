/-
  LAYER 9, WALKS: Tick.
-/
import Derived.Test.YtebfoigbiekeiaaArpG
set_option linter.unusedVariables false
set_option linter.unusedSimpArgs false
namespace Go.Proofs.Ytebfoigbiekeiaa
open Go Go.RowKit

theorem CSt.del {S : Nat → Prop} {w w' : World} {g b : Nat} {M : List (Int × Value)} {s : Ar} {k : Int} (h : CSt S w g b M s) (hM : MapAt w' Try.prog 28 b (delK k M)) (hg : w.grownBy w' (some b)) : CSt S w' g b (delK k M) { s with m := delK k s.m } :=
  ⟨(hg.block g h.lt (fun e => by injection e with e; exact h.ne e)).trans h.blk, hM, (h.ent.agree (Agree.of_grown hg h.sl h.nb)).del, h.ok.del k, fun q hq => Nat.lt_of_lt_of_le (h.sl q hq) hg.size, h.ng, h.nb⟩
theorem CSt.put {S : Nat → Prop} {w w' : World} {g b : Nat} {M : List (Int × Value)} {s : Ar} {k : Int} {v : Value} {e : En} (h : CSt S w g b M s) (hM : MapAt w' Try.prog 28 b (putK k v M)) (hg : w.grownBy w' (some b)) (he : EnS S w v e) (hok : ({ s with m := putK k e s.m } : Ar).Ok) : CSt S w' g b (putK k v M) { s with m := putK k e s.m } :=
  ⟨(hg.block g h.lt (fun e => by injection e with e; exact h.ne e)).trans h.blk, hM, EnsS.put (he.agree (Agree.of_grown hg h.sl h.nb)) (h.ent.agree (Agree.of_grown hg h.sl h.nb)), hok, fun q hq => Nat.lt_of_lt_of_le (h.sl q hq) hg.size, h.ng, h.nb⟩
theorem CSt.row {S : Nat → Prop} {w w' : World} {g b N : Nat} {M : List (Int × Value)} {s : Ar} {v : Value} (h : CSt S w g b M s) (hg : w.grownBy w' v.ownBlock) (hN : ∀ q, v.ownBlock = some q → N ≤ q) (hgN : g < N) (hbN : b < N) (hSN : ∀ q, S q → q < N) : CSt S w' g b M s :=
  h.agree ⟨hg.size, fun q hq => hg.block q (h.sl q hq) (fun e => by have := hN q e.symm; have := hSN q hq; omega)⟩ (hg.block g h.lt (fun e => by have := hN g e.symm; omega)) (hg.block b h.map.lt (fun e => by have := hN b e.symm; omega))
theorem Grown2.rowV {w w3 w4 : World} {g b : Nat} {v : Value} (h : Grown2 w w3 g b) (hg : w3.grownBy w4 v.ownBlock) (hN : ∀ q, v.ownBlock = some q → w.heap.size ≤ q) : Grown2 w w4 g b :=
  ⟨hg.os.trans h.os, hg.tape.trans h.tape, hg.output.trans h.output, Nat.le_trans h.size hg.size, fun i hi h1 h2 => (hg.block i (Nat.lt_of_lt_of_le hi h.size) (fun e => by have := hN i e.symm; omega)).trans (h.block i hi h1 h2)⟩
theorem asked_len (s : Ar) (now : Int) (j : Nat) (h : s.m.length ≤ 8) : (s.asked now j).length ≤ 8 := by
  have h1 := (tickL_len now (s.m.take j)).2
  have h2 : (s.m.take j).length ≤ s.m.length := by simp; omega
  simp only [Ar.asked, List.length_map]
  omega
theorem row_ne {w : World} {base : Nat} {e t : TypeId} {size : Nat} {v : Value} {n en : Nat} {xs : List Value} {cs : Array Value} {fr : Nat × Nat} (h : w.ownsRow base e size v n xs) (hen : w.heap[en]? = some (.cells cs t fr)) (ht : t ≠ e) : v.ownBlock = none ∨ v.ownBlock ≠ some en := by
  rcases h.2 with ⟨rfl, _⟩ | ⟨g, cap, cur, rfl, _, hg, _⟩
  · exact .inl rfl
  · refine .inr fun e' => ?_
    simp only [Value.ownBlock, Option.some.injEq] at e'
    subst e'
    rw [hen] at hg
    injection hg with h1
    injection h1 with h2 h3
    exact ht h3
theorem OwnsS.keptT {T : Nat → Prop} {w w' : World} {en : Nat} {t : TypeId} {cs : Array Value} {fr : Nat × Nat} (hg : w.grownBy w' (some en)) (hen : w.heap[en]? = some (.cells cs t fr)) (ht : t ≠ 5) : ∀ {vs : List Value} {L : List (List Int)}, OwnsS T w vs L → OwnsS T w' vs L
  | [], [], _ => trivial
  | _ :: _, _ :: _, h => ⟨⟨h.1.1.kept hg (row_ne h.1.1 hen ht), h.1.2⟩, OwnsS.keptT hg hen ht h.2⟩
theorem FrB.keptT {N : Nat} {w w' : World} {v : Value} {L : List (List Int)} {en : Nat} {t : TypeId} {cs : Array Value} {fr : Nat × Nat} (h : FrB N w v L) (hg : w.grownBy w' (some en)) (hen : w.heap[en]? = some (.cells cs t fr)) (ht : t ≠ 5) (ht2 : t ≠ 31) : FrB N w' v L := by
  obtain ⟨vs, h1, h2⟩ := h
  exact ⟨vs, h1.kept hg (row_ne h1 hen ht2), h2.keptT hg hen ht⟩
set_option maxHeartbeats 12800000 in
set_option maxRecDepth 100000 in
theorem tick_calls (S : Nat → Prop) (g b : Nat) (M : List (Int × Value)) (s : Ar) (now : Int) (w : World) (h : CSt S w g b M s) (hlo : 0 ≤ s.lost ∧ s.lost ≤ 4611686018427387904) :
    Calls Try.prog 16 #[.pointer (some ⟨g, 0, none⟩), .int .i64 now] w (Done S g b (s.tick now) w) := by
  have H := hid h; have HB := hid (begin_calls S g b M s now w h); have HLO := hid hlo
  clear h hlo
  go_enter Try.func16, Try.ntmps16
  go_wp2_with (go_at_call 28; refine hold ?_)
  refine hid ?_
  refine Calls.mono HB.out ?_
  rintro e w1 ⟨rfl, hbad, hgood⟩
  by_cases hw : s.wrong now = 0
  · obtain ⟨hc1, hg1⟩ := hgood hw
    have HS := hid (ticked_all s now hw)
    rw [hw]
    have HLA : Hid ((s.at now).last = now) := hid rfl
    have HL1 : Hid (0 ≤ (s.at now).lost ∧ (s.at now).lost ≤ 4611686018427387904) := HLO
    generalize hs1 : s.at now = s1 at *
    have H1 := hid hc1
    have HG1 := hid (Grown2.of_left b hg1)
    clear hbad hgood hw hc1 hg1 H HB
    have c3 := H1.out.cells.2.2.2.1
    have HML := hid H1.out.ent.len
    have hn12 : M.length ≤ 12 := by have := HML.out; have := H1.out.ok.few; omega
    go_wp2_with (go_at_call 34; refine hold ?_)
    refine hid ?_
    refine Calls.mono (csorted_calls g b M hn12 w1 c3 H1.out.map) ?_
    rintro e w2 ⟨hb1, v, rfl, ho⟩
    have hkl : (keysOf M).length = M.length := by simp [keysOf]
    obtain ⟨A1, cc, rfl, _⟩ := ho.rd (by omega)
    have HB1 := hid hb1; have HO1 := hid ho; have HKL := hid hkl
    rw [hkl] at HO1 ⊢
    obtain ⟨n, hnn⟩ : ∃ n, n = M.length := ⟨_, rfl⟩
    rw [← hnn] at HO1 HML HKL hn12 ⊢
    clear hb1 ho hkl c3 hnn
    go_wp2_with fail
    go_loopw [7, 21] (fun out i w' => ∃ (j : Nat) (M' : List (Int × Value)), j ≤ n ∧ i = .int .i64 j ∧ CSt S w' g b M' (s1.ticked now j) ∧ FrB w2.heap.size w' out (s1.asked now j) ∧ Grown2 w w' g b ∧ Own w' w1.heap.size 28 .u32 (.slice A1 n cc) (keysOf M) ∧ w2.heap.size ≤ w'.heap.size) (fun _ i _ => n - (intOf i).toNat)
    case atStart => exact ⟨0, M, by omega, rfl, by rw [ticked_zero]; exact H1.out.below HB1.out, by rw [asked_zero]; exact FrB.nil _ _, HG1.out.trans (Grown2.of_below g b HB1.out), HO1.out, Nat.le_refl _⟩
    case round =>
      obtain ⟨j, M', hj, rfl, hcs, hfr, hgw, hkey, hsz⟩ := hrel
      have hj0 : (0 : Int) ≤ (j : Int) := by omega
      by_cases hlt : j < n
      · have hj1 : (j : Int) < (n : Int) := by omega
        have hjm : j < s1.m.length := by have := HML.out; omega
        obtain ⟨kj, ej, hsj⟩ : ∃ k e, s1.m[j]'hjm = (k, e) := ⟨_, _, rfl⟩
        have HSJ := hid hsj; have HJM := hid hjm
        have hmem : (kj, ej) ∈ s1.m := by rw [← hsj]; exact List.getElem_mem hjm
        have hkr := H1.out.ok.key _ hmem
        have hkj : (keysOf M).getD j 0 = kj := by
          have h1 : keysOf M = s1.m.map (·.1) := H1.out.ent.keys
          rw [h1]
          simp [List.getD_eq_getElem?_getD, hjm, hsj]
        have hmj : (kj, ej) ∈ (s1.ticked now j).m := by rw [ticked_mid s1 now j hjm, hsj]; simp
        obtain ⟨v, hv, hen⟩ : ∃ v, lookK kj M' = some v ∧ EnS S wr v ej := by
          rcases hcs.ent.look (x := kj) with ⟨_, h2⟩ | ⟨v, e, h2, h3, h4⟩
          · rw [lookK_of_mem hcs.ok.rise hmj] at h2; cases h2
          · rw [lookK_of_mem hcs.ok.rise hmj] at h3; injection h3 with h3; subst h3; exact ⟨v, h2, h4⟩
        obtain ⟨A2, n2, c2, rfl, hwt⟩ := hen
        obtain ⟨A4, c4, e4, _, hR4, hz4⟩ := hkey.rd (by have := HKL.out; omega)
        obtain ⟨q, oq, hq, hql⟩ := hR4.form j (by have := HKL.out; omega)
        injection e4 with e5 e6 e7
        subst e5
        subst hq
        obtain rfl : oq = 0 := (hz4 q oq rfl).2
        have cx := hkey.cell j (by have := HKL.out; omega)
        rw [hkj] at cx
        have c3 := hcs.cells.2.2.2.1
        have HLK := hid hv; have HKR := hid hkr
        have HEN := hid (hcs.ok.en _ hmj)
        have HTL : Hid ((s1.ticked now j).last = now) := hid HLA.out
        have HN2 := hid hwt.len; have HWT := hid hwt
        have HCS := hid hcs; have HFR := hid hfr; have HGW := hid hgw; have HKEY := hid hkey; have HSZ := hid hsz
        have HTLO := hid (tickL_lost now (s1.m.take j) (fun p hp => (H1.out.ok.en p (List.mem_of_mem_take hp)).2.2.2.2.2.2.1))
        obtain ⟨knw, mc, att, trs, L⟩ := ej
        simp only at HSJ HLK HEN HN2 ⊢
        clear hsj hmem hkr hkj hmj hv hwt e6 e7 hR4 hz4 hql hcs hfr hgw hkey hsz
        go_wp2_with (with_reducible refine hold_op (o := ⟨some 30, _, _, _, _, _⟩) ?_)
        refine hid ?_
        refine BigFrame.wpList_want rfl fun K hK => wp_mlook1 _ _ 70 28 78 rfl Try.underlying28 Try.underlying70 (zeroEn wr) b M' HCS.out.map rfl kj rfl HKR.out (hK _ _ ?_)
        rw [HLK.out]
        simp only [Option.getD_some, Act.put, List.setIfInBounds_toArray, List.set_cons_succ, List.set_cons_zero]
        go_wp2_with (with_reducible refine hold_op (o := ⟨none, _, _, _, _, _⟩) ?_)
        have hO1 : (wr.alloc (.cells #[.bool false, .int .u64 0, .int .i64 0, .int .i64 0, .slice none 0 0] 78)).heap[wr.heap.size]? = some (.cells #[.bool false, .int .u64 0, .int .i64 0, .int .i64 0, .slice none 0 0] 78 (0, 0)) := heap_alloc_new _ _
        have hP1 : Below wr.heap.size wr (wr.alloc (.cells #[.bool false, .int .u64 0, .int .i64 0, .int .i64 0, .slice none 0 0] 78)) := (Below.refl _ _).alloc (Nat.le_refl _) _
        generalize wr.alloc (.cells #[.bool false, .int .u64 0, .int .i64 0, .int .i64 0, .slice none 0 0] 78) = wb at *
        refine hid ?_
        refine wpList_store_row rfl 78 (.tmp 10) (.tmp 30) rfl wr.heap.size (enC ⟨knw, mc, att, trs, L⟩ A2 n2 c2) rfl rfl 78 _ hO1 (by kernel_rfl) rfl (by kernel_rfl) ?_
        have hW := setRow_heap wb wr.heap.size _ (enC ⟨knw, mc, att, trs, L⟩ A2 n2 c2) 78 _ hO1
        have hBW := below_setRow hP1 (Nat.le_refl _) (enC ⟨knw, mc, att, trs, L⟩ A2 n2 c2)
        generalize wb.setRow wr.heap.size (enC ⟨knw, mc, att, trs, L⟩ A2 n2 c2) = w3 at *
        have HW := hid hW; have HBW3 := hid hBW
        have HC3 := hid (HCS.out.below hBW)
        have HFR3 := hid (HFR.out.below hBW)
        have HGW3 := hid (HGW.out.trans (Grown2.of_below g b hBW))
        have HKEY3 := hid (show Own w3 w1.heap.size 28 .u32 (.slice (some ⟨q, 0, none⟩) n cc) (keysOf M) from HKEY.out.below hBW)
        have HSZ3 := hid (Nat.le_trans HSZ.out hBW.size)
        have HLT3 := hid (lt_of_block hW)
        have e0 : w3.cell? ⟨wr.heap.size, 0, none⟩ = some (.bool knw) := cellOf hW rfl
        have e2 : w3.cell? ⟨wr.heap.size, 2, none⟩ = some (.int .i64 att) := cellOf hW rfl
        have e3 : w3.cell? ⟨wr.heap.size, 3, none⟩ = some (.int .i64 trs) := cellOf hW rfl
        have e4 : w3.cell? ⟨wr.heap.size, 4, none⟩ = some (.slice A2 n2 c2) := cellOf hW rfl
        have hlast := HCS.out.ok.last
        rw [HTL.out] at hlast
        obtain ⟨x1, x2, x3, x4, x5, x6, x7, x8, x9⟩ := HEN.out
        rw [HTL.out] at x4
        have hnow : now ≤ 1099511627776 := hlast.2
        clear hO1 hP1 hW hBW cx c3 x1 x2 x7 x8 x9 hlast HCS HFR HGW HKEY
        dsimp only [Act.put]
        cases knw with
        | true =>
          by_cases h6 : 600 ≤ now - att
          · have HK := hid (ticked_drop s1 now j hjm HSJ.out HC3.out.ok.rise (.inl ⟨rfl, h6⟩))
            have hl : 0 ≤ (s1.ticked now j).lost ∧ (s1.ticked now j).lost ≤ 4611686018427387904 + 32 := by
              have h1 := HTLO.out
              have h2 := HL1.out
              have h3 := H1.out.ok.few
              have h4 : (s1.m.take j).length ≤ 8 := by simp; omega
              show 0 ≤ s1.lost + (tickL now (s1.m.take j)).2.2 ∧ s1.lost + (tickL now (s1.m.take j)).2.2 ≤ _
              omega
            have hn2 : n2 ≤ 4 := by have h1 := HEN.out.2.2.2.2.2.2.1; have h2 := HN2.out; omega
            generalize s1.ticked now j = sj at *
            clear HSJ HTLO HEN HL1
            go_wp2_with fail
            have g4 := HC3.out.cells.2.2.2.2
            have gf := frozen_of_row w3 g 4 _ _ HC3.out.blk
            refine wp_region_still_tail 10 (by kernel_rfl) (by kernel_rfl) ?_
            simp only [List.take_succ_cons, List.take_zero, List.drop_succ_cons, List.drop_zero]
            change wpStill _ _ w3.drew _ _ _
            repeat still_step
            refine wpStill_nil ?_
            try rw [show ({ heap := w3.heap, tape := w3.tape, drawn := w3.drawn + 1, os := w3.os, output := w3.output } : World) = w3.drew from rfl]
            have hbd : Below w3.heap.size w3 w3.drew := (Below.refl _ _).drew
            have HC4 := hid (HC3.out.below hbd)
            have HFR4 := hid (HFR3.out.below hbd)
            have HGW4 := hid (HGW3.out.trans (Grown2.of_below g b hbd))
            have HKEY4 := hid (show Own w3.drew w1.heap.size 28 .u32 (.slice (some ⟨q, 0, none⟩) n cc) (keysOf M) from HKEY3.out.below hbd)
            have HSZ4 := hid (show w2.heap.size ≤ w3.drew.heap.size from HSZ3.out)
            have g5 : w3.drew.cell? ⟨g, 4, none⟩ = some (.int .i64 sj.lost) := g4
            have g3 : w3.drew.cell? ⟨g, 3, none⟩ = some (.map (some b)) := HC3.out.cells.2.2.2.1
            have g6 : w3.drew.frozen? ⟨g, 4, none⟩ = false := gf
            clear hbd g4 gf e0 e2 e3 e4 HC3 HFR3 HGW3 HKEY3 HSZ3 HW HLT3
            generalize w3.drew = w4 at *
            go_wp2_with (with_reducible refine hold_op (o := ⟨none, .call _, _, _, _, _⟩) ?_)
            have hgs := grown_set w4 g 4 (.int .i64 (sj.lost + (n2 : Int)))
            have HC5 := hid (HC4.out.gone (n2 : Int))
            have HFR5 := hid (HFR4.out.kept hgs (by have := H1.out.lt; have := HB1.out.size; omega))
            have HGW5 := hid (HGW4.out.trans (Grown2.of_left b hgs))
            have HKEY5 := hid (show Own _ w1.heap.size 28 .u32 (.slice (some ⟨q, 0, none⟩) n cc) (keysOf M) from HKEY4.out.kept hgs (.inr (fun e => by simp only [Value.ownBlock, Option.some.injEq] at e; have := (HKEY4.out.lt q rfl).1; have := H1.out.lt; omega)))
            have HSV5 := hid (Nat.le_trans HSZ4.out hgs.size)
            clear hgs g3 g5 g6
            generalize w4.setCell ⟨g, 4, none⟩ (.int .i64 (sj.lost + (n2 : Int))) = w5 at *
            refine hid ?_
            refine BigFrame.wpList_want rfl fun K hK => wp_mdel _ _ 70 28 78 rfl Try.underlying28 Try.underlying70 b M' HC5.out.map rfl kj rfl HKR.out (fun w6 hM6 hg6 => hK _ _ ?_)
            have HC6 := hid (HC5.out.del hM6 hg6)
            have HFR6 := hid (HFR5.out.kept hg6 (by have := H1.out.map.lt; have := HB1.out.size; omega))
            have HGW6 := hid (HGW5.out.trans (Grown2.of_right g hg6))
            have HKEY6 := hid (show Own w6 w1.heap.size 28 .u32 (.slice (some ⟨q, 0, none⟩) n cc) (keysOf M) from HKEY5.out.kept hg6 (.inr (fun e => by simp only [Value.ownBlock, Option.some.injEq] at e; have := (HKEY5.out.lt q rfl).1; have := H1.out.map.lt; omega)))
            have HSZ6 := hid (Nat.le_trans HSV5.out hg6.size)
            clear hM6 hg6 HC4 HC5 HFR4 HFR5 HGW4 HGW5 HKEY4 HKEY5 HSZ4 HSV5
            dsimp only [Act.put]
            go_wp2
            go_roundw
            case rel => exact ⟨j + 1, _, by omega, by go_num, by rw [HK.out.1, ← HN2.out]; exact HC6.out, by rw [HK.out.2]; exact HFR6.out, HGW6.out, HKEY6.out, HSZ6.out⟩
            case measure => simp [intOf]; omega
          · have HK := hid (ticked_keep s1 now j hjm HSJ.out (by simp; omega) (by simp))
            clear HSJ HTLO HEN HL1
            go_wp2
            go_roundw
            case rel => exact ⟨j + 1, M', by omega, by go_num, by rw [HK.out.1]; exact HC3.out, by rw [HK.out.2]; exact HFR3.out, HGW3.out, HKEY3.out, HSZ3.out⟩
            case measure => simp [intOf]; omega
        | false =>
          by_cases h10 : 10 ≤ now - att
          · by_cases h3 : 3 ≤ trs
            · have HK := hid (ticked_drop s1 now j hjm HSJ.out HC3.out.ok.rise (.inr ⟨rfl, h10, h3⟩))
              have hl : 0 ≤ (s1.ticked now j).lost ∧ (s1.ticked now j).lost ≤ 4611686018427387904 + 32 := by
                have h1 := HTLO.out
                have h2 := HL1.out
                have h3 := H1.out.ok.few
                have h4 : (s1.m.take j).length ≤ 8 := by simp; omega
                show 0 ≤ s1.lost + (tickL now (s1.m.take j)).2.2 ∧ s1.lost + (tickL now (s1.m.take j)).2.2 ≤ _
                omega
              have hn2 : n2 ≤ 4 := by have h1 := HEN.out.2.2.2.2.2.2.1; have h2 := HN2.out; omega
              generalize s1.ticked now j = sj at *
              clear HSJ HTLO HEN HL1
              go_wp2_with fail
              have g4 := HC3.out.cells.2.2.2.2
              have gf := frozen_of_row w3 g 4 _ _ HC3.out.blk
              refine wp_region_still_tail 10 (by kernel_rfl) (by kernel_rfl) ?_
              simp only [List.take_succ_cons, List.take_zero, List.drop_succ_cons, List.drop_zero]
              change wpStill _ _ w3.drew _ _ _
              repeat still_step
              refine wpStill_nil ?_
              try rw [show ({ heap := w3.heap, tape := w3.tape, drawn := w3.drawn + 1, os := w3.os, output := w3.output } : World) = w3.drew from rfl]
              have hbd : Below w3.heap.size w3 w3.drew := (Below.refl _ _).drew
              have HC4 := hid (HC3.out.below hbd)
              have HFR4 := hid (HFR3.out.below hbd)
              have HGW4 := hid (HGW3.out.trans (Grown2.of_below g b hbd))
              have HKEY4 := hid (show Own w3.drew w1.heap.size 28 .u32 (.slice (some ⟨q, 0, none⟩) n cc) (keysOf M) from HKEY3.out.below hbd)
              have HSZ4 := hid (show w2.heap.size ≤ w3.drew.heap.size from HSZ3.out)
              have g5 : w3.drew.cell? ⟨g, 4, none⟩ = some (.int .i64 sj.lost) := g4
              have g3 : w3.drew.cell? ⟨g, 3, none⟩ = some (.map (some b)) := HC3.out.cells.2.2.2.1
              have g6 : w3.drew.frozen? ⟨g, 4, none⟩ = false := gf
              clear hbd g4 gf e0 e2 e3 e4 HC3 HFR3 HGW3 HKEY3 HSZ3 HW HLT3
              generalize w3.drew = w4 at *
              go_wp2_with (with_reducible refine hold_op (o := ⟨none, .call _, _, _, _, _⟩) ?_)
              have hgs := grown_set w4 g 4 (.int .i64 (sj.lost + (n2 : Int)))
              have HC5 := hid (HC4.out.gone (n2 : Int))
              have HFR5 := hid (HFR4.out.kept hgs (by have := H1.out.lt; have := HB1.out.size; omega))
              have HGW5 := hid (HGW4.out.trans (Grown2.of_left b hgs))
              have HKEY5 := hid (show Own _ w1.heap.size 28 .u32 (.slice (some ⟨q, 0, none⟩) n cc) (keysOf M) from HKEY4.out.kept hgs (.inr (fun e => by simp only [Value.ownBlock, Option.some.injEq] at e; have := (HKEY4.out.lt q rfl).1; have := H1.out.lt; omega)))
              have HSV5 := hid (Nat.le_trans HSZ4.out hgs.size)
              clear hgs g3 g5 g6
              generalize w4.setCell ⟨g, 4, none⟩ (.int .i64 (sj.lost + (n2 : Int))) = w5 at *
              refine hid ?_
              refine BigFrame.wpList_want rfl fun K hK => wp_mdel _ _ 70 28 78 rfl Try.underlying28 Try.underlying70 b M' HC5.out.map rfl kj rfl HKR.out (fun w6 hM6 hg6 => hK _ _ ?_)
              have HC6 := hid (HC5.out.del hM6 hg6)
              have HFR6 := hid (HFR5.out.kept hg6 (by have := H1.out.map.lt; have := HB1.out.size; omega))
              have HGW6 := hid (HGW5.out.trans (Grown2.of_right g hg6))
              have HKEY6 := hid (show Own w6 w1.heap.size 28 .u32 (.slice (some ⟨q, 0, none⟩) n cc) (keysOf M) from HKEY5.out.kept hg6 (.inr (fun e => by simp only [Value.ownBlock, Option.some.injEq] at e; have := (HKEY5.out.lt q rfl).1; have := H1.out.map.lt; omega)))
              have HSZ6 := hid (Nat.le_trans HSV5.out hg6.size)
              clear hM6 hg6 HC4 HC5 HFR4 HFR5 HGW4 HGW5 HKEY4 HKEY5 HSZ4 HSV5
              dsimp only [Act.put]
              go_wp2
              go_roundw
              case rel => exact ⟨j + 1, _, by omega, by go_num, by rw [HK.out.1, ← HN2.out]; exact HC6.out, by rw [HK.out.2]; exact HFR6.out, HGW6.out, HKEY6.out, HSZ6.out⟩
              case measure => simp [intOf]; omega
            · have HK := hid (ticked_ask s1 now j hjm HSJ.out HC3.out.ok.rise (by simp; omega) ⟨rfl, h10⟩)
              have HMI : Hid ((s1.ticked now j).mac = s1.mac ∧ (s1.ticked now j).ip = s1.ip) := hid ⟨rfl, rfl⟩
              have HAL := hid (asked_len s1 now j H1.out.ok.few)
              have hmj : (kj, (⟨false, mc, att, trs, L⟩ : En)) ∈ (s1.ticked now j).m := by rw [ticked_mid s1 now j hjm, HSJ.out]; simp
              have HMJ := hid hmj
              generalize s1.ticked now j = sj at *
              generalize hfj : s1.asked now j = fj at *
              clear HSJ HTLO HL1 hmj
              have q2 := frozen_of_row w3 wr.heap.size 2 _ _ HW.out
              have hw5 := heap_setCell_same w3 wr.heap.size 2 _ _ (.int .i64 now) HW.out
              have q3 := frozen_of_row _ wr.heap.size 3 _ _ hw5
              have HWV := hid hw5
              have ht3 : trs < 3 := by omega
              clear hw5
              go_wp2_with fail
              have hgs := grown_trans (grown_set w3 wr.heap.size 2 (.int .i64 now)) (grown_set (w3.setCell ⟨wr.heap.size, 2, none⟩ (.int .i64 now)) wr.heap.size 3 (.int .i64 (trs + 1)))
              have hrow : ((w3.setCell ⟨wr.heap.size, 2, none⟩ (.int .i64 now)).setCell ⟨wr.heap.size, 3, none⟩ (.int .i64 (trs + 1))).heap[wr.heap.size]? = some (.cells (enC ⟨false, mc, now, trs + 1, L⟩ A2 n2 c2) 78 (0, 0)) := heap_setCell_same _ wr.heap.size 3 _ _ (.int .i64 (trs + 1)) HWV.out
              generalize (w3.setCell ⟨wr.heap.size, 2, none⟩ (.int .i64 now)).setCell ⟨wr.heap.size, 3, none⟩ (.int .i64 (trs + 1)) = ws at *
              have hsn : ¬ S wr.heap.size := fun hq => by have := H1.out.sl _ hq; have := HSZ.out; have := HB1.out.size; omega
              have hlg : ∀ q, q < w2.heap.size → some q ≠ some wr.heap.size := fun q hq e => by injection e with e; have := HSZ.out; omega
              have hgl : g < w2.heap.size := by have := H1.out.lt; have := HB1.out.size; omega
              have hbl : b < w2.heap.size := by have := H1.out.map.lt; have := HB1.out.size; omega
              have hql : q < w2.heap.size := (HO1.out.lt q rfl).2
              have hSL : ∀ x, S x → x < w2.heap.size := fun x hx => by have := H1.out.sl x hx; have := HB1.out.size; omega
              have hcs : CSt S ws g b M' sj := HC3.out.agree (Agree.of_grown hgs HC3.out.sl hsn) (hgs.block g HC3.out.lt (hlg g hgl)) (hgs.block b HC3.out.map.lt (hlg b hbl))
              have HSL := hid hSL
              have HGL := hid hgl; have HBL := hid hbl; have HQL := hid hql
              have HCS7 := hid hcs
              have HWT7 := hid ((HWT.out.agree (Agree.of_below HBW3.out (fun x hx => by have := hSL x hx; have := HSZ.out; omega))).agree (Agree.of_grown hgs HC3.out.sl hsn))
              have HGW7 := hid (HGW3.out.row hgs (by have := HSZ.out; have := HB1.out.size; have := HG1.out.size; omega))
              have HFR7 := hid (HFR3.out.keptT hgs HW.out (by decide) (by decide))
              have HKEY7 := hid (show Own ws w1.heap.size 28 .u32 (.slice (some ⟨q, 0, none⟩) n cc) (keysOf M) from HKEY3.out.kept hgs (.inr (hlg q hql)))
              have HSZ7 := hid (Nat.le_trans HSZ3.out hgs.size)
              have HROW := hid hrow
              clear hsn hlg hgl hbl hql hSL hcs hgs hrow q2 q3 HC3 HFR3 HGW3 HKEY3 HSZ3 HW HLT3 e0 e2 e3 e4 HWV HBW3
              have k1 : ws.drew.heap[wr.heap.size]? = _ := HROW.out
              have g3 : ws.drew.cell? ⟨g, 3, none⟩ = some (.map (some b)) := HCS7.out.cells.2.2.2.1
              have j0 : ws.drew.cell? ⟨wr.heap.size, 0, none⟩ = some (.bool false) := cellOf k1 rfl
              have j1 : ws.drew.cell? ⟨wr.heap.size, 1, none⟩ = some (.int .u64 mc) := cellOf k1 rfl
              have j2 : ws.drew.cell? ⟨wr.heap.size, 2, none⟩ = some (.int .i64 now) := cellOf k1 rfl
              have j3 : ws.drew.cell? ⟨wr.heap.size, 3, none⟩ = some (.int .i64 (trs + 1)) := cellOf k1 rfl
              have j4 : ws.drew.cell? ⟨wr.heap.size, 4, none⟩ = some (.slice A2 n2 c2) := cellOf k1 rfl
              clear k1
              refine wp_region_still_tail 6 (by kernel_rfl) (by kernel_rfl) ?_
              simp only [List.take_succ_cons, List.take_zero, List.drop_succ_cons, List.drop_zero]
              change wpStill _ _ ws.drew _ _ _
              repeat still_step
              refine wpStill_nil ?_
              try rw [show ({ heap := ws.heap, tape := ws.tape, drawn := ws.drawn + 1, os := ws.os, output := ws.output } : World) = ws.drew from rfl]
              clear g3 j0 j1 j2 j3 j4
              have hbd : Below ws.heap.size ws ws.drew := (Below.refl _ _).drew
              have HC8 := hid (HCS7.out.below hbd)
              have HFR8 := hid (HFR7.out.below hbd)
              have HGW8 := hid (HGW7.out.trans (Grown2.of_below g b hbd))
              have HKEY8 := hid (show Own ws.drew w1.heap.size 28 .u32 (.slice (some ⟨q, 0, none⟩) n cc) (keysOf M) from HKEY7.out.below hbd)
              have HSZ8 := hid (show w2.heap.size ≤ ws.drew.heap.size from HSZ7.out)
              have HWT8 := hid (HWT7.out.agree (Agree.of_below hbd HCS7.out.sl))
              clear hbd
              refine hid ?_
              refine BigFrame.wpList_want rfl fun K hK => wp_mput _ _ _ 70 28 78 rfl Try.underlying28 Try.underlying70 b M' HC8.out.map (by have := HC8.out.ent.len; have := HC8.out.ok.few; unfold maxLen; omega) rfl kj rfl HKR.out _ rfl (fun w6 hM6 hg6 => hK _ _ ?_)
              have hok : ({ sj with m := putK kj ⟨false, mc, now, trs + 1, L⟩ sj.m } : Ar).Ok := by
                have h1 := HEN.out
                have h2 := HTL.out
                have h4 := HC8.out.ok.last
                refine HC8.out.ok.put HKR.out ⟨h1.1, h1.2.1, (by show (0 : Int) ≤ now; omega), (by show now ≤ sj.last; omega), (by show (0 : Int) ≤ trs + 1; omega), (by show trs + 1 ≤ 3; omega), h1.2.2.2.2.2.2.1, by simp, h1.2.2.2.2.2.2.2.2⟩ ?_
                rw [putK_len _ HC8.out.ok.rise, lookK_of_mem HC8.out.ok.rise HMJ.out]
                exact HC8.out.ok.few
              have HC9 := hid (HC8.out.put (e := ⟨false, mc, now, trs + 1, L⟩) hM6 hg6 ⟨A2, n2, c2, rfl, HWT8.out⟩ hok)
              have HFR9 := hid (HFR8.out.kept hg6 HBL.out)
              have HGW9 := hid (HGW8.out.trans (Grown2.of_right g hg6))
              have HKEY9 := hid (show Own w6 w1.heap.size 28 .u32 (.slice (some ⟨q, 0, none⟩) n cc) (keysOf M) from HKEY8.out.kept hg6 (.inr (fun e => by simp only [Value.ownBlock, Option.some.injEq] at e; have := (HKEY8.out.lt q rfl).1; have := H1.out.map.lt; omega)))
              have HSZ9 := hid (Nat.le_trans HSZ8.out hg6.size)
              have c0 := HC9.out.cells.1
              have c1' := HC9.out.cells.2.1
              clear hM6 hg6 hok HCS7 HFR7 HGW7 HKEY7 HSZ7 HWT7 HC8 HFR8 HGW8 HKEY8 HSZ8 HWT8 HROW HLK HEN HMJ hK K
              dsimp only [Act.put]
              go_wp2_with (go_at_call 32; refine hold ?_)
              refine hid ?_
              refine Calls.mono (question_calls g sj.mac sj.ip kj w6 HC9.out.lt c0 c1' (by have := HC9.out.ok.mac; simp only at this; omega) HC9.out.ok.ip HKR.out) ?_
              rintro eq wq ⟨vq, rfl, hoq, hbq⟩
              obtain ⟨Aq, nq, cq, rfl⟩ := hoq.form
              have HOQ := hid hoq; have HBQ := hid hbq
              obtain ⟨vs, hfo, hfs⟩ := HFR9.out
              have hfn := hfs.len
              obtain ⟨Ao, co, rfl, _⟩ := hfo.rd
              have HFO := hid (hfo.below hbq); have HFS := hid (hfs.below hbq); have HFN := hid hfn
              clear hoq hbq c0 c1' hfo hfs hfn
              go_wp2_with (at_builtin; refine hold ?_)
              have hbe : Below wq.heap.size wq (wq.alloc (.cells #[.slice Aq nq cq] 31)) := (Below.refl _ _).alloc (Nat.le_refl _) _
              have hle : OwnV (wq.alloc (.cells #[.slice Aq nq cq] 31)) 0 31 (.slice (some ⟨wq.heap.size, 0, none⟩) 1 1) [.slice Aq nq cq] := OwnV.lit wq 31 0 (Nat.zero_le _) [_] #[_] 1 rfl rfl (by simp [maxLen])
              obtain ⟨Al, cl, hlv, hx1, hrl, hx2⟩ := hle.rd
              injection hlv with hl1 hl2 hl3
              subst hl1
              refine hid ?_
              refine wpList_appV rfl _ _ 22 31 (.slice none 0 0) rfl 24 rfl elemF w2.heap.size (.slice Ao vs.length co) vs rfl (HFO.out.below hbe) (some ⟨wq.heap.size, 0, none⟩) 1 1 [.slice Aq nq cq] rfl rfl (by simp) hrl (by simp [Value.oneCell']) (by have := HFN.out; have := HAL.out; simp; omega) (by have := HFN.out; have := HAL.out; simp [maxLen]; omega) (by have := HBQ.out.size; have := HSZ9.out; simp; omega) ?_
              intro v5 wt ho5 hg5 hat5
              have hbx := below_then HBQ.out hbe
              have HFRT := hid (FrB.more (HFO.out.below hbe) (HFS.out.below hbe) ((HOQ.out.below hbe).base w2.heap.size HSZ9.out) ho5 hg5)
              have hlo : ∀ x, (Value.slice Ao vs.length co).ownBlock = some x → w2.heap.size ≤ x := fun x hx => (HFO.out.lt x hx).1
              have HCT := hid ((HC9.out.below hbx).row hg5 hlo HGL.out HBL.out HSL.out)
              have HGWT := hid ((HGW9.out.trans (Grown2.of_below g b hbx)).rowV hg5 (fun x hx => by have := hlo x hx; have := HB1.out.size; have := HG1.out.size; omega))
              have HKEYT := hid (show Own wt w1.heap.size 28 .u32 (.slice (some ⟨q, 0, none⟩) n cc) (keysOf M) from (HKEY9.out.below hbx).kept hg5 (.inr (fun e => by have := hlo q e.symm; have := HQL.out; omega)))
              have HSZT := hid (Nat.le_trans (Nat.le_trans HSZ9.out hbx.size) hg5.size)
              have hfe : etherB 281474976710655 sj.mac 2054 (arpB 1 sj.mac sj.ip 0 kj) = s1.arpF 1 281474976710655 0 kj := by
                unfold Ar.arpF
                rw [HMI.out.1, HMI.out.2]
              have HFE := hid hfe
              clear hbe hle hl2 hl3 hx1 hx2 hrl ho5 hg5 hat5 hbx hlo hfe HC9 HFR9 HGW9 HKEY9 HSZ9 HOQ HBQ HFO HFS HFN
              go_wp2
              go_roundw
              case rel => exact ⟨j + 1, _, by omega, by go_num, by rw [HK.out.1]; exact HCT.out, by rw [HK.out.2, ← HFE.out]; exact HFRT.out, HGWT.out, HKEYT.out, HSZT.out⟩
              case measure => simp [intOf]; omega
          · have HK := hid (ticked_keep s1 now j hjm HSJ.out (by simp; omega) (by simp; omega))
            clear HSJ HTLO HEN HL1
            go_wp2
            go_roundw
            case rel => exact ⟨j + 1, M', by omega, by go_num, by rw [HK.out.1]; exact HC3.out, by rw [HK.out.2]; exact HFR3.out, HGW3.out, HKEY3.out, HSZ3.out⟩
            case measure => simp [intOf]; omega
      · obtain rfl : j = n := by omega
        have hj1 : ¬ (j : Int) < (j : Int) := by omega
        have hlen : j = s1.m.length := by have := HML.out; omega
        have HS2 : Hid (s.tick now = (s1.ticked now j, s1.asked now j, 0)) := hid (by rw [HS.out, ← hlen])
        have HCS := hid hcs; have HFR := hid hfr; have HGW := hid hgw
        clear hcs hfr hgw hkey hlen
        go_wp2
        go_ret2
        rw [HS2.out]
        exact ⟨_, S, M', rfl, HCS.out, fun q hq => .inl hq, HFR.out.frS (fun q hq => ⟨by have := HB1.out.size; have := HG1.out.size; omega, fun h => by have := H1.out.sl q h; have := HB1.out.size; omega⟩), HGW.out⟩
  · obtain rfl := hbad hw
    have HX := hid (show s.tick now = (s, [], s.wrong now) by unfold Ar.tick; rw [if_pos hw])
    clear hbad hgood HB
    go_wp2
    go_ret2
    exact Done.bad HX.out H.out (Grown2.refl _ _ _)
end Go.Proofs.Ytebfoigbiekeiaa
