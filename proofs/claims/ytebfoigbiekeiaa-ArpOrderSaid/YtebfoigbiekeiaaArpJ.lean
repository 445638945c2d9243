/-
  LAYER 9, WALKS: Table.
-/
import Derived.Test.YtebfoigbiekeiaaArpI
import Derived.Test.YtebfoigbiekeiaaAppR
set_option linter.unusedVariables false
set_option linter.unusedSimpArgs false
namespace Go.Proofs.Ytebfoigbiekeiaa
open Go Go.RowKit

/-- The cells of a table. -/
def neiC (p : Int × En) : Array Value := #[.int .u32 p.1, .int .u64 p.2.mac, .bool p.2.known, .int .i64 p.2.wait.length]
def tabC (m : List (Int × En)) : List Value := m.flatMap fun p => (neiC p).toList
theorem tabC_len : ∀ m, (tabC m).length = m.length * 4
  | [] => rfl
  | p :: m => by
    have := tabC_len m
    simp only [tabC, List.flatMap_cons, List.length_append, List.length_cons] at this ⊢
    rw [this]
    show 4 + _ = _
    omega
theorem tabC_snoc (m : List (Int × En)) (p : Int × En) : tabC (m ++ [p]) = tabC m ++ (neiC p).toList := by simp [tabC]
theorem tabC_at : ∀ (m : List (Int × En)) (i : Nat) (hi : i < m.length), (tabC m)[4 * i]? = some (.int .u32 m[i].1) ∧ (tabC m)[4 * i + 1]? = some (.int .u64 m[i].2.mac) ∧ (tabC m)[4 * i + 2]? = some (.bool m[i].2.known) ∧ (tabC m)[4 * i + 3]? = some (.int .i64 m[i].2.wait.length)
  | p :: m, 0, _ => ⟨rfl, rfl, rfl, rfl⟩
  | p :: m, i + 1, hi => by
    have h := tabC_at m i (by simpa using hi)
    have e : ∀ k, (tabC (p :: m))[4 * (i + 1) + k]? = (tabC m)[4 * i + k]? := fun k => by
      have : 4 * (i + 1) + k = 4 + (4 * i + k) := by omega
      rw [this]
      show ((neiC p).toList ++ tabC m)[4 + (4 * i + k)]? = _
      rw [List.getElem?_append_right (by simp [neiC])]
      congr 1
      simp [neiC]
    have e0 := e 0
    simp only [Nat.add_zero] at e0
    rw [e0, e 1, e 2, e 3]
    exact h
theorem elemN : ElemR Try.prog 48 51 (.agg #[.int .u32 0, .int .u64 0, .bool false, .int .i64 0]) 4 32 := ElemR.mk' Try.underlying48 (by kernel_rfl)
set_option maxHeartbeats 12800000 in
set_option maxRecDepth 100000 in
theorem table_calls (S : Nat → Prop) (g b : Nat) (M : List (Int × Value)) (s : Ar) (w : World) (h : CSt S w g b M s) :
    Calls Try.prog 17 #[.pointer (some ⟨g, 0, none⟩)] w fun e w' => ∃ v, e = .returned v ∧ OwnR w' w.heap.size 51 4 v s.m.length (tabC s.m) ∧ Below w.heap.size w w' := by
  have H1 := hid h
  have c3 := h.cells.2.2.2.1
  have HML := hid h.ent.len
  have hn12 : M.length ≤ 12 := by have := h.ent.len; have := h.ok.few; omega
  clear h
  go_enter Try.func17, Try.ntmps17
  go_wp2_with (go_at_call 34; refine hold ?_)
  refine hid ?_
  refine Calls.mono (csorted_calls g b M hn12 w c3 H1.out.map) ?_
  rintro e w2 ⟨hb1, v, rfl, ho⟩
  have hkl : (keysOf M).length = M.length := by simp [keysOf]
  obtain ⟨A1, cc, rfl, _⟩ := ho.rd (by omega)
  have HB1 := hid hb1; have HO1 := hid ho; have HKL := hid hkl
  rw [hkl] at HO1 ⊢
  obtain ⟨n, hnn⟩ : ∃ n, n = M.length := ⟨_, rfl⟩
  rw [← hnn] at HO1 HML HKL hn12 ⊢
  clear hb1 ho hkl c3 hnn
  go_wp2_with fail
  go_loopw [3, 12] (fun out i w' => ∃ (j : Nat), j ≤ n ∧ i = .int .i64 j ∧ Below w2.heap.size w2 w' ∧ OwnR w' w2.heap.size 51 4 out j (tabC (s.m.take j))) (fun _ i _ => n - (intOf i).toNat)
  case atStart => exact ⟨0, by omega, rfl, Below.refl _ _, OwnR.nil _ _ _ _⟩
  case round =>
    obtain ⟨j, hj, rfl, hbl, hot⟩ := hrel
    have hj0 : (0 : Int) ≤ (j : Int) := by omega
    by_cases hlt : j < n
    · have hj1 : (j : Int) < (n : Int) := by omega
      have hjm : j < s.m.length := by have := HML.out; omega
      obtain ⟨kj, ej, hsj⟩ : ∃ k e, s.m[j]'hjm = (k, e) := ⟨_, _, rfl⟩
      have hmem : (kj, ej) ∈ s.m := by rw [← hsj]; exact List.getElem_mem hjm
      have hkr := H1.out.ok.key _ hmem
      have hkj : (keysOf M).getD j 0 = kj := by
        have h1 : keysOf M = s.m.map (·.1) := H1.out.ent.keys
        rw [h1]
        simp [List.getD_eq_getElem?_getD, hjm, hsj]
      have HTK : Hid (tabC (s.m.take (j + 1)) = tabC (s.m.take j) ++ (neiC (kj, ej)).toList) := hid (by rw [List.take_succ_eq_append_getElem hjm, tabC_snoc, hsj])
      have hcs := (H1.out.below HB1.out).below hbl
      have hkey := (HO1.out.below hbl)
      obtain ⟨v, hv, hen⟩ : ∃ v, lookK kj M = some v ∧ EnS S wr v ej := by
        rcases hcs.ent.look (x := kj) with ⟨_, h2⟩ | ⟨v, e, h2, h3, h4⟩
        · rw [lookK_of_mem hcs.ok.rise hmem] at h2; cases h2
        · rw [lookK_of_mem hcs.ok.rise hmem] at h3; injection h3 with h3; subst h3; exact ⟨v, h2, h4⟩
      obtain ⟨A2, n2, c2, rfl, hwt⟩ := hen
      obtain ⟨A4, c4, e4, _, hR4, hz4⟩ := hkey.rd (by have := HKL.out; omega)
      obtain ⟨q, oq, hq, hql⟩ := hR4.form j (by have := HKL.out; omega)
      injection e4 with e5 e6 e7
      subst e5
      subst hq
      obtain rfl : oq = 0 := (hz4 q oq rfl).2
      have cx := hkey.cell j (by have := HKL.out; omega)
      rw [hkj] at cx
      have c3 := hcs.cells.2.2.2.1
      have HLK := hid hv; have HKR := hid hkr
      have HEN := hid (hcs.ok.en _ hmem)
      have HN2 := hid hwt.len
      have HCS := hid hcs; have HBL := hid hbl; have HOT := hid hot
      obtain ⟨knw, mc, att, trs, L⟩ := ej
      simp only at HLK HEN HN2 ⊢
      clear hsj hmem hkr hkj hv hwt e6 e7 hR4 hz4 hql hcs hkey hot hbl
      go_wp2_with (with_reducible refine hold_op (o := ⟨some 21, _, _, _, _, _⟩) ?_)
      refine hid ?_
      refine BigFrame.wpList_want rfl fun K hK => wp_mlook1 _ _ 70 28 78 rfl Try.underlying28 Try.underlying70 (zeroEn wr) b M HCS.out.map rfl kj rfl HKR.out (hK _ _ ?_)
      rw [HLK.out]
      simp only [Option.getD_some, Act.put, List.setIfInBounds_toArray, List.set_cons_succ, List.set_cons_zero]
      go_wp2_with (with_reducible refine hold_op (o := ⟨none, _, _, _, _, _⟩) ?_)
      have hO1 : (wr.alloc (.cells #[.bool false, .int .u64 0, .int .i64 0, .int .i64 0, .slice none 0 0] 78)).heap[wr.heap.size]? = some (.cells #[.bool false, .int .u64 0, .int .i64 0, .int .i64 0, .slice none 0 0] 78 (0, 0)) := heap_alloc_new _ _
      have hP1 : Below wr.heap.size wr (wr.alloc (.cells #[.bool false, .int .u64 0, .int .i64 0, .int .i64 0, .slice none 0 0] 78)) := (Below.refl _ _).alloc (Nat.le_refl _) _
      generalize wr.alloc (.cells #[.bool false, .int .u64 0, .int .i64 0, .int .i64 0, .slice none 0 0] 78) = wb at *
      refine hid ?_
      refine wpList_store_row rfl 78 (.tmp 6) (.tmp 21) rfl wr.heap.size (enC ⟨knw, mc, att, trs, L⟩ A2 n2 c2) rfl rfl 78 _ hO1 (by kernel_rfl) rfl (by kernel_rfl) ?_
      have hW := setRow_heap wb wr.heap.size _ (enC ⟨knw, mc, att, trs, L⟩ A2 n2 c2) 78 _ hO1
      have hBW := below_setRow hP1 (Nat.le_refl _) (enC ⟨knw, mc, att, trs, L⟩ A2 n2 c2)
      generalize wb.setRow wr.heap.size (enC ⟨knw, mc, att, trs, L⟩ A2 n2 c2) = w3 at *
      have e0 : w3.cell? ⟨wr.heap.size, 0, none⟩ = some (.bool knw) := cellOf hW rfl
      have e1 : w3.cell? ⟨wr.heap.size, 1, none⟩ = some (.int .u64 mc) := cellOf hW rfl
      have e4 : w3.cell? ⟨wr.heap.size, 4, none⟩ = some (.slice A2 n2 c2) := cellOf hW rfl
      have HB3 := hid (below_then HBL.out hBW)
      have HOT3 := hid (HOT.out.below hBW)
      obtain ⟨Ao, co, rfl, _⟩ := HOT3.out.form
      clear hO1 hP1 hW hBW cx c3 HCS HOT HBL
      dsimp only [Act.put]
      go_wp2_with (at_builtin; refine hold ?_)
      have hN2 := HN2.out
      subst hN2
      have hq4 : (w3.alloc (.cells (neiC (kj, ⟨knw, mc, att, trs, L⟩)) 51)).heap[w3.heap.size]? = some (.cells (neiC (kj, ⟨knw, mc, att, trs, L⟩)) 51 (0, 0)) := heap_alloc_new _ _
      have hb4 : Below w3.heap.size w3 (w3.alloc (.cells (neiC (kj, ⟨knw, mc, att, trs, L⟩)) 51)) := (Below.refl _ _).alloc (Nat.le_refl _) _
      change Hid (wpList _ _ _ _ _ (w3.alloc (.cells (neiC (kj, ⟨knw, mc, att, trs, L⟩)) 51)))
      generalize w3.alloc (.cells (neiC (kj, ⟨knw, mc, att, trs, L⟩)) 51) = w4 at *
      refine hid ?_
      refine wpList_appR rfl _ _ 48 51 (.agg #[.int .u32 0, .int .u64 0, .bool false, .int .i64 0]) 4 rfl (by decide) 32 rfl elemN w2.heap.size (.slice Ao j co) j (tabC (s.m.take j)) rfl (HOT3.out.below hb4) w3.heap.size 1 1 (neiC (kj, ⟨knw, mc, att, trs, L⟩)) 51 (0, 0) rfl hq4 rfl (by kernel_rfl) (by omega) (by unfold maxLen; omega) (by have := HB3.out.size; have := hb4.size; omega) ?_
      intro v5 w5 ho5 hg5 hat5
      have HB5 := hid ((below_then HB3.out hb4).grown hg5 (by have := HB3.out.size; have := hb4.size; omega) (fun x hx => (HOT3.out.lt x hx).1))
      have HO5 := hid ho5
      clear hq4 hb4 ho5 hg5 hat5 e0 e1 e4 HB3 HOT3
      go_wp2
      go_roundw
      case rel => exact ⟨j + 1, by omega, by go_num, HB5.out, by rw [HTK.out]; exact HO5.out⟩
      case measure => simp [intOf]; omega
    · obtain rfl : j = n := by omega
      have hj1 : ¬ (j : Int) < (j : Int) := by omega
      have hlen : j = s.m.length := by have := HML.out; omega
      rw [hlen, List.take_length] at hot
      have HOT := hid hot; have HBL := hid (below_then HB1.out hbl)
      have HSZ := hid HB1.out.size
      clear hot hbl
      go_wp2
      go_ret
      exact ⟨_, rfl, HOT.out.base w.heap.size HSZ.out, HBL.out⟩
end Go.Proofs.Ytebfoigbiekeiaa
