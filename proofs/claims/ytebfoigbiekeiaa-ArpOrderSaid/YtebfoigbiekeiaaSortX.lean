/-
  slices.Sorted(maps.Keys(m)) at words of 32 bits; a cache's sorted addresses.
-/
import Derived.Test.YtebfoigbiekeiaaSortW
set_option linter.unusedVariables false
set_option linter.unusedSimpArgs false
namespace Go.Proofs.Ytebfoigbiekeiaa
open Go Go.RowKit

theorem rise_eq : ∀ {xs ys : List Int}, xs.Perm ys → Rise xs → Rise ys → xs = ys
  | [], ys, h, _, _ => (List.nil_perm.1 h).symm
  | x :: xs, [], h, _, _ => absurd h.length_eq (by simp)
  | x :: xs, y :: ys, h, hx, hy => by
    obtain ⟨hx1, hx2⟩ := List.pairwise_cons.1 hx
    obtain ⟨hy1, hy2⟩ := List.pairwise_cons.1 hy
    have h1 : x = y := by
      have a : x ∈ y :: ys := h.subset (List.mem_cons_self ..)
      have b : y ∈ x :: xs := h.symm.subset (List.mem_cons_self ..)
      rcases List.mem_cons.1 a with a | a
      · exact a
      · rcases List.mem_cons.1 b with b | b
        · exact b.symm
        · have := hy1 x a; have := hx1 y b; omega
    subst h1
    rw [rise_eq (h.cons_inv) hx2 hy2]
theorem keysOf_rise {M : List (Int × Value)} (h : Rising M) : Rise (keysOf M) := by
  unfold keysOf Rise
  rw [List.pairwise_map]
  exact h.imp fun hlt => by omega
theorem mkeys_calls (b : Nat) (w : World) : Calls Try.prog 46 #[.map (some b)] w fun e w' => e = .returned (.func (.func 60) #[] #[.pointer (some ⟨w.heap.size, 0, none⟩)]) ∧ w' = w.alloc (.cells #[.map (some b)] 70) := by
  go_enter Try.func46, Try.ntmps46
  go_wp2
  go_ret
  exact ⟨rfl, rfl⟩
theorem seqU_calls (Bm off b : Nat) (M : List (Int × Value)) (hMl : M.length ≤ 1000) (w : World) (hBm : Bm < w.heap.size) (hm : w.cell? ⟨Bm, off, none⟩ = some (.map (some b))) (hM : MapAt w Try.prog 28 b M) :
    Calls Try.prog 67 #[.slice none 0 0, .func (.func 60) #[] #[.pointer (some ⟨Bm, off, none⟩)]] w fun e w' => Below w.heap.size w w' ∧ ∃ (v : Value) (ss : List Int), e = .returned v ∧ ss.Perm (keysOf M) ∧ w'.ownsRow w.heap.size 28 1 v ss.length (ss.map encU) :=
  (callsIn_wide (n := 3)).1 (seqU_walk 3 (by omega) Bm off b M hMl w hBm hm hM)
theorem collectU_calls (Bm off b : Nat) (M : List (Int × Value)) (hMl : M.length ≤ 1000) (w : World) (hBm : Bm < w.heap.size) (hm : w.cell? ⟨Bm, off, none⟩ = some (.map (some b))) (hM : MapAt w Try.prog 28 b M) :
    Calls Try.prog 58 #[.func (.func 60) #[] #[.pointer (some ⟨Bm, off, none⟩)]] w fun e w' => Below w.heap.size w w' ∧ ∃ (v : Value) (ss : List Int), e = .returned v ∧ ss.Perm (keysOf M) ∧ w'.ownsRow w.heap.size 28 1 v ss.length (ss.map encU) := by
  have HC := hid (seqU_calls Bm off b M hMl w hBm hm hM)
  clear hBm hm hM
  go_enter Try.func58, Try.ntmps58
  go_wp2_with (go_at_call 67; refine hold ?_)
  refine hid ?_
  refine Calls.mono HC.out ?_
  rintro e w1 ⟨hb, v, ss, rfl, hp, ho⟩
  have HB := hid hb; have HP := hid hp; have HO := hid ho
  clear hb hp ho
  go_wp2
  go_ret
  exact ⟨HB.out, v, ss, rfl, HP.out, HO.out⟩
set_option maxHeartbeats 1600000 in
theorem sortedU_calls (Bm off b : Nat) (M : List (Int × Value)) (hMl : M.length ≤ 12) (w : World) (hBm : Bm < w.heap.size) (hm : w.cell? ⟨Bm, off, none⟩ = some (.map (some b))) (hM : MapAt w Try.prog 28 b M) :
    Calls Try.prog 45 #[.func (.func 60) #[] #[.pointer (some ⟨Bm, off, none⟩)]] w fun e w' => Below w.heap.size w w' ∧ ∃ v, e = .returned v ∧ Own w' w.heap.size 28 .u32 v (keysOf M) := by
  have HC := hid (collectU_calls Bm off b M (by omega) w hBm hm hM)
  have HKR := hid (keysOf_rise hM.2.1)
  have HKL : Hid ((keysOf M).length = M.length) := by show _ = _; simp [keysOf]
  clear hBm hm hM
  go_enter Try.func45, Try.ntmps45
  go_wp2_with (go_at_call 58; refine hold ?_)
  refine hid ?_
  refine Calls.mono HC.out ?_
  rintro e w1 ⟨hb, v, ss, rfl, hp, ho⟩
  have hlen : ss.length ≤ 12 := by rw [hp.length_eq, HKL.out]; exact hMl
  have ho' : Own w1 w.heap.size 28 .u32 v ss := ho
  obtain ⟨A, c, rfl, _⟩ := ho'.rd (by omega)
  have HB := hid hb; have HP := hid hp; have HO := hid ho'
  clear hb hp ho ho'
  go_wp2_with (go_at_call 59; refine hold ?_)
  refine hid ?_
  refine Calls.mono (sort_calls w.heap.size A ss.length c ss rfl hlen w1 HO.out) ?_
  rintro e w2 ⟨⟨v', rfl⟩, zs, h2, h3, h4, h5⟩
  have hz : zs = keysOf M := rise_eq (h2.trans HP.out) h3 HKR.out
  subst hz
  have hb2 : Below w.heap.size w w2 := HB.out.grown h5 HB.out.size (fun q hq => (World.ownsRow.lt HO.out q hq).1)
  have HZ := hid h4; have HB2 := hid hb2
  clear h2 h3 h4 h5 hb2 HKR
  go_wp2
  go_ret
  exact ⟨HB2.out, _, rfl, HZ.out⟩
/-- The addresses of a cache's neighbours, rising. -/
theorem csorted_calls (g b : Nat) (M : List (Int × Value)) (hMl : M.length ≤ 12) (w : World) (hm : w.cell? ⟨g, 3, none⟩ = some (.map (some b))) (hM : MapAt w Try.prog 28 b M) :
    Calls Try.prog 34 #[.pointer (some ⟨g, 0, none⟩)] w fun e w' => Below w.heap.size w w' ∧ ∃ v, e = .returned v ∧ Own w' w.heap.size 28 .u32 v (keysOf M) := by
  have HM := hid hM
  clear hM
  go_enter Try.func34, Try.ntmps34
  go_wp2_with (go_at_call 46; refine hold ?_)
  refine hid ?_
  refine Calls.mono (mkeys_calls b w) ?_
  rintro e w1 ⟨rfl, rfl⟩
  have hb : Below w.heap.size w (w.alloc (.cells #[.map (some b)] 70)) := (Below.refl _ _).alloc (Nat.le_refl _) _
  have hc : (w.alloc (.cells #[.map (some b)] 70)).cell? ⟨w.heap.size, 0, none⟩ = some (.map (some b)) := by
    rw [cell_of_row _ _ 0 _ _ _ (heap_alloc_new w _)]; rfl
  have hlt : w.heap.size < (w.alloc (.cells #[.map (some b)] 70)).heap.size := by simp
  have hk := HM.out.keep (hb.block b HM.out.lt)
  have HB := hid hb; have HC := hid hc; have HK := hid hk; have HLT := hid hlt
  clear hb hc hk hlt hm
  generalize w.alloc (.cells #[.map (some b)] 70) = w1 at *
  go_wp2_with (go_at_call 45; refine hold ?_)
  refine hid ?_
  refine Calls.mono (sortedU_calls w.heap.size 0 b M hMl w1 HLT.out HC.out HK.out) ?_
  rintro e w2 ⟨hb2, v, rfl, ho⟩
  have HB2 := hid (below_then HB.out hb2); have HO := hid ho; have HS := hid HB.out.size
  clear hb2 ho
  go_wp2
  go_ret
  exact ⟨HB2.out, v, rfl, ⟨HO.out.1, HO.out.2.imp id fun ⟨g', cap, cur, h1, h2, h3⟩ => ⟨g', cap, cur, h1, Nat.le_trans HS.out h2, h3⟩⟩⟩
end Go.Proofs.Ytebfoigbiekeiaa
