/-
  LAYER 9, WALKS: the law's 'bodies'.
-/
import Derived.Test.YtebfoigbiekeiaaArpP
set_option linter.unusedVariables false
set_option linter.unusedSimpArgs false
namespace Go.Proofs.Ytebfoigbiekeiaa
open Go Go.RowKit

theorem Own.caps {w : World} {base : Nat} {e : TypeId} {k : IntKind} {v : Value} {xs : List Int} (h : Own w base e k v xs) (h0 : xs.length ≠ 0) : ∃ g c, v = .slice (some ⟨g, 0, none⟩) xs.length c ∧ xs.length ≤ c ∧ c ≤ 9223372036854775807 ∧ base ≤ g ∧ g < w.heap.size := by
  rcases h.2 with ⟨_, h1⟩ | ⟨g, cap, cur, rfl, hg, hh, h1, h2, _⟩
  · exact absurd h1 h0
  · exact ⟨g, cap, rfl, h1, by unfold maxLen at h2; omega, hg, lt_of_block hh⟩
theorem countP_take {p : List Int → Bool} (L : List (List Int)) (j : Nat) (hj : j < L.length) : (L.take (j + 1)).countP p = (L.take j).countP p + (if p L[j] = true then 1 else 0) := by
  rw [List.take_succ_eq_append_getElem hj, List.countP_append, List.countP_singleton]
theorem countP_le {p : List Int → Bool} (L : List (List Int)) (j : Nat) : (L.take j).countP p ≤ L.length :=
  Nat.le_trans (List.countP_le_length) (by simp; omega)
abbrev ethC (a0 a1 a2 : Int) (v : Value) : Array Value := #[.int .u64 a0, .int .u64 a1, .int .u16 a2, v]
set_option maxHeartbeats 6400000 in
set_option maxRecDepth 100000 in
theorem bodies_calls (T : Nat → Prop) (A : Option Addr) (c n : Nat) (L : List (List Int)) (hn : L.length = n) (w : World) (hF : FrS T w (.slice A n c) L) (hL : n ≤ 9) (h5 : ∀ x ∈ L, FrM 5 x) :
    Calls Try.prog 19 #[.slice A n c, .int .u64 5] w fun e w' => e = .returned (.tuple #[.int .i64 (L.countP isB), .bool true]) ∧ Below w.heap.size w w' := by
  have HF := hid hF; have H5 := hid h5; have HN := hid hn
  clear hF h5 hn
  go_enter Try.func19, Try.ntmps19
  go_wp2_with fail
  go_loopw [6, 7] (fun m i w' => ∃ j : Nat, j ≤ n ∧ i = .int .i64 j ∧ m = .int .i64 ((L.take j).countP isB) ∧ Below w.heap.size w w') (fun _ i _ => n - (intOf i).toNat)
  case atStart => exact ⟨0, by omega, rfl, rfl, Below.refl _ _⟩
  case round =>
    obtain ⟨j, hj, rfl, rfl, hb⟩ := hrel
    have HB := hid hb
    have hj0 : (0 : Int) ≤ (j : Int) := by omega
    by_cases hlt : j < n
    · have hj1 : (j : Int) < (n : Int) := by omega
      have hjl : j < L.length := by have := HN.out; omega
      obtain ⟨vs, hfo, _, hfs⟩ := HF.out.below hb
      obtain ⟨A', c', hv, _, hrd, hz⟩ := hfo.rd
      injection hv with v1 v2 v3
      subst v1; subst v3
      obtain ⟨b1, o1, hA1, _, hc1⟩ := hrd.at_ j (by have := hfs.len; omega)
      obtain ⟨_, rfl⟩ := hz b1 o1 hA1
      subst hA1
      rw [Nat.zero_add] at hc1
      obtain ⟨vj, hvj, hos⟩ := hfs.at_ j hjl
      have hvj2 : vs[j]'(by have := hfs.len; omega) = vj := by
        have h1 : vs[j]? = some (vs[j]'(by have := hfs.len; omega)) := by simp
        rw [h1] at hvj
        injection hvj
      rw [hvj2] at hc1
      have hfm := H5.out _ (List.getElem_mem hjl)
      have HCT := hid (countP_take (p := isB) L j hjl)
      have HCL := hid (countP_le (p := isB) L j)
      obtain ⟨x, hx⟩ : ∃ x, x = L[j]'hjl := ⟨_, rfl⟩
      rw [← hx] at hfm hos HCT
      obtain ⟨g5, c5, rfl, hc5, hm5, _⟩ := hos.1.caps (by have := hfm.lo; omega)
      obtain ⟨n5, hn5⟩ : ∃ m, m = x.length := ⟨_, rfl⟩
      have HRD := hid ((hos.1).rd' (by have := hfm.hi; omega))
      rw [← hn5] at hc1 hc5
      have HFM := hid hfm; have HN5 := hid hn5
      have HET := hid (etake_calls (some ⟨g5, 0, none⟩) n5 c5 x hn5.symm (by have := hfm.lo; omega) (by have := hfm.hi; omega) (by rcases hfm.kind with h | h <;> omega) hfm.by_ wr HRD.out hc5 hm5)
      clear hb hfo hfs hrd hz hvj hvj2 hos hfm hx v2 hjl hn5 hc5 hm5 HRD
      go_wp2_with (go_at_call 12; refine hold ?_)
      refine hid ?_
      refine Calls.mono HET.out ?_
      rintro e w2 ⟨v, rfl, hov, hb2⟩
      obtain ⟨Av, nv, cv, rfl⟩ := hov.form
      obtain ⟨a0, ha0⟩ : ∃ a, a = numAt x 0 6 := ⟨_, rfl⟩
      obtain ⟨a2, ha2⟩ : ∃ a, a = numAt x 12 2 := ⟨_, rfl⟩
      rw [HFM.out.frm, ← ha0, ← ha2]
      have HA2 := hid ha2
      have hk2 : a2 = 2048 ∨ a2 = 2054 := by rw [ha2]; exact HFM.out.kind
      have HB2 := hid (below_then HB.out hb2)
      clear ha0 ha2 hov hb2 HET hc1 HB
      go_wp2_with (with_reducible refine hold_op (o := ⟨none, _, _, _, _, _⟩) ?_)
      have hO : (w2.alloc (.cells #[.int .u64 0, .int .u64 0, .int .u16 0, .slice none 0 0] 33)).heap[w2.heap.size]? = some (.cells #[.int .u64 0, .int .u64 0, .int .u16 0, .slice none 0 0] 33 (0, 0)) := heap_alloc_new _ _
      have hP : Below w2.heap.size w2 (w2.alloc (.cells #[.int .u64 0, .int .u64 0, .int .u16 0, .slice none 0 0] 33)) := (Below.refl _ _).alloc (Nat.le_refl _) _
      generalize w2.alloc (.cells #[.int .u64 0, .int .u64 0, .int .u16 0, .slice none 0 0] 33) = w3 at *
      refine hid ?_
      refine wpList_store_row rfl 33 (.tmp 8) (.tmp 22) rfl w2.heap.size (ethC a0 5 a2 (.slice Av nv cv)) rfl rfl 33 _ hO (by kernel_rfl) rfl (by kernel_rfl) ?_
      have hW := setRow_heap w3 w2.heap.size _ (ethC a0 5 a2 (.slice Av nv cv)) 33 _ hO
      have HB4 := hid (below_then HB2.out (below_setRow hP (Nat.le_refl _) (ethC a0 5 a2 (.slice Av nv cv))))
      generalize w3.setRow w2.heap.size (ethC a0 5 a2 (.slice Av nv cv)) = w4 at *
      have e1 : w4.cell? ⟨w2.heap.size, 1, none⟩ = some (.int .u64 5) := cellOf hW rfl
      have e2 : w4.cell? ⟨w2.heap.size, 2, none⟩ = some (.int .u16 a2) := cellOf hW rfl
      have hcl := HCL.out
      rw [HN.out] at hcl
      obtain ⟨ct, hct⟩ : ∃ m, m = (L.take j).countP isB := ⟨_, rfl⟩
      rw [← hct] at hcl ⊢
      have HCT2 : Hid ((L.take (j + 1)).countP isB = ct + (if isB x = true then 1 else 0)) := hid (by rw [hct]; exact HCT.out)
      clear hO hP hW HB2 HCL HCT hct
      dsimp only [Act.put]
      rcases hk2 with h2 | h2
      · have hi : isB x = true := by unfold isB; rw [← HA2.out, h2]; rfl
        have HI := hid hi
        subst h2
        clear hi
        go_wp2
        go_roundw
        case rel => exact ⟨j + 1, by omega, by go_num, by rw [HCT2.out, if_pos HI.out]; go_num, HB4.out⟩
        case measure => simp [intOf]; omega
      · have hi : ¬ isB x = true := by unfold isB; rw [← HA2.out, h2]; decide
        have HI := hid hi
        subst h2
        clear hi
        go_wp2
        go_roundw
        case rel => exact ⟨j + 1, by omega, by go_num, by rw [HCT2.out, if_neg HI.out]; rfl, HB4.out⟩
        case measure => simp [intOf]; omega
    · obtain rfl : j = n := by omega
      have hj1 : ¬ (j : Int) < (j : Int) := by omega
      have htk : L.take j = L := List.take_of_length_le (by have := HN.out; omega)
      rw [htk]
      clear htk hb
      go_wp2
      go_ret2
      exact ⟨rfl, HB.out⟩
end Go.Proofs.Ytebfoigbiekeiaa
