/-
  LAYER 9, WALKS: ArpOrder's closure, that reads the bodies out of frames.
-/
import Derived.Test.YtebfoigbiekeiaaArpT
set_option linter.unusedVariables false
set_option linter.unusedSimpArgs false
namespace Go.Proofs.Ytebfoigbiekeiaa
open Go Go.RowKit

set_option maxHeartbeats 6400000 in
set_option maxRecDepth 100000 in
theorem take1_calls (W w : World) (g b gq : Nat) (s : Ar) (vs vg : Value) (sent got : List (List Int)) (h : Ord W w g b gq s vs vg sent got) (T : Nat → Prop) (A : Option Addr) (c n : Nat) (L : List (List Int)) (hn : L.length = n) (hF : FrS T w (.slice A n c) L) (hL : n ≤ 9) (h5 : ∀ x ∈ L, FrM 5 x) (hgl : got.length ≤ 400) :
    Calls Try.prog 11 #[.slice A n c, .pointer (some ⟨gq, 0, none⟩)] w fun e w' => e = .returned (.tuple #[]) ∧ ∃ vg', Ord W w' g b gq s vs vg' sent (got ++ ipB L) := by
  have HF := hid hF; have H5 := hid h5; have HN := hid hn; have H := hid h; have HGL := hid hgl
  clear hF h5 hn h hgl
  go_enter Try.func11, Try.ntmps11
  go_wp2_with fail
  go_loopw [3] (fun i w' => ∃ (j : Nat) (vg' : Value), j ≤ n ∧ i = .int .i64 j ∧ Ord W w' g b gq s vs vg' sent (got ++ ipB (L.take j)) ∧ FrS T w' (.slice A n c) L) (fun i _ => n - (intOf i).toNat)
  case atStart => exact ⟨0, vg, by omega, rfl, by simpa [ipB] using H.out, HF.out⟩
  case round =>
    obtain ⟨j, vg1, hj, rfl, hor, hfr⟩ := hrel
    have HO := hid hor; have HR := hid hfr
    have hj0 : (0 : Int) ≤ (j : Int) := by omega
    by_cases hlt : j < n
    · have hj1 : (j : Int) < (n : Int) := by omega
      have hjl : j < L.length := by have := HN.out; omega
      obtain ⟨us, hfo, _, hfs⟩ := hfr
      obtain ⟨A', c', hv, _, hrd, hz⟩ := hfo.rd
      injection hv with v1 v2 v3
      subst v1; subst v3
      obtain ⟨b1, o1, hA1, _, hc1⟩ := hrd.at_ j (by have := hfs.len; omega)
      obtain ⟨_, rfl⟩ := hz b1 o1 hA1
      subst hA1
      rw [Nat.zero_add] at hc1
      obtain ⟨vj, hvj, hos⟩ := hfs.at_ j hjl
      have hvj2 : us[j]'(by have := hfs.len; omega) = vj := by
        have h1 : us[j]? = some (us[j]'(by have := hfs.len; omega)) := by simp
        rw [h1] at hvj
        injection hvj
      rw [hvj2] at hc1
      have hfm := H5.out _ (List.getElem_mem hjl)
      have HIT := hid (ipB_take L j hjl)
      have HIL : Hid ((got ++ ipB (L.take j)).length ≤ 409) := hid (by
        have h1 := HGL.out
        have h2 : (ipB (L.take j)).length ≤ (L.take j).length := by
          unfold ipB
          rw [List.length_map]
          exact List.length_filter_le _ _
        have h3 : (L.take j).length ≤ L.length := by simp; omega
        have h4 := HN.out
        simp only [List.length_append]
        omega)
      obtain ⟨x, hx⟩ : ∃ x, x = L[j]'hjl := ⟨_, rfl⟩
      rw [← hx] at hfm hos HIT
      obtain ⟨g5, c5, rfl, hc5, hm5, _⟩ := hos.1.caps (by have := hfm.lo; omega)
      obtain ⟨n5, hn5⟩ : ∃ m, m = x.length := ⟨_, rfl⟩
      have HRD := hid ((hos.1).rd' (by have := hfm.hi; omega))
      rw [← hn5] at hc1 hc5
      have HFM := hid hfm; have HN5 := hid hn5
      have HET := hid (etake_calls (some ⟨g5, 0, none⟩) n5 c5 x hn5.symm (by have := hfm.lo; omega) (by have := hfm.hi; omega) (by rcases hfm.kind with h | h <;> omega) hfm.by_ wr HRD.out hc5 hm5)
      clear hor hfo hfs hrd hz hvj hvj2 hos hfm hx v2 hjl hn5 hc5 hm5 HRD
      go_wp2_with (go_at_call 12; refine hold ?_)
      refine hid ?_
      refine Calls.mono HET.out ?_
      rintro e w2 ⟨v, rfl, hov, hb2⟩
      obtain ⟨Av, nv, cv, rfl⟩ := hov.form
      obtain ⟨a0, ha0⟩ : ∃ a, a = numAt x 0 6 := ⟨_, rfl⟩
      obtain ⟨a2, ha2⟩ : ∃ a, a = numAt x 12 2 := ⟨_, rfl⟩
      rw [HFM.out.frm, ← ha0, ← ha2]
      have HA2 := hid ha2
      have hk2 : a2 = 2048 ∨ a2 = 2054 := by rw [ha2]; exact HFM.out.kind
      have HO2 := hid (HO.out.below hb2); have HR2 := hid (HR.out.below hb2); have HOV := hid hov
      clear ha0 ha2 hov hb2 HET hc1 HO HR
      go_wp2_with (with_reducible refine hold_op (o := ⟨none, _, _, _, _, _⟩) ?_)
      have hO : (w2.alloc (.cells #[.int .u64 0, .int .u64 0, .int .u16 0, .slice none 0 0] 33)).heap[w2.heap.size]? = some (.cells #[.int .u64 0, .int .u64 0, .int .u16 0, .slice none 0 0] 33 (0, 0)) := heap_alloc_new _ _
      have hP : Below w2.heap.size w2 (w2.alloc (.cells #[.int .u64 0, .int .u64 0, .int .u16 0, .slice none 0 0] 33)) := (Below.refl _ _).alloc (Nat.le_refl _) _
      generalize w2.alloc (.cells #[.int .u64 0, .int .u64 0, .int .u16 0, .slice none 0 0] 33) = w3 at *
      refine hid ?_
      refine wpList_store_row rfl 33 (.tmp 4) (.tmp 18) rfl w2.heap.size (ethC a0 5 a2 (.slice Av nv cv)) rfl rfl 33 _ hO (by kernel_rfl) rfl (by kernel_rfl) ?_
      have hW := setRow_heap w3 w2.heap.size _ (ethC a0 5 a2 (.slice Av nv cv)) 33 _ hO
      have hb4 := below_setRow hP (Nat.le_refl _) (ethC a0 5 a2 (.slice Av nv cv))
      generalize w3.setRow w2.heap.size (ethC a0 5 a2 (.slice Av nv cv)) = w4 at *
      have e2 : w4.cell? ⟨w2.heap.size, 2, none⟩ = some (.int .u16 a2) := cellOf hW rfl
      have e3 : w4.cell? ⟨w2.heap.size, 3, none⟩ = some (.slice Av nv cv) := cellOf hW rfl
      have HO4 := hid (HO2.out.below hb4); have HR4 := hid (HR2.out.below hb4); have HOV4 := hid (HOV.out.below hb4)
      clear hO hP hW hb4 HO2 HR2 HOV
      dsimp only [Act.put]
      rcases hk2 with h2 | h2
      · have hi : isB x = true := by unfold isB; rw [← HA2.out, h2]; rfl
        have HI := hid hi
        subst h2
        have hnv : (x.drop 14).length = nv := by
          have h1 := HOV4.out.len
          exact h1.symm
        have hxl : (x.drop 14).length ≤ 1500 := by have := HFM.out.hi; simp; omega
        have hrd := HOV4.out.rd' (by omega)
        have hcv := conv_str (P := Try.prog) Try.underlying31 Try.underlying5 Try.underlying9 nv cv hnv hrd
        obtain ⟨Ag, ng, cg, rfl⟩ := HO4.out.gts.form
        have c0 := HO4.out.cell.cell
        clear hi hrd
        go_wp2_with (at_builtin; refine hold ?_)
        have hbe : Below w4.heap.size w4 (w4.alloc (.cells #[sv (x.drop 14)] 9)) := (Below.refl _ _).alloc (Nat.le_refl _) _
        have hle : OwnV (w4.alloc (.cells #[sv (x.drop 14)] 9)) 0 9 (.slice (some ⟨w4.heap.size, 0, none⟩) 1 1) [sv (x.drop 14)] := OwnV.lit w4 9 0 (Nat.zero_le _) [_] #[_] 1 rfl rfl (by simp [maxLen])
        obtain ⟨Al, cl, hlv, hx1, hrl, hx2⟩ := hle.rd
        injection hlv with hl1 hl2 hl3
        subst hl1
        have HO5 := hid (HO4.out.below hbe); have HR5 := hid (HR4.out.below hbe)
        change Hid (wpList _ _ _ _ _ (w4.alloc (.cells #[sv (x.drop 14)] 9)))
        generalize w4.alloc (.cells #[sv (x.drop 14)] 9) = w5 at *
        refine hid ?_
        refine wpList_appV rfl _ _ 29 9 (.string ⟨#[]⟩) rfl 16 rfl elemS W.heap.size (.slice Ag ng cg) ((got ++ ipB (L.take j)).map sv) rfl HO5.out.gts (some ⟨w4.heap.size, 0, none⟩) 1 1 [sv (x.drop 14)] rfl rfl (by simp) hrl (by simp [sv, Value.oneCell']) (by have := HIL.out; rw [List.length_map]; omega) (by have := HIL.out; rw [List.length_map]; unfold maxLen; omega) HO5.out.kpt.bel.size ?_
        intro v6 w6 ho6 hg6 hat6
        obtain ⟨A6, n6, c6, rfl⟩ := ho6.form
        have HG6 := hid (HO5.out.get ho6 hg6 hat6)
        have HR6 := hid (HR5.out.keptR HO5.out.gts hg6)
        have hcq : Cell w6 gq 29 (.slice Ag ng cg) := HO5.out.cell.kept hg6 (fun e => by
          obtain ⟨cs, hc⟩ := row_typed HO5.out.gts e.symm
          have h1 := HO5.out.cell
          unfold Cell at h1
          rw [h1] at hc
          injection hc with hc
          injection hc with _ hc
          exact absurd hc (by decide))
        have HCQ := hid hcq
        have c7 := hcq.cell
        have f6 := hcq.free
        clear hbe hle hl2 hl3 hx1 hx2 hrl ho6 hg6 hat6 c0 hcv HO4 HR4 HOV4 HO5 HR5 hcq e2 e3
        go_wp2
        have HRS := hid (HR6.out.keptT (grown_set w6 gq 0 (.slice A6 n6 c6)) HCQ.out (by decide) (by decide))
        go_roundw
        case rel => exact ⟨j + 1, _, by omega, by go_num, by rw [HIT.out, if_pos HI.out, ← List.append_assoc]; exact HG6.out, HRS.out⟩
        case measure => simp [intOf]; omega
      · have hi : ¬ isB x = true := by unfold isB; rw [← HA2.out, h2]; decide
        have HI := hid hi
        subst h2
        clear hi
        go_wp2
        go_roundw
        case rel => exact ⟨j + 1, vg1, by omega, by go_num, by rw [HIT.out, if_neg HI.out, List.append_nil]; exact HO4.out, HR4.out⟩
        case measure => simp [intOf]; omega
    · obtain rfl : j = n := by omega
      have hj1 : ¬ (j : Int) < (j : Int) := by omega
      have htk : L.take j = L := List.take_of_length_le (by have := HN.out; omega)
      rw [htk] at HO
      clear htk hor hfr
      go_wp2
      refine bodyPost_end (results_none rfl _ _ _) rfl ⟨rfl, vg1, HO.out⟩
end Go.Proofs.Ytebfoigbiekeiaa
