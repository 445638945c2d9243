/-
  LAYER 8, WALKS: ether.card, lay.
-/
import Derived.Test.YtebfoigbiekeiaaSortX
import Derived.Test.YtebfoigbiekeiaaAppV
import Derived.Deep.MidRow
import Derived.Laws.CopyOwn
set_option linter.unusedVariables false
set_option linter.unusedSimpArgs false
namespace Go.Proofs.Ytebfoigbiekeiaa
open Go Go.RowKit

theorem card1_calls (m : Int) (h0 : 0 ≤ m) (h1 : m < 281474976710656) (w : World) : Calls Try.prog 65 #[.int .u64 m] w fun e w' => e = .returned (.bool false) ∧ w = w' := by
  have hd : m.fdiv 281474976710656 = 0 := by rw [Int.fdiv_eq_ediv_of_nonneg _ (by omega)]; omega
  have he : m / 281474976710656 = 0 := by omega
  go_enter Try.func65, Try.ntmps65
  go_wp2
  go_ret
  exact ⟨rfl, rfl⟩
/-- Addresses of cards. -/
def Cards (ms : List Int) : Prop := ∀ m ∈ ms, 0 ≤ m ∧ m < 281474976710656
set_option maxHeartbeats 1600000 in
theorem index_calls (g c n : Nat) (ms : List Int) (hn : ms.length = n) (w : World) (hR : Rd w .u64 (some ⟨g, 0, none⟩) ms) (hm : Cards ms) (hl : n ≤ 1000) :
    Calls Try.prog 72 #[.slice (some ⟨g, 0, none⟩) n c, .func (.func 65) #[] #[]] w fun e w' => e = .returned (.int .i64 (-1)) ∧ w = w' := by
  have HR := hid hR; have HM := hid hm; have HN := hid hn
  clear hR hm hn
  go_enter Try.func72, Try.ntmps72
  go_wp2_with fail
  go_loopw [8] (fun i w' => ∃ j : Nat, j ≤ n ∧ i = .int .i64 j ∧ w' = w) (fun i _ => n - (intOf i).toNat)
  case atStart => exact ⟨0, by omega, rfl, rfl⟩
  case round =>
    obtain ⟨j, hj, rfl, rfl⟩ := hrel
    have hj0 : (0 : Int) ≤ (j : Int) := by omega
    by_cases hlt : j < n
    · have hj1 : (j : Int) < (n : Int) := by omega
      have cx := HR.out.cell j (by rw [HN.out]; exact hlt)
      rw [Nat.zero_add] at cx
      have hc := HM.out (ms.getD j 0) (by
        have hjl : j < ms.length := by rw [HN.out]; exact hlt
        simp [List.getD_eq_getElem?_getD, hjl])
      generalize ms.getD j 0 = m at *
      have HC := hid hc
      clear hc
      go_wp2_with (go_at_call 65; refine hold ?_)
      refine hid ?_
      refine Calls.mono (card1_calls m HC.out.1 HC.out.2 _) ?_
      rintro e w2 ⟨rfl, rfl⟩
      go_wp2
      go_roundw
      case rel => exact ⟨j + 1, by omega, by go_num, trivial⟩
      case measure => simp [intOf]; omega
    · have hj1 : ¬ (j : Int) < (n : Int) := by omega
      go_wp2
      go_ret
      exact ⟨rfl, rfl⟩
theorem containsF_calls (g c n : Nat) (ms : List Int) (hn : ms.length = n) (w : World) (hR : Rd w .u64 (some ⟨g, 0, none⟩) ms) (hm : Cards ms) (hl : n ≤ 1000) :
    Calls Try.prog 64 #[.slice (some ⟨g, 0, none⟩) n c, .func (.func 65) #[] #[]] w fun e w' => e = .returned (.bool false) ∧ w = w' := by
  have HC := hid (index_calls g c n ms hn w hR hm hl)
  clear hR hm
  go_enter Try.func64, Try.ntmps64
  go_wp2_with (go_at_call 72; refine Calls.mono HC.out ?_; rintro e w2 ⟨rfl, rfl⟩)
  go_ret
  exact ⟨rfl, rfl⟩
theorem card_calls (g c n : Nat) (ms : List Int) (hn : ms.length = n) (w : World) (hR : Rd w .u64 (some ⟨g, 0, none⟩) ms) (hm : Cards ms) (hl : n ≤ 1000) :
    Calls Try.prog 56 #[.slice (some ⟨g, 0, none⟩) n c] w fun e w' => e = .returned (.bool true) ∧ w = w' := by
  have HC := hid (containsF_calls g c n ms hn w hR hm hl)
  clear hR hm
  go_enter Try.func56, Try.ntmps56
  go_wp2_with (go_at_call 64; refine Calls.mono HC.out ?_; rintro e w2 ⟨rfl, rfl⟩)
  go_ret
  exact ⟨rfl, rfl⟩
theorem be_bytes (v : Int) (n : Nat) : Bytes (be v n) := by
  intro x hx
  obtain ⟨i, _, rfl⟩ := List.mem_map.1 hx
  omega
theorem be_length (v : Int) (n : Nat) : (be v n).length = n := by simp [be]
theorem Own.rd' {w : World} {base : Nat} {e : TypeId} {k : IntKind} {A : Option Addr} {n c : Nat} {xs : List Int} (h : Own w base e k (.slice A n c) xs) (hl : xs.length ≤ 140737488355328) : Rd w k A xs := by
  obtain ⟨A', c', he, _, hR, _⟩ := h.rd hl
  injection he with e1 e2 e3
  subst e1; exact hR
/-- What 'lay' lays: pairs of how many bytes, and the number. -/
def layB (ps : List (Nat × Int)) : List Int := ps.flatMap fun p => be p.2 p.1
theorem layB_snoc (ps : List (Nat × Int)) (p : Nat × Int) : layB (ps ++ [p]) = layB ps ++ be p.2 p.1 := by simp [layB]
theorem layB_len (ps : List (Nat × Int)) (h : ∀ p ∈ ps, p.1 ≤ 8) : (layB ps).length ≤ 8 * ps.length := by
  induction ps with
  | nil => simp [layB]
  | cons p ps ih =>
    have h1 : layB (p :: ps) = be p.2 p.1 ++ layB ps := by simp [layB]
    have h2 := ih fun q hq => h q (List.mem_cons_of_mem _ hq)
    have h3 := h p (List.mem_cons_self ..)
    rw [h1, List.length_append, be_length, List.length_cons]; omega
/-- The pairs lie in block g, two cells each. -/
def RdP (w : World) (g : Nat) (ps : List (Nat × Int)) : Prop := g < w.heap.size ∧ ∀ j, j < ps.length → w.cell? ⟨g, j * 2, none⟩ = some (.int .u64 (ps.getD j default).1) ∧ w.cell? ⟨g, j * 2 + 1, none⟩ = some (.int .u64 (ps.getD j default).2)
theorem RdP.kept {w w' : World} {g : Nat} {ps : List (Nat × Int)} (h : RdP w g ps) {row : Option Nat} (hg : w.grownBy w' row) (hne : some g ≠ row) : RdP w' g ps :=
  ⟨Nat.lt_of_lt_of_le h.1 hg.size, fun j hj => ⟨hg.cell (h.2 j hj).1 hne, hg.cell (h.2 j hj).2 hne⟩⟩
set_option maxHeartbeats 6400000 in
set_option maxRecDepth 100000 in
theorem elay_calls (B k g : Nat) (v : Value) (xs : List Int) (ps : List (Nat × Int)) (hk : ps.length = k) (w : World) (hO : Own w B 5 .u8 v xs) (hB : B ≤ w.heap.size) (hR : RdP w g ps) (hv : ∀ p ∈ ps, 1 ≤ p.1 ∧ p.1 ≤ 8 ∧ 0 ≤ p.2 ∧ p.2 < 18446744073709551616 ∧ (p.1 < 8 → p.2 < 256 ^ p.1)) (hx : xs.length ≤ 1000) (hk2 : k ≤ 20) (hgl : v.ownBlock ≠ some g) :
    Calls Try.prog 57 #[v, .slice (some ⟨g, 0, none⟩) k k] w fun e w' => ∃ v', e = .returned v' ∧ Own w' B 5 .u8 v' (xs ++ layB ps) ∧ Below B w w' := by
  have HO := hid hO; have HR := hid hR; have HK := hid hk; have HV := hid hv; have HGL := hid hgl
  clear hO hR hk hv hgl
  obtain ⟨A0, c0, rfl, hA0, hR0, hb0⟩ := HO.out.rd (by omega)
  clear hA0 hR0 hb0
  go_enter Try.func57, Try.ntmps57
  go_wp2_with fail
  go_loopw [0, 11] (fun s0 i w' => ∃ j : Nat, j ≤ k ∧ i = .int .i64 j ∧ Own w' B 5 .u8 s0 (xs ++ layB (ps.take j)) ∧ s0.ownBlock ≠ some g ∧ RdP w' g ps ∧ Below B w w') (fun _ i _ => k - (intOf i).toNat)
  case atStart => exact ⟨0, by omega, rfl, by simpa [layB] using HO.out, HGL.out, HR.out, Below.refl _ _⟩
  case round =>
    obtain ⟨j, hj, rfl, ho, hgl, hrd, hbl⟩ := hrel
    have HO2 := hid ho; have HGL2 := hid hgl; have HR2 := hid hrd; have HBL := hid hbl
    clear ho hgl hrd hbl HO HGL HR
    have hj0 : (0 : Int) ≤ (j : Int) := by omega
    by_cases hlt : j < k
    · have hj1 : (j : Int) < (k : Int) := by omega
      have hjl : j < ps.length := by rw [HK.out]; exact hlt
      obtain ⟨cx, cy⟩ := HR2.out.2 j hjl
      have hv := HV.out (ps.getD j default) (by simp [List.getD_eq_getElem?_getD, hjl])
      have hX : layB (ps.take j) ++ be (ps.getD j default).2 (ps.getD j default).1 = layB (ps.take (j + 1)) := by
        rw [List.take_succ_eq_append_getElem hjl, layB_snoc]
        simp [List.getD_eq_getElem?_getD, hjl]
      have hll : (layB (ps.take j)).length ≤ 160 := by
        have h1 := layB_len (ps.take j) (fun p hp => (HV.out p (List.mem_of_mem_take hp)).2.1)
        rw [List.length_take] at h1
        omega
      generalize ps.getD j default = pr at *
      obtain ⟨n, X⟩ := pr
      simp only at cx cy hv hX
      have HX := hid hX; have HLL := hid hll; have HVX := hid hv
      clear hX hll hjl
      have hle : (xs ++ layB (ps.take j)).length ≤ 1160 := by rw [List.length_append]; have := HLL.out; omega
      obtain ⟨A1, c1, rfl, hA1, hR1, hb1⟩ := HO2.out.rd (by omega)
      obtain ⟨L0, hL0⟩ : ∃ L0, L0 = (xs ++ layB (ps.take j)).length := ⟨_, rfl⟩
      rw [← hL0] at HO2 HGL2 hle ⊢
      have HLE := hid hle; have HL0 := hid hL0
      clear hA1 hR1 hb1 hle hL0
      have hrg : wr.rangeAt g (j * 2) [.int .u64 n, .int .u64 X] := fun i u hu => by
        match i, hu with
        | 0, hu => simp at hu; subst hu; exact cx
        | 1, hu => simp at hu; subst hu; exact cy
      have HRG := hid hrg
      clear hrg cx cy
      go_wp2_with (with_reducible refine hold_op (o := ⟨some 14, _, _, _, _, _⟩) ?_)
      refine hid ?_
      refine wpList_load_mid rfl 109 (.tmp 13) rfl g (j * 2) rfl [.int .u64 n, .int .u64 X] _ HRG.out Try.underlying109 rfl (by kernel_rfl) ?_
      simp only [Act.put, List.setIfInBounds_toArray, List.set_cons_succ, List.set_cons_zero]
      go_wp2_with (with_reducible refine hold_op (o := ⟨none, _, _, _, _, _⟩) ?_)
      have hO1 : (wr.alloc (.cells #[.int .u64 0, .int .u64 0] 109)).heap[wr.heap.size]? = some (.cells #[.int .u64 0, .int .u64 0] 109 (0, 0)) := heap_alloc_new _ _
      have hP1 : Below wr.heap.size wr (wr.alloc (.cells #[.int .u64 0, .int .u64 0] 109)) := (Below.refl _ _).alloc (Nat.le_refl _) _
      generalize wr.alloc (.cells #[.int .u64 0, .int .u64 0] 109) = wb at *
      refine hid ?_
      refine wpList_store_row rfl 109 (.tmp 6) (.tmp 14) rfl wr.heap.size #[.int .u64 n, .int .u64 X] rfl rfl 109 _ hO1 (by kernel_rfl) rfl (by kernel_rfl) ?_
      have hW := setRow_heap wb wr.heap.size _ #[.int .u64 n, .int .u64 X] 109 _ hO1
      have hBW := below_setRow hP1 (Nat.le_refl _) #[.int .u64 n, .int .u64 X]
      generalize wb.setRow wr.heap.size #[.int .u64 n, .int .u64 X] = w2 at *
      have HBW := hid hBW; have HO3 := hid (HO2.out.below hBW); have HR3 := hid (HR2.out.kept (grown_below (row := none) hBW) (by simp))
      have c0 : w2.cell? ⟨wr.heap.size, 0, none⟩ = some (.int .u64 n) := by rw [cell_of_row _ _ 0 _ _ _ hW]; rfl
      have c1' : w2.cell? ⟨wr.heap.size, 1, none⟩ = some (.int .u64 X) := by rw [cell_of_row _ _ 1 _ _ _ hW]; rfl
      have hwn : IntKind.i64.wrap (n : Int) = (n : Int) := IntWalk.i64_in _ (by have := HVX.out; omega)
      clear hO1 hP1 hW hBW HO2 HR2 HRG
      dsimp only [Act.put]
      go_wp2_with (go_at_call 66; refine hold ?_)
      refine hid ?_
      refine Calls.mono (bytes_calls X n HVX.out.2.2.1 HVX.out.2.2.2.1 HVX.out.1 HVX.out.2.1 HVX.out.2.2.2.2 w2) ?_
      rintro e w3 ⟨ge, ce, rfl, ho3, hb3⟩
      have HE := hid (ho3.rd' (by rw [be_length]; have := HVX.out; omega)); have HB3 := hid hb3
      have HO4 := hid (HO3.out.below hb3)
      have HR4 := hid (HR3.out.kept (grown_below (row := none) hb3) (by simp))
      clear ho3 hb3 c0 c1' HO3 HR3
      go_wp2_with (at_builtin; refine hold ?_)
      refine hid ?_
      have hsz : B ≤ w3.heap.size := by have := HBL.out.size; have := HBW.out.size; have := HB3.out.size; omega
      refine wpList_app2 rfl _ _ 31 5 .u8 1 rfl elemB B (.slice A1 L0 c1) (xs ++ layB (ps.take j)) rfl HO4.out (some ⟨ge, 0, none⟩) ce n (be X n) rfl (be_length _ _) (fun h => by simp at h) HE.out (by have := HLE.out; have := HL0.out; have := HVX.out; omega) (by have := HLE.out; have := HL0.out; have := HVX.out; unfold maxLen; omega) hsz ?_
      intro v4 w4 ho4 hg4 hat4
      rw [List.append_assoc, HX.out] at ho4
      have hb3 : Below B w w3 := HBL.out.trans ((HBW.out.mono (by have := HBL.out.size; omega)).trans (HB3.out.mono (by have := HBL.out.size; have := HBW.out.size; omega)))
      have hb4 : Below B w w4 := hb3.grown hg4 (by have := hb3.size; omega) (fun q hq => (HO4.out.lt q hq).1)
      have hr4 := HR4.out.kept hg4 (fun h => HGL2.out h.symm)
      have hg4' : v4.ownBlock ≠ some g := fun h => by
        rcases hat4 g h with h1 | h1
        · exact HGL2.out h1
        · have := HR4.out.1; omega
      have HO5 := hid ho4; have HB5 := hid hb4; have HR5 := hid hr4; have HG5 := hid hg4'
      clear ho4 hg4 hat4 hb3 hb4 hr4 hg4' HO4 HR4 HE HBL HB3 HBW HVX hsz
      go_wp2
      go_roundw
      case rel => exact ⟨j + 1, by omega, by go_num, HO5.out, HG5.out, HR5.out, HB5.out⟩
      case measure => simp [intOf]; omega
    · obtain rfl : j = k := by omega
      have hfull : ps.take j = ps := List.take_of_length_le (by rw [HK.out]; exact Nat.le_refl _)
      have HF := hid hfull
      clear hfull
      go_wp2
      go_ret
      refine ⟨_, rfl, ?_, HBL.out⟩
      rw [← HF.out]
      exact HO2.out
end Go.Proofs.Ytebfoigbiekeiaa
