/-
  LAYER 15, WALK: PathDown.
-/
import Derived.Test.YtopcokjfgldblaaPathK
import Derived.LoopTactic
set_option linter.unusedVariables false
set_option linter.unusedSimpArgs false
namespace Go.Proofs.Ytopcokjfgldblaa
open Go.RowKit

attribute [local go_sem] fw0 fw1 fw2 fw3 fw4 fw5 fw6 fw7 fw8

theorem way_ex (g : Nat) (p : PR) (w : World) (h : IsP w g 65 p) (f : Int) (u : Bool) (hf : p.faults = f) (hu : p.up = u) :
    Calls Try.prog 13 #[.pointer (some ⟨g, 0, none⟩)] w fun e w' => (∃ a0 a1 a2 a3 a4 a5 b8, e = .returned (.agg #[.int .i64 a0, .int .i64 a1, .int .i64 a2, .int .i64 a3, .int .i64 a4, .int .i64 a5, .int .i64 f, .bool u, .bool b8])) ∧ Below w.heap.size w w' :=
  (stands_way g p w h).mono fun e w' ⟨he, hb⟩ => by
    rw [hf, hu] at he
    exact ⟨⟨_, _, _, _, _, _, _, he⟩, hb⟩

set_option maxHeartbeats 4000000 in
set_option maxRecDepth 100000 in
theorem PathDown_calls (c la : Nat) (A : Option Addr) (xs : List Int) (hla : xs.length = la) (w : World) (hR : Rd w .u8 A xs) (hx : Bytes xs) (hca : la ≤ c) (h47 : la ≤ 140737488351232) : Calls Try.prog 4 #[.slice A la c] w fun e w' => e = .returned (.bool true) ∧ Below w.heap.size w w' := by
  have HR := hid hR; clear hR
  have HX := hid hx; clear hx
  have HLA := hid hla; clear hla
  have k0 : ∀ W, Calls Try.prog 11 #[.int .i64 1000] W fun e w' => e = .returned (.tuple #[.pointer (some ⟨W.heap.size, 0, none⟩), .int .i64 0]) ∧ IsP w' W.heap.size 65 (newP 1000) ∧ Below W.heap.size W w' := fun W => new_calls 1000 W (by decide) (by decide)
  have K0 := hid k0; clear k0
  go_enter Try.func4, Try.ntmps4
  go_wp2_with (go_at_call 11; refine Calls.mono (K0.out _) ?_; rintro e w1 ⟨rfl, hI1, hB1⟩)
  go_loopw [5, 6] (fun r i wr => ∃ (k row : Nat) (p : PR), k ≤ 300 ∧ k ≤ la ∧ row ≤ k ∧ i = .int .i64 k ∧ r = .int .i64 row ∧ IsP wr w.heap.size 65 p ∧ p.Ok k ∧ p.faults = row ∧ p.up = decide (row ≤ 3) ∧ Below w.heap.size w wr) (fun _ i _ => 300 - (intOf i).toNat)
  case atStart => exact ⟨0, 0, newP 1000, by omega, by omega, by omega, rfl, rfl, hI1, PR.Ok.new 1000 (by decide) (by decide), rfl, rfl, hB1⟩
  case round =>
    obtain ⟨k, row, p, hk, hkl, hrow, rfl, rfl, hI, ok, hf, hu, hB⟩ := hrel
    clear hI1 hB1
    have hz := hB.size
    have HF := hid hf; have HU := hid hu
    clear hf hu
    by_cases hlt : k < la ∧ k < 300
    · obtain ⟨hl1, hl2⟩ := hlt
      have hl3 : (k : Int) < 300 := by omega
      obtain ⟨b1, o1, rfl, hb1⟩ := HR.out.form k (by rw [HLA.out]; omega)
      have cx := (HR.out.below hB).cell k (by rw [HLA.out]; omega)
      have cx0 := hid (HR.out.cell k (by rw [HLA.out]; omega))
      have x0 := (HX.out.at_ k).1
      have x1 := (HX.out.at_ k).2
      have HB1 := hid hb1; clear hb1
      generalize xs.getD k 0 = x at *
      have OK := hid ok; clear ok
      have HB := hid hB; clear hB
      have hq : x % 4 = 0 ∨ x % 4 = 1 ∨ x % 4 = 2 ∨ x % 4 = 3 := by omega
      rcases hq with hq | hq | hq | hq
      · have KF : Hid ((goodP p).faults = 0) := hid rfl
        have KU : Hid ((goodP p).up = true) := hid rfl
        go_wp2_with (first | (go_at_call 15; refine Calls.mono (good_calls _ p _ hI) ?_; rintro e w2 ⟨rfl, hI2, hG2⟩) | (go_at_call 13; refine Calls.mono (way_ex _ _ _ hI2 (0) true KF.out KU.out) ?_; rintro e w3 ⟨⟨a0, a1, a2, a3, a4, a5, b8, rfl⟩, hB3⟩; have hc : w3.cell? ⟨b1, o1 + k, none⟩ = some (.int .u8 x) := (hB3.cell (by show _ < _; have := HB1.out; have := hG2.size; simp; omega)).trans ((below_grown HB.out hG2 (Nat.le_refl _) hz).cell (by exact HB1.out) |>.trans cx0.out); have hb3 : b1 < w3.heap.size := by have := HB1.out; have := hG2.size; have := hB3.size; omega))
        go_roundw
        case rel =>
          have b3 := below_then (below_grown HB.out hG2 (Nat.le_refl _) hz) hB3
          have z2 := hG2.size
          have z3 := hB3.size
          refine ⟨k + 1, 0, _, by omega, by omega, by omega, by go_num, by first | rfl | go_num, (hI2.kept (grown_below (row := none) hB3) (by simp)).kept (grown_below (row := none) ((Below.refl _ _).alloc (Nat.le_refl _) _)) (by simp), (OK.out.good).mono (by omega) (by omega), ?_, ?_, b3.alloc (by omega) _⟩
          · rfl
          · rfl
        case measure => simp [intOf]; omega
      · have hr : row + 1 ≤ 3 ∨ row + 1 = 4 ∨ 4 < row + 1 := by omega
        have KF : Hid ((lateP p).faults = ((row : Int) + 1)) := by show p.faults + 1 = _; rw [HF.out]
        rcases hr with hr | hr | hr
        · have KU : Hid ((lateP p).up = true) := by show (p.up && decide (p.faults + 1 ≤ 3)) = _; rw [HU.out, HF.out]; simp; omega
          have KD : Hid (downP p = false) := by show (p.up && decide (3 < p.faults + 1)) = _; rw [HU.out, HF.out]; simp; omega
          have kL : ∀ W, IsP W w.heap.size 65 p → Calls Try.prog 16 #[.pointer (some ⟨w.heap.size, 0, none⟩)] W fun e w' => e = .returned (.tuple #[.bool false, .int .i64 0]) ∧ IsP w' w.heap.size 65 (lateP p) ∧ W.grownBy w' (some w.heap.size) := fun W h => by
            have := late_calls _ p W k OK.out h
            rw [KD.out] at this
            exact this
          have KL := hid kL
          clear kL
          go_wp2_with (first | (go_at_call 16; refine Calls.mono (KL.out _ hI) ?_; rintro e w2 ⟨rfl, hI2, hG2⟩) | (go_at_call 13; refine Calls.mono (way_ex _ _ _ hI2 ((row : Int) + 1) true KF.out KU.out) ?_; rintro e w3 ⟨⟨a0, a1, a2, a3, a4, a5, b8, rfl⟩, hB3⟩; have hc : w3.cell? ⟨b1, o1 + k, none⟩ = some (.int .u8 x) := (hB3.cell (by show _ < _; have := HB1.out; have := hG2.size; simp; omega)).trans ((below_grown HB.out hG2 (Nat.le_refl _) hz).cell (by exact HB1.out) |>.trans cx0.out); have hb3 : b1 < w3.heap.size := by have := HB1.out; have := hG2.size; have := hB3.size; omega))
          go_roundw
          case rel =>
            have b3 := below_then (below_grown HB.out hG2 (Nat.le_refl _) hz) hB3
            have z2 := hG2.size
            have z3 := hB3.size
            refine ⟨k + 1, row + 1, _, by omega, by omega, by omega, by go_num, by first | rfl | go_num, (hI2.kept (grown_below (row := none) hB3) (by simp)).kept (grown_below (row := none) ((Below.refl _ _).alloc (Nat.le_refl _) _)) (by simp), by have := OK.out.late (by omega); exact_mod_cast this, ?_, ?_, b3.alloc (by omega) _⟩
            · rw [KF.out]; push_cast; rfl
            · rw [KU.out]; simp; omega
          case measure => simp [intOf]; omega
        · have KU : Hid ((lateP p).up = false) := by show (p.up && decide (p.faults + 1 ≤ 3)) = _; rw [HU.out, HF.out]; simp; omega
          have KD : Hid (downP p = true) := by show (p.up && decide (3 < p.faults + 1)) = _; rw [HU.out, HF.out]; simp; omega
          have kL : ∀ W, IsP W w.heap.size 65 p → Calls Try.prog 16 #[.pointer (some ⟨w.heap.size, 0, none⟩)] W fun e w' => e = .returned (.tuple #[.bool true, .int .i64 0]) ∧ IsP w' w.heap.size 65 (lateP p) ∧ W.grownBy w' (some w.heap.size) := fun W h => by
            have := late_calls _ p W k OK.out h
            rw [KD.out] at this
            exact this
          have KL := hid kL
          clear kL
          go_wp2_with (first | (go_at_call 16; refine Calls.mono (KL.out _ hI) ?_; rintro e w2 ⟨rfl, hI2, hG2⟩) | (go_at_call 13; refine Calls.mono (way_ex _ _ _ hI2 ((row : Int) + 1) false KF.out KU.out) ?_; rintro e w3 ⟨⟨a0, a1, a2, a3, a4, a5, b8, rfl⟩, hB3⟩; have hc : w3.cell? ⟨b1, o1 + k, none⟩ = some (.int .u8 x) := (hB3.cell (by show _ < _; have := HB1.out; have := hG2.size; simp; omega)).trans ((below_grown HB.out hG2 (Nat.le_refl _) hz).cell (by exact HB1.out) |>.trans cx0.out); have hb3 : b1 < w3.heap.size := by have := HB1.out; have := hG2.size; have := hB3.size; omega))
          go_roundw
          case rel =>
            have b3 := below_then (below_grown HB.out hG2 (Nat.le_refl _) hz) hB3
            have z2 := hG2.size
            have z3 := hB3.size
            refine ⟨k + 1, row + 1, _, by omega, by omega, by omega, by go_num, by first | rfl | go_num, (hI2.kept (grown_below (row := none) hB3) (by simp)).kept (grown_below (row := none) ((Below.refl _ _).alloc (Nat.le_refl _) _)) (by simp), by have := OK.out.late (by omega); exact_mod_cast this, ?_, ?_, b3.alloc (by omega) _⟩
            · rw [KF.out]; push_cast; rfl
            · rw [KU.out]; simp; omega
          case measure => simp [intOf]; omega
        · have KU : Hid ((lateP p).up = false) := by show (p.up && decide (p.faults + 1 ≤ 3)) = _; rw [HU.out, HF.out]; simp; omega
          have KD : Hid (downP p = false) := by show (p.up && decide (3 < p.faults + 1)) = _; rw [HU.out, HF.out]; simp; omega
          have kL : ∀ W, IsP W w.heap.size 65 p → Calls Try.prog 16 #[.pointer (some ⟨w.heap.size, 0, none⟩)] W fun e w' => e = .returned (.tuple #[.bool false, .int .i64 0]) ∧ IsP w' w.heap.size 65 (lateP p) ∧ W.grownBy w' (some w.heap.size) := fun W h => by
            have := late_calls _ p W k OK.out h
            rw [KD.out] at this
            exact this
          have KL := hid kL
          clear kL
          go_wp2_with (first | (go_at_call 16; refine Calls.mono (KL.out _ hI) ?_; rintro e w2 ⟨rfl, hI2, hG2⟩) | (go_at_call 13; refine Calls.mono (way_ex _ _ _ hI2 ((row : Int) + 1) false KF.out KU.out) ?_; rintro e w3 ⟨⟨a0, a1, a2, a3, a4, a5, b8, rfl⟩, hB3⟩; have hc : w3.cell? ⟨b1, o1 + k, none⟩ = some (.int .u8 x) := (hB3.cell (by show _ < _; have := HB1.out; have := hG2.size; simp; omega)).trans ((below_grown HB.out hG2 (Nat.le_refl _) hz).cell (by exact HB1.out) |>.trans cx0.out); have hb3 : b1 < w3.heap.size := by have := HB1.out; have := hG2.size; have := hB3.size; omega))
          go_roundw
          case rel =>
            have b3 := below_then (below_grown HB.out hG2 (Nat.le_refl _) hz) hB3
            have z2 := hG2.size
            have z3 := hB3.size
            refine ⟨k + 1, row + 1, _, by omega, by omega, by omega, by go_num, by first | rfl | go_num, (hI2.kept (grown_below (row := none) hB3) (by simp)).kept (grown_below (row := none) ((Below.refl _ _).alloc (Nat.le_refl _) _)) (by simp), by have := OK.out.late (by omega); exact_mod_cast this, ?_, ?_, b3.alloc (by omega) _⟩
            · rw [KF.out]; push_cast; rfl
            · rw [KU.out]; simp; omega
          case measure => simp [intOf]; omega
      · have hr : row + 1 ≤ 3 ∨ row + 1 = 4 ∨ 4 < row + 1 := by omega
        have KF : Hid ((faultP p).faults = ((row : Int) + 1)) := by show p.faults + 1 = _; rw [HF.out]
        rcases hr with hr | hr | hr
        · have KU : Hid ((faultP p).up = true) := by show (p.up && decide (p.faults + 1 ≤ 3)) = _; rw [HU.out, HF.out]; simp; omega
          have KD : Hid (downP p = false) := by show (p.up && decide (3 < p.faults + 1)) = _; rw [HU.out, HF.out]; simp; omega
          have kL : ∀ W, IsP W w.heap.size 65 p → Calls Try.prog 17 #[.pointer (some ⟨w.heap.size, 0, none⟩)] W fun e w' => e = .returned (.tuple #[.bool false, .int .i64 0]) ∧ IsP w' w.heap.size 65 (faultP p) ∧ W.grownBy w' (some w.heap.size) := fun W h => by
            have := fault_calls _ p W k OK.out h
            rw [KD.out] at this
            exact this
          have KL := hid kL
          clear kL
          go_wp2_with (first | (go_at_call 17; refine Calls.mono (KL.out _ hI) ?_; rintro e w2 ⟨rfl, hI2, hG2⟩) | (go_at_call 13; refine Calls.mono (way_ex _ _ _ hI2 ((row : Int) + 1) true KF.out KU.out) ?_; rintro e w3 ⟨⟨a0, a1, a2, a3, a4, a5, b8, rfl⟩, hB3⟩; have hc : w3.cell? ⟨b1, o1 + k, none⟩ = some (.int .u8 x) := (hB3.cell (by show _ < _; have := HB1.out; have := hG2.size; simp; omega)).trans ((below_grown HB.out hG2 (Nat.le_refl _) hz).cell (by exact HB1.out) |>.trans cx0.out); have hb3 : b1 < w3.heap.size := by have := HB1.out; have := hG2.size; have := hB3.size; omega))
          go_roundw
          case rel =>
            have b3 := below_then (below_grown HB.out hG2 (Nat.le_refl _) hz) hB3
            have z2 := hG2.size
            have z3 := hB3.size
            refine ⟨k + 1, row + 1, _, by omega, by omega, by omega, by go_num, by first | rfl | go_num, (hI2.kept (grown_below (row := none) hB3) (by simp)).kept (grown_below (row := none) ((Below.refl _ _).alloc (Nat.le_refl _) _)) (by simp), by have := OK.out.fault (by omega); exact_mod_cast this, ?_, ?_, b3.alloc (by omega) _⟩
            · rw [KF.out]; push_cast; rfl
            · rw [KU.out]; simp; omega
          case measure => simp [intOf]; omega
        · have KU : Hid ((faultP p).up = false) := by show (p.up && decide (p.faults + 1 ≤ 3)) = _; rw [HU.out, HF.out]; simp; omega
          have KD : Hid (downP p = true) := by show (p.up && decide (3 < p.faults + 1)) = _; rw [HU.out, HF.out]; simp; omega
          have kL : ∀ W, IsP W w.heap.size 65 p → Calls Try.prog 17 #[.pointer (some ⟨w.heap.size, 0, none⟩)] W fun e w' => e = .returned (.tuple #[.bool true, .int .i64 0]) ∧ IsP w' w.heap.size 65 (faultP p) ∧ W.grownBy w' (some w.heap.size) := fun W h => by
            have := fault_calls _ p W k OK.out h
            rw [KD.out] at this
            exact this
          have KL := hid kL
          clear kL
          go_wp2_with (first | (go_at_call 17; refine Calls.mono (KL.out _ hI) ?_; rintro e w2 ⟨rfl, hI2, hG2⟩) | (go_at_call 13; refine Calls.mono (way_ex _ _ _ hI2 ((row : Int) + 1) false KF.out KU.out) ?_; rintro e w3 ⟨⟨a0, a1, a2, a3, a4, a5, b8, rfl⟩, hB3⟩; have hc : w3.cell? ⟨b1, o1 + k, none⟩ = some (.int .u8 x) := (hB3.cell (by show _ < _; have := HB1.out; have := hG2.size; simp; omega)).trans ((below_grown HB.out hG2 (Nat.le_refl _) hz).cell (by exact HB1.out) |>.trans cx0.out); have hb3 : b1 < w3.heap.size := by have := HB1.out; have := hG2.size; have := hB3.size; omega))
          go_roundw
          case rel =>
            have b3 := below_then (below_grown HB.out hG2 (Nat.le_refl _) hz) hB3
            have z2 := hG2.size
            have z3 := hB3.size
            refine ⟨k + 1, row + 1, _, by omega, by omega, by omega, by go_num, by first | rfl | go_num, (hI2.kept (grown_below (row := none) hB3) (by simp)).kept (grown_below (row := none) ((Below.refl _ _).alloc (Nat.le_refl _) _)) (by simp), by have := OK.out.fault (by omega); exact_mod_cast this, ?_, ?_, b3.alloc (by omega) _⟩
            · rw [KF.out]; push_cast; rfl
            · rw [KU.out]; simp; omega
          case measure => simp [intOf]; omega
        · have KU : Hid ((faultP p).up = false) := by show (p.up && decide (p.faults + 1 ≤ 3)) = _; rw [HU.out, HF.out]; simp; omega
          have KD : Hid (downP p = false) := by show (p.up && decide (3 < p.faults + 1)) = _; rw [HU.out, HF.out]; simp; omega
          have kL : ∀ W, IsP W w.heap.size 65 p → Calls Try.prog 17 #[.pointer (some ⟨w.heap.size, 0, none⟩)] W fun e w' => e = .returned (.tuple #[.bool false, .int .i64 0]) ∧ IsP w' w.heap.size 65 (faultP p) ∧ W.grownBy w' (some w.heap.size) := fun W h => by
            have := fault_calls _ p W k OK.out h
            rw [KD.out] at this
            exact this
          have KL := hid kL
          clear kL
          go_wp2_with (first | (go_at_call 17; refine Calls.mono (KL.out _ hI) ?_; rintro e w2 ⟨rfl, hI2, hG2⟩) | (go_at_call 13; refine Calls.mono (way_ex _ _ _ hI2 ((row : Int) + 1) false KF.out KU.out) ?_; rintro e w3 ⟨⟨a0, a1, a2, a3, a4, a5, b8, rfl⟩, hB3⟩; have hc : w3.cell? ⟨b1, o1 + k, none⟩ = some (.int .u8 x) := (hB3.cell (by show _ < _; have := HB1.out; have := hG2.size; simp; omega)).trans ((below_grown HB.out hG2 (Nat.le_refl _) hz).cell (by exact HB1.out) |>.trans cx0.out); have hb3 : b1 < w3.heap.size := by have := HB1.out; have := hG2.size; have := hB3.size; omega))
          go_roundw
          case rel =>
            have b3 := below_then (below_grown HB.out hG2 (Nat.le_refl _) hz) hB3
            have z2 := hG2.size
            have z3 := hB3.size
            refine ⟨k + 1, row + 1, _, by omega, by omega, by omega, by go_num, by first | rfl | go_num, (hI2.kept (grown_below (row := none) hB3) (by simp)).kept (grown_below (row := none) ((Below.refl _ _).alloc (Nat.le_refl _) _)) (by simp), by have := OK.out.fault (by omega); exact_mod_cast this, ?_, ?_, b3.alloc (by omega) _⟩
            · rw [KF.out]; push_cast; rfl
            · rw [KU.out]; simp; omega
          case measure => simp [intOf]; omega
      · have hr : row + 1 ≤ 3 ∨ row + 1 = 4 ∨ 4 < row + 1 := by omega
        have KF : Hid ((faultP p).faults = ((row : Int) + 1)) := by show p.faults + 1 = _; rw [HF.out]
        rcases hr with hr | hr | hr
        · have KU : Hid ((faultP p).up = true) := by show (p.up && decide (p.faults + 1 ≤ 3)) = _; rw [HU.out, HF.out]; simp; omega
          have KD : Hid (downP p = false) := by show (p.up && decide (3 < p.faults + 1)) = _; rw [HU.out, HF.out]; simp; omega
          have kL : ∀ W, IsP W w.heap.size 65 p → Calls Try.prog 17 #[.pointer (some ⟨w.heap.size, 0, none⟩)] W fun e w' => e = .returned (.tuple #[.bool false, .int .i64 0]) ∧ IsP w' w.heap.size 65 (faultP p) ∧ W.grownBy w' (some w.heap.size) := fun W h => by
            have := fault_calls _ p W k OK.out h
            rw [KD.out] at this
            exact this
          have KL := hid kL
          clear kL
          go_wp2_with (first | (go_at_call 17; refine Calls.mono (KL.out _ hI) ?_; rintro e w2 ⟨rfl, hI2, hG2⟩) | (go_at_call 13; refine Calls.mono (way_ex _ _ _ hI2 ((row : Int) + 1) true KF.out KU.out) ?_; rintro e w3 ⟨⟨a0, a1, a2, a3, a4, a5, b8, rfl⟩, hB3⟩; have hc : w3.cell? ⟨b1, o1 + k, none⟩ = some (.int .u8 x) := (hB3.cell (by show _ < _; have := HB1.out; have := hG2.size; simp; omega)).trans ((below_grown HB.out hG2 (Nat.le_refl _) hz).cell (by exact HB1.out) |>.trans cx0.out); have hb3 : b1 < w3.heap.size := by have := HB1.out; have := hG2.size; have := hB3.size; omega))
          go_roundw
          case rel =>
            have b3 := below_then (below_grown HB.out hG2 (Nat.le_refl _) hz) hB3
            have z2 := hG2.size
            have z3 := hB3.size
            refine ⟨k + 1, row + 1, _, by omega, by omega, by omega, by go_num, by first | rfl | go_num, (hI2.kept (grown_below (row := none) hB3) (by simp)).kept (grown_below (row := none) ((Below.refl _ _).alloc (Nat.le_refl _) _)) (by simp), by have := OK.out.fault (by omega); exact_mod_cast this, ?_, ?_, b3.alloc (by omega) _⟩
            · rw [KF.out]; push_cast; rfl
            · rw [KU.out]; simp; omega
          case measure => simp [intOf]; omega
        · have KU : Hid ((faultP p).up = false) := by show (p.up && decide (p.faults + 1 ≤ 3)) = _; rw [HU.out, HF.out]; simp; omega
          have KD : Hid (downP p = true) := by show (p.up && decide (3 < p.faults + 1)) = _; rw [HU.out, HF.out]; simp; omega
          have kL : ∀ W, IsP W w.heap.size 65 p → Calls Try.prog 17 #[.pointer (some ⟨w.heap.size, 0, none⟩)] W fun e w' => e = .returned (.tuple #[.bool true, .int .i64 0]) ∧ IsP w' w.heap.size 65 (faultP p) ∧ W.grownBy w' (some w.heap.size) := fun W h => by
            have := fault_calls _ p W k OK.out h
            rw [KD.out] at this
            exact this
          have KL := hid kL
          clear kL
          go_wp2_with (first | (go_at_call 17; refine Calls.mono (KL.out _ hI) ?_; rintro e w2 ⟨rfl, hI2, hG2⟩) | (go_at_call 13; refine Calls.mono (way_ex _ _ _ hI2 ((row : Int) + 1) false KF.out KU.out) ?_; rintro e w3 ⟨⟨a0, a1, a2, a3, a4, a5, b8, rfl⟩, hB3⟩; have hc : w3.cell? ⟨b1, o1 + k, none⟩ = some (.int .u8 x) := (hB3.cell (by show _ < _; have := HB1.out; have := hG2.size; simp; omega)).trans ((below_grown HB.out hG2 (Nat.le_refl _) hz).cell (by exact HB1.out) |>.trans cx0.out); have hb3 : b1 < w3.heap.size := by have := HB1.out; have := hG2.size; have := hB3.size; omega))
          go_roundw
          case rel =>
            have b3 := below_then (below_grown HB.out hG2 (Nat.le_refl _) hz) hB3
            have z2 := hG2.size
            have z3 := hB3.size
            refine ⟨k + 1, row + 1, _, by omega, by omega, by omega, by go_num, by first | rfl | go_num, (hI2.kept (grown_below (row := none) hB3) (by simp)).kept (grown_below (row := none) ((Below.refl _ _).alloc (Nat.le_refl _) _)) (by simp), by have := OK.out.fault (by omega); exact_mod_cast this, ?_, ?_, b3.alloc (by omega) _⟩
            · rw [KF.out]; push_cast; rfl
            · rw [KU.out]; simp; omega
          case measure => simp [intOf]; omega
        · have KU : Hid ((faultP p).up = false) := by show (p.up && decide (p.faults + 1 ≤ 3)) = _; rw [HU.out, HF.out]; simp; omega
          have KD : Hid (downP p = false) := by show (p.up && decide (3 < p.faults + 1)) = _; rw [HU.out, HF.out]; simp; omega
          have kL : ∀ W, IsP W w.heap.size 65 p → Calls Try.prog 17 #[.pointer (some ⟨w.heap.size, 0, none⟩)] W fun e w' => e = .returned (.tuple #[.bool false, .int .i64 0]) ∧ IsP w' w.heap.size 65 (faultP p) ∧ W.grownBy w' (some w.heap.size) := fun W h => by
            have := fault_calls _ p W k OK.out h
            rw [KD.out] at this
            exact this
          have KL := hid kL
          clear kL
          go_wp2_with (first | (go_at_call 17; refine Calls.mono (KL.out _ hI) ?_; rintro e w2 ⟨rfl, hI2, hG2⟩) | (go_at_call 13; refine Calls.mono (way_ex _ _ _ hI2 ((row : Int) + 1) false KF.out KU.out) ?_; rintro e w3 ⟨⟨a0, a1, a2, a3, a4, a5, b8, rfl⟩, hB3⟩; have hc : w3.cell? ⟨b1, o1 + k, none⟩ = some (.int .u8 x) := (hB3.cell (by show _ < _; have := HB1.out; have := hG2.size; simp; omega)).trans ((below_grown HB.out hG2 (Nat.le_refl _) hz).cell (by exact HB1.out) |>.trans cx0.out); have hb3 : b1 < w3.heap.size := by have := HB1.out; have := hG2.size; have := hB3.size; omega))
          go_roundw
          case rel =>
            have b3 := below_then (below_grown HB.out hG2 (Nat.le_refl _) hz) hB3
            have z2 := hG2.size
            have z3 := hB3.size
            refine ⟨k + 1, row + 1, _, by omega, by omega, by omega, by go_num, by first | rfl | go_num, (hI2.kept (grown_below (row := none) hB3) (by simp)).kept (grown_below (row := none) ((Below.refl _ _).alloc (Nat.le_refl _) _)) (by simp), by have := OK.out.fault (by omega); exact_mod_cast this, ?_, ?_, b3.alloc (by omega) _⟩
            · rw [KF.out]; push_cast; rfl
            · rw [KU.out]; simp; omega
          case measure => simp [intOf]; omega
    · go_wp2_with (go_at_call 14; refine Calls.mono (live_calls _) ?_; rintro e w4 ⟨rfl, hB4⟩)
      go_outline
      all_goals
        go_ret
        exact ⟨rfl, below_then hB hB4⟩
end Go.Proofs.Ytopcokjfgldblaa
