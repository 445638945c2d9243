/-
  LAYER 15, WALK: the law's 'live'.
-/
import Derived.Test.YtopcokjfgldblaaPathI
import Derived.LoopTactic
set_option linter.unusedVariables false
set_option linter.unusedSimpArgs false
namespace Go.Proofs.Ytopcokjfgldblaa
open Go.RowKit

theorem fw0 (W : World) (a0 a1 a2 a3 a4 a5 a6 a7 a8 : Value) : (Instr.field 29 (.agg #[a0, a1, a2, a3, a4, a5, a6, a7, a8]) 0).run Try.prog W = .ok a0 W := by kernel_rfl
theorem fw1 (W : World) (a0 a1 a2 a3 a4 a5 a6 a7 a8 : Value) : (Instr.field 29 (.agg #[a0, a1, a2, a3, a4, a5, a6, a7, a8]) 1).run Try.prog W = .ok a1 W := by kernel_rfl
theorem fw2 (W : World) (a0 a1 a2 a3 a4 a5 a6 a7 a8 : Value) : (Instr.field 29 (.agg #[a0, a1, a2, a3, a4, a5, a6, a7, a8]) 2).run Try.prog W = .ok a2 W := by kernel_rfl
theorem fw3 (W : World) (a0 a1 a2 a3 a4 a5 a6 a7 a8 : Value) : (Instr.field 29 (.agg #[a0, a1, a2, a3, a4, a5, a6, a7, a8]) 3).run Try.prog W = .ok a3 W := by kernel_rfl
theorem fw4 (W : World) (a0 a1 a2 a3 a4 a5 a6 a7 a8 : Value) : (Instr.field 29 (.agg #[a0, a1, a2, a3, a4, a5, a6, a7, a8]) 4).run Try.prog W = .ok a4 W := by kernel_rfl
theorem fw5 (W : World) (a0 a1 a2 a3 a4 a5 a6 a7 a8 : Value) : (Instr.field 29 (.agg #[a0, a1, a2, a3, a4, a5, a6, a7, a8]) 5).run Try.prog W = .ok a5 W := by kernel_rfl
theorem fw6 (W : World) (a0 a1 a2 a3 a4 a5 a6 a7 a8 : Value) : (Instr.field 29 (.agg #[a0, a1, a2, a3, a4, a5, a6, a7, a8]) 6).run Try.prog W = .ok a6 W := by kernel_rfl
theorem fw7 (W : World) (a0 a1 a2 a3 a4 a5 a6 a7 a8 : Value) : (Instr.field 29 (.agg #[a0, a1, a2, a3, a4, a5, a6, a7, a8]) 7).run Try.prog W = .ok a7 W := by kernel_rfl
theorem fw8 (W : World) (a0 a1 a2 a3 a4 a5 a6 a7 a8 : Value) : (Instr.field 29 (.agg #[a0, a1, a2, a3, a4, a5, a6, a7, a8]) 8).run Try.prog W = .ok a8 W := by kernel_rfl
attribute [local go_sem] fw0 fw1 fw2 fw3 fw4 fw5 fw6 fw7 fw8
theorem below_grown {B : Nat} {w w1 w2 : World} {g : Nat} (h : Below B w w1) (hg : w1.grownBy w2 (some g)) (hb : B ≤ g) (hs : B ≤ w1.heap.size) : Below B w w2 :=
  ⟨hg.os.trans h.os, hg.tape.trans h.tape, hg.output.trans h.output, Nat.le_trans h.size hg.size, fun i hi => (hg.block i (by omega) (fun e => by injection e; omega)).trans (h.block i hi)⟩
theorem stands_way (g : Nat) (p : PR) (w : World) (h : IsP w g 65 p) :
    Calls Try.prog 13 #[.pointer (some ⟨g, 0, none⟩)] w fun e w' => e = .returned (.agg #[.int .i64 p.win, .int .i64 p.slow, .int .i64 p.part, .int .i64 p.rto, .int .i64 p.mean, .int .i64 p.spread, .int .i64 p.faults, .bool p.up, .bool p.sure]) ∧ Below w.heap.size w w' := stands_calls g p w h

def liveP0 : PR := ⟨4404, 8192, 0, 30, 0, 0, 0, true, false, 1500, false, false, 0, 0⟩
def liveP1 : PR := ⟨4404, 8192, 0, 24, 64, 16, 0, true, false, 1500, true, false, 0, 0⟩
set_option maxHeartbeats 1000000 in
theorem live_calls (w : World) : Calls Try.prog 14 #[] w fun e w' => e = .returned (.bool true) ∧ Below w.heap.size w w' := by
  have k0 : ∀ W, Calls Try.prog 11 #[.int .i64 1500] W fun e w' => e = .returned (.tuple #[.pointer (some ⟨W.heap.size, 0, none⟩), .int .i64 0]) ∧ IsP w' W.heap.size 65 liveP0 ∧ Below W.heap.size W w' := fun W => new_calls 1500 W (by decide) (by decide)
  have k1 : ∀ W g, IsP W g 65 liveP0 → Calls Try.prog 13 #[.pointer (some ⟨g, 0, none⟩)] W fun e w' => e = .returned (.agg #[.int .i64 4404, .int .i64 8192, .int .i64 0, .int .i64 30, .int .i64 0, .int .i64 0, .int .i64 0, .bool true, .bool false]) ∧ Below W.heap.size W w' := fun W g h => stands_calls g _ W h
  have k2 : ∀ W g, IsP W g 65 liveP1 → Calls Try.prog 13 #[.pointer (some ⟨g, 0, none⟩)] W fun e w' => e = .returned (.agg #[.int .i64 4404, .int .i64 8192, .int .i64 0, .int .i64 24, .int .i64 64, .int .i64 16, .int .i64 0, .bool true, .bool false]) ∧ Below W.heap.size W w' := fun W g h => stands_calls g _ W h
  have ok0 : liveP0.Ok 0 := PR.Ok.new 1500 (by decide) (by decide)
  have k3 : ∀ W g, IsP W g 65 liveP0 → Calls Try.prog 12 #[.pointer (some ⟨g, 0, none⟩), .int .i64 8] W fun e w' => e = .returned (.int .i64 0) ∧ IsP w' g 65 liveP1 ∧ W.grownBy w' (some g) := fun W g h => samp_calls g _ W 0 8 ok0 h (by decide) (by decide)
  have K0 := hid k0; have K1 := hid k1; have K2 := hid k2; have K3 := hid k3
  clear k0 k1 k2 k3 ok0
  go_enter Try.func14, Try.ntmps14
  go_wp2_with (first | (go_at_call 11; refine Calls.mono (K0.out _) ?_; rintro e w1 ⟨rfl, hI1, hB1⟩) | (go_at_call 13; refine Calls.mono (K1.out _ _ hI1) ?_; rintro e w2 ⟨rfl, hB2⟩; have hI2 := hI1.kept (grown_below (row := none) hB2) (by simp)) | (go_at_call 12; refine Calls.mono (K3.out _ _ hI2) ?_; rintro e w3 ⟨rfl, hI3, hG3⟩) | (go_at_call 13; refine Calls.mono (K2.out _ _ hI3) ?_; rintro e w4 ⟨rfl, hB4⟩))
  go_ret
  have z1 := hB1.size
  have z2 := hB2.size
  have z3 := hG3.size
  have z4 := hB4.size
  have b2 := below_then hB1 hB2
  have b3 := below_grown b2 hG3 (Nat.le_refl _) (by omega)
  have b4 := below_then b3 hB4
  exact ⟨rfl, b4.alloc (by omega) _⟩
end Go.Proofs.Ytopcokjfgldblaa
