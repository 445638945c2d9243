/-
  LAYER 15, WALK: the law's 'play'.
-/
import Derived.Test.YtopcokjfgldblaaPathO
import Derived.DeepKeys
import Derived.LaidEqlPtr
import Derived.Deep.RegionWith
import Derived.LoopTactic
set_option linter.unusedVariables false
set_option linter.unusedSimpArgs false
namespace Go.Proofs.Ytopcokjfgldblaa
open Go.RowKit

theorem way_stood : Try.prog.stoodInHeld 29 = false := by kernel_rfl
set_option maxHeartbeats 1000000 in
theorem eqw0 (W : World) (a0 a1 a2 a3 a4 a5 a6 : Int) (b7 b8 : Bool) (d : Nat) : (Op.equalIn (d + 1 + 1) 29 (.agg #[.int .i64 a0, .int .i64 a1, .int .i64 a2, .int .i64 a3, .int .i64 a4, .int .i64 a5, .int .i64 a6, .bool b7, .bool b8]) (.agg #[.int .i64 a0, .int .i64 a1, .int .i64 a2, .int .i64 a3, .int .i64 a4, .int .i64 a5, .int .i64 a6, .bool b7, .bool b8])).run Try.prog W = .ok true W := by
  have p0 : ∀ (W : World) (x0 x1 x2 x3 x4 x5 x6 x7 x8 : Value), (part 3 #[x0, x1, x2, x3, x4, x5, x6, x7, x8] 0).run Try.prog W = .ok x0 W := fun _ _ _ _ _ _ _ _ _ _  => by kernel_rfl
  have p1 : ∀ (W : World) (x0 x1 x2 x3 x4 x5 x6 x7 x8 : Value), (part 3 #[x0, x1, x2, x3, x4, x5, x6, x7, x8] 1).run Try.prog W = .ok x1 W := fun _ _ _ _ _ _ _ _ _ _  => by kernel_rfl
  have p2 : ∀ (W : World) (x0 x1 x2 x3 x4 x5 x6 x7 x8 : Value), (part 3 #[x0, x1, x2, x3, x4, x5, x6, x7, x8] 2).run Try.prog W = .ok x2 W := fun _ _ _ _ _ _ _ _ _ _  => by kernel_rfl
  have p3 : ∀ (W : World) (x0 x1 x2 x3 x4 x5 x6 x7 x8 : Value), (part 3 #[x0, x1, x2, x3, x4, x5, x6, x7, x8] 3).run Try.prog W = .ok x3 W := fun _ _ _ _ _ _ _ _ _ _  => by kernel_rfl
  have p4 : ∀ (W : World) (x0 x1 x2 x3 x4 x5 x6 x7 x8 : Value), (part 3 #[x0, x1, x2, x3, x4, x5, x6, x7, x8] 4).run Try.prog W = .ok x4 W := fun _ _ _ _ _ _ _ _ _ _  => by kernel_rfl
  have p5 : ∀ (W : World) (x0 x1 x2 x3 x4 x5 x6 x7 x8 : Value), (part 3 #[x0, x1, x2, x3, x4, x5, x6, x7, x8] 5).run Try.prog W = .ok x5 W := fun _ _ _ _ _ _ _ _ _ _  => by kernel_rfl
  have p6 : ∀ (W : World) (x0 x1 x2 x3 x4 x5 x6 x7 x8 : Value), (part 3 #[x0, x1, x2, x3, x4, x5, x6, x7, x8] 6).run Try.prog W = .ok x6 W := fun _ _ _ _ _ _ _ _ _ _  => by kernel_rfl
  have p7 : ∀ (W : World) (x0 x1 x2 x3 x4 x5 x6 x7 x8 : Value), (part 4 #[x0, x1, x2, x3, x4, x5, x6, x7, x8] 7).run Try.prog W = .ok x7 W := fun _ _ _ _ _ _ _ _ _ _  => by kernel_rfl
  have p8 : ∀ (W : World) (x0 x1 x2 x3 x4 x5 x6 x7 x8 : Value), (part 4 #[x0, x1, x2, x3, x4, x5, x6, x7, x8] 8).run Try.prog W = .ok x8 W := fun _ _ _ _ _ _ _ _ _ _  => by kernel_rfl
  have hi := fun (W : World) (a : Int) => run_equalIn_int (P := Try.prog) W d 3 .i64 .i64 a a Try.underlying3
  have hb := fun (W : World) (a : Bool) => run_equalIn_bool (P := Try.prog) W d 4 a a Try.underlying4
  simp only [beq_self_eq_true] at hi hb
  rw [Op.equalIn]
  simp [run_underlying Try.underlying29, way_stood, hi, hb, p0, p1, p2, p3, p4, p5, p6, p7, p8]
theorem neqw (W : World) (a0 a1 a2 a3 a4 a5 a6 : Int) (b7 b8 : Bool) : (binOp .neq 29 (.agg #[.int .i64 a0, .int .i64 a1, .int .i64 a2, .int .i64 a3, .int .i64 a4, .int .i64 a5, .int .i64 a6, .bool b7, .bool b8]) (.agg #[.int .i64 a0, .int .i64 a1, .int .i64 a2, .int .i64 a3, .int .i64 a4, .int .i64 a5, .int .i64 a6, .bool b7, .bool b8])).run Try.prog W = .ok (.bool false) W := by
  simp only [binOp]
  simp [Op.equal, Op.maxDepth, eqw0 W a0 a1 a2 a3 a4 a5 a6 b7 b8 9998]
theorem eqlw (W : World) (a0 a1 a2 a3 a4 a5 a6 : Int) (b7 b8 : Bool) : (binOp .eql 29 (.agg #[.int .i64 a0, .int .i64 a1, .int .i64 a2, .int .i64 a3, .int .i64 a4, .int .i64 a5, .int .i64 a6, .bool b7, .bool b8]) (.agg #[.int .i64 a0, .int .i64 a1, .int .i64 a2, .int .i64 a3, .int .i64 a4, .int .i64 a5, .int .i64 a6, .bool b7, .bool b8])).run Try.prog W = .ok (.bool true) W := by
  simp only [binOp]
  simp [Op.equal, Op.maxDepth, eqw0 W a0 a1 a2 a3 a4 a5 a6 b7 b8 9998]
attribute [local go_sem] fw0 fw1 fw2 fw3 fw4 fw5 fw6 fw7 fw8 neqw eqlw

/-- What 'play' has made: both ways, alike. -/
def Played (w : World) (e : Ending) (w' : World) : Prop :=
  ∃ (gy : Nat) (p : PR), e = .returned (.tuple #[.pointer (some ⟨w.heap.size, 0, none⟩), .pointer (some ⟨gy, 0, none⟩), .bool true]) ∧ w.heap.size < gy ∧ Pair w' w.heap.size gy w' p p ∧ p.Ok 200 ∧ Below w.heap.size w w'

theorem play_bad (mtu : Int) (hm : mtu < 64 ∨ 1500 < mtu) (hm0 : -9223372036854775808 ≤ mtu) (hm1 : mtu ≤ 9223372036854775807) (c la : Nat) (A : Option Addr) (w : World) :
    Calls Try.prog 20 #[.int .i64 mtu, .slice A la c] w fun e w' => e = .returned (.tuple #[.pointer none, .pointer none, .bool true]) ∧ Below w.heap.size w w' := by
  have K0 := hid fun W => new_bad mtu W hm
  have K1 := hid fun W => rnew_bad mtu W hm
  clear hm
  go_enter Try.func20, Try.ntmps20
  go_wp2_with (first | (go_at_call 11; refine Calls.mono (K0.out _) ?_; rintro e w1 ⟨rfl, rfl⟩) | (go_at_call 21; refine Calls.mono (K1.out _) ?_; rintro e w2 ⟨rfl, rfl⟩))
  go_loopw [11] (fun i wr => i = .int .i64 0 ∧ wr = w) (fun i _ => 0)
  case atStart => exact ⟨rfl, rfl⟩
  case round =>
    obtain ⟨rfl, rfl⟩ := hrel
    go_wp2
    go_ret3
    exact ⟨rfl, Below.refl _ _⟩

set_option maxHeartbeats 4000000 in
set_option maxRecDepth 100000 in
theorem play_calls (mtu : Int) (hm0 : 64 ≤ mtu) (hm1 : mtu ≤ 1500) (c la : Nat) (A : Option Addr) (ds : List DeedR) (hla : ds.length = la) (w : World) (hR : RdD w A ds) (hO : DeedsOk ds) (hca : la ≤ c) (hcm : c ≤ 9223372036854775807) :
    Calls Try.prog 20 #[.int .i64 mtu, .slice A la c] w (Played w) := by
  have HR := hid hR; clear hR
  have HO := hid hO; clear hO
  have HLA := hid hla; clear hla
  have K0 := hid fun W => new_calls mtu W hm0 hm1
  have K1 := hid fun W => rnew_calls mtu W hm0 hm1
  go_enter Try.func20, Try.ntmps20
  go_wp2_with (first | (go_at_call 11; refine Calls.mono (K0.out _) ?_; rintro e w1 ⟨rfl, hI1, hB1⟩) | (go_at_call 21; refine Calls.mono (K1.out _) ?_; rintro e w2 ⟨rfl, hI2, hB2⟩))
  clear K0 K1
  have hl1 := hI1.lt
  have hP0 : Pair w2 w.heap.size w1.heap.size w2 (newP mtu) (newP mtu) := ⟨hI1.kept (grown_below (row := none) hB2) (by simp), hI2, by omega, Grow2.refl _ _ _⟩
  have hZ1 := hB1.size
  have hZ2 := hB2.size
  have hB12 := hid (below_then hB1 hB2)
  have hG12 : Hid (∀ b o v, b < w.heap.size → w.cell? ⟨b, o, none⟩ = some v → w2.cell? ⟨b, o, none⟩ = some v) := fun b o v hb hc => (hB2.cell (p := ⟨b, o, none⟩) (by show b < _; omega)).trans ((hB1.cell (p := ⟨b, o, none⟩) (by exact hb)).trans hc)
  clear hI1 hI2 hB1 hB2
  go_loopw [11] (fun i wr => ∃ (k : Nat) (p : PR), k ≤ 200 ∧ k ≤ la ∧ i = .int .i64 k ∧ Pair wr w.heap.size w1.heap.size w2 p p ∧ p.Ok k) (fun i _ => 200 - (intOf i).toNat)
  case atStart => exact ⟨0, newP mtu, by omega, by omega, rfl, hP0, PR.Ok.new mtu (by omega) (by omega)⟩
  case round =>
    obtain ⟨k, p, hk, hkl, rfl, hP, ok⟩ := hrel
    clear hP0
    have hz := hP.grow.size
    by_cases hlt : k < la ∧ k < 200
    · obtain ⟨hl2, hl3⟩ := hlt
      have hl4 : (k : Int) < 200 := by omega
      have hl5 : (k : Int) < (la : Int) := by omega
      have hl6 : (0 : Int) ≤ (k : Int) := by omega
      obtain ⟨b1, o1, rfl, hb1, hcells⟩ := HR.out.at_ k (by rw [HLA.out]; omega)
      obtain ⟨d0, d1, d2, d3, d4⟩ := hcells wr (fun o' v hc => hP.cell (hG12.out _ _ _ hb1 hc) (by omega) (by omega))
      clear hcells
      have nx : b1 ≠ w.heap.size := by omega
      have ny : b1 ≠ w1.heap.size := by omega
      have n0 := HO.out k
      generalize ds.getD k default = D at *
      obtain ⟨dd, da, db, dm, dn⟩ := D
      simp only at d0 d1 d2 d3 d4 n0
      have hd := do_calls w.heap.size w1.heap.size p wr.drew k dd da db dm dn ok hP.drew.self
      have ok2 : (deedP dd da db dm dn p).Ok ((k + 1 : Nat) : Int) := by have := deed_ok (d := dd) (a := da) (b := db) (m := dm) ok (by omega) n0.1 n0.2; exact_mod_cast this
      have HD := hid hd
      clear hd ok n0
      generalize deedP dd da db dm dn p = p2 at *
      have OK2 := hid ok2
      clear ok2
      obtain ⟨win, slow, part, rto, mean, spread, faults, up, sure, mtu', meas, beat, nonce, since⟩ := p2
      have hB12' := hB12
      go_wp2_with fail
      obtain ⟨wo, rfl⟩ : ∃ wo : World, wo = wr := ⟨_, rfl⟩
      go_region_with (first | (go_at_call 22; refine Calls.mono HD.out ?_; rintro e w3 ⟨rfl, hP3⟩; obtain ⟨y0, y1, y2, y3, y4, y5, y6, y7, y8, y9, y10, y11, y12, y13, yf⟩ := hP3.y.facts) | (go_at_call 13; refine Calls.mono (stands_way _ _ _ hP3.x) ?_; rintro e w4 ⟨rfl, hB4⟩; have hP4 := hP3.below hB4; obtain ⟨z0, z1, z2, z3, z4, z5, z6, z7, z8, z9, z10, z11, z12, z13, zf⟩ := hP4.y.facts))
      all_goals
        go_wp2
        go_roundw
        case rel => exact ⟨k + 1, _, by omega, by omega, by go_num, hP4.rebase _ hP.grow.drew, OK2.out⟩
        case measure => simp [intOf]; omega
    · go_wp2
      all_goals
        go_ret3
        exact ⟨_, p, rfl, by omega, hP.self, ok.mono (by omega) (by omega), hB12.out.trans (hP.grow.below (by omega) (by omega) (by omega))⟩
end Go.Proofs.Ytopcokjfgldblaa
