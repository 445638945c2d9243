/-
  LAYER 15, WALK: PathNonces.
-/
import Derived.Test.YtopcokjfgldblaaPathS
import Derived.LoopTactic
set_option linter.unusedVariables false
set_option linter.unusedSimpArgs false
namespace Go.Proofs.Ytopcokjfgldblaa
open Go.RowKit

attribute [local go_sem] fw0 fw1 fw2 fw3 fw4 fw5 fw6 fw7 fw8 neqw eqlw

/-- The way p in block gx; since W0 nothing else has turned. -/
structure NS (w W0 : World) (gx : Nat) (p : PR) : Prop where
  x : IsP w gx 65 p
  g : W0.grownBy w (some gx)
theorem NS.self {w W0 : World} {gx : Nat} {p : PR} (h : NS w W0 gx p) : NS w w gx p := ⟨h.x, World.grownBy.refl _ _⟩
theorem NS.call {f : FuncId} {args : Array Value} {v : Value} {w W0 : World} {gx : Nat} {p q : PR} (h : NS w W0 gx p)
    (c : ∀ w, IsP w gx 65 p → Calls Try.prog f args w fun e w' => e = .returned v ∧ IsP w' gx 65 q ∧ w.grownBy w' (some gx)) : Calls Try.prog f args w fun e w' => e = .returned v ∧ NS w' W0 gx q :=
  (c w h.x).mono fun e w' ⟨he, hi, hg⟩ => ⟨he, hi, grown_trans h.g hg⟩
theorem NS.below {w w' W0 : World} {gx : Nat} {p : PR} (h : NS w W0 gx p) (hb : Below w.heap.size w w') : NS w' W0 gx p := ⟨h.x.below hb, grown_trans h.g (grown_below hb)⟩
theorem NS.alloc {w W0 : World} {gx : Nat} {p : PR} (h : NS w W0 gx p) (o : Obj) : NS (w.alloc o) W0 gx p := h.below ((Below.refl _ _).alloc (Nat.le_refl _) _)
theorem NS.drew {w W0 : World} {gx : Nat} {p : PR} (h : NS w W0 gx p) : NS w.drew W0 gx p := ⟨h.x, grown_drew h.g⟩
theorem NS.drewN {w W0 : World} {gx : Nat} {p : PR} (h : NS w W0 gx p) (n : Nat) : NS (w.drewN n) W0 gx p := ⟨h.x, grown_drewN h.g n⟩
theorem NS.cell {w W0 : World} {gx : Nat} {p : PR} (h : NS w W0 gx p) {b o : Nat} {v : Value} (hc : W0.cell? ⟨b, o, none⟩ = some v) (hne : b ≠ gx) : w.cell? ⟨b, o, none⟩ = some v := h.g.cell hc (by simp; omega)
theorem NS.stands {w W0 : World} {gx : Nat} {p : PR} (h : NS w W0 gx p) : Calls Try.prog 13 #[.pointer (some ⟨gx, 0, none⟩)] w fun e w' => e = .returned (.agg #[.int .i64 p.win, .int .i64 p.slow, .int .i64 p.part, .int .i64 p.rto, .int .i64 p.mean, .int .i64 p.spread, .int .i64 p.faults, .bool p.up, .bool p.sure]) ∧ NS w' W0 gx p :=
  (stands_way gx p w h.x).mono fun e w' ⟨he, hb⟩ => ⟨he, h.below hb⟩
theorem NS.stands2 {w W0 : World} {gx : Nat} {p2 : PR} (h : NS w W0 gx p2) (h6 : p2.faults = 0) (h7 : p2.up = true) (h8 : p2.sure = true) : Calls Try.prog 13 #[.pointer (some ⟨gx, 0, none⟩)] w fun e w' => e = .returned (.agg #[.int .i64 p2.win, .int .i64 p2.slow, .int .i64 p2.part, .int .i64 p2.rto, .int .i64 p2.mean, .int .i64 p2.spread, .int .i64 0, .bool true, .bool true]) ∧ NS w' W0 gx p2 :=
  (h.stands).mono fun e w' ⟨he, hb⟩ => ⟨by rw [he, h6, h7, h8], hb⟩
theorem NS.live {w W0 : World} {gx : Nat} {p : PR} (h : NS w W0 gx p) : Calls Try.prog 14 #[] w fun e w' => e = .returned (.bool true) ∧ NS w' W0 gx p :=
  (live_calls w).mono fun e w' ⟨he, hb⟩ => ⟨he, h.below hb⟩
def Played2 (w : World) (e : Ending) (w' : World) : Prop :=
  ∃ (gx gy : Nat) (p : PR), e = .returned (.tuple #[.pointer (some ⟨gx, 0, none⟩), .pointer (some ⟨gy, 0, none⟩), .bool true]) ∧ w.heap.size ≤ gx ∧ NS w' w gx p ∧ p.Ok 200 ∧ Below w.heap.size w w'
theorem Played.two {w w' : World} {e : Ending} (h : Played w e w') : Played2 w e w' := by
  obtain ⟨gy, p, he, hl, hP, ok, hB⟩ := h
  exact ⟨_, gy, p, he, Nat.le_refl _, ⟨hP.x, grown_below hB⟩, ok, hB⟩

set_option maxHeartbeats 8000000 in
set_option maxRecDepth 100000 in
theorem nonces_0 (c la : Nat) (A : Option Addr) (ds : List DeedR) (hla : ds.length = la) (w : World) (hR : RdD w A ds) (hO : DeedsOk ds) (hca : la ≤ c) (hcm : c ≤ 9223372036854775807) (n0 n1 t0 t1 : Int) (a0 : 0 ≤ n0) (a1 : n0 ≤ 18446744073709551615) (a2 : 0 ≤ n1) (a3 : n1 ≤ 18446744073709551615) (ne : ¬ n1 = n0) (b0 : 0 < t0) (b1 : t0 ≤ 4294967295) (b2 : 0 ≤ t1) (b3 : t1 ≤ 4294967295) :
    Calls Try.prog 8 #[.slice A la c, .agg #[.int .u64 n0, .int .u64 n1], .agg #[.int .u32 t0, .int .u32 t1]] w fun e w' => e = .returned (.bool true) ∧ Below w.heap.size w w' := by
  have HBW : Hid (Below w.heap.size w ((w.alloc (.cells #[.int .u64 n0, .int .u64 n1] 52)).alloc (.cells #[.int .u32 t0, .int .u32 t1] 54))) := hid (((Below.refl _ _).alloc (Nat.le_refl _) _).alloc (by simp) _)
  have hRW : RdD ((w.alloc (.cells #[.int .u64 n0, .int .u64 n1] 52)).alloc (.cells #[.int .u32 t0, .int .u32 t1] 54)) A ds := fun j hj => by
    obtain ⟨b, o, e, hb, x0, x1, x2, x3, x4⟩ := hR j hj
    have hz := HBW.out.size
    exact ⟨b, o, e, by omega, (HBW.out.cell (p := ⟨b, _, none⟩) (by exact hb)).trans x0, (HBW.out.cell (p := ⟨b, _, none⟩) (by exact hb)).trans x1, (HBW.out.cell (p := ⟨b, _, none⟩) (by exact hb)).trans x2, (HBW.out.cell (p := ⟨b, _, none⟩) (by exact hb)).trans x3, (HBW.out.cell (p := ⟨b, _, none⟩) (by exact hb)).trans x4⟩
  have K := hid ((play_calls 500 (by decide) (by decide) c la A ds hla ((w.alloc (.cells #[.int .u64 n0, .int .u64 n1] 52)).alloc (.cells #[.int .u32 t0, .int .u32 t1] 54)) hRW hO hca hcm).mono fun e w' h => h.two)
  have X0 : Hid (((w.alloc (.cells #[.int .u64 n0, .int .u64 n1] 52)).alloc (.cells #[.int .u32 t0, .int .u32 t1] 54)).cell? ⟨w.heap.size, 0, none⟩ = some (.int .u64 n0)) := (World.cell?_of_block (heap_alloc_old _ _ (by simp))).trans (cellOf (heap_alloc_new _ _) rfl)
  have X1 : Hid (((w.alloc (.cells #[.int .u64 n0, .int .u64 n1] 52)).alloc (.cells #[.int .u32 t0, .int .u32 t1] 54)).cell? ⟨w.heap.size, 1, none⟩ = some (.int .u64 n1)) := (World.cell?_of_block (heap_alloc_old _ _ (by simp))).trans (cellOf (heap_alloc_new _ _) rfl)
  have X2 : Hid (((w.alloc (.cells #[.int .u64 n0, .int .u64 n1] 52)).alloc (.cells #[.int .u32 t0, .int .u32 t1] 54)).cell? ⟨w.heap.size + 1, 0, none⟩ = some (.int .u32 t0)) := cellOf (heap_alloc2_new _ _ _) rfl
  have X3 : Hid (((w.alloc (.cells #[.int .u64 n0, .int .u64 n1] 52)).alloc (.cells #[.int .u32 t0, .int .u32 t1] 54)).cell? ⟨w.heap.size + 1, 1, none⟩ = some (.int .u32 t1)) := cellOf (heap_alloc2_new _ _ _) rfl
  have hWs : ((w.alloc (.cells #[.int .u64 n0, .int .u64 n1] 52)).alloc (.cells #[.int .u32 t0, .int .u32 t1] 54)).heap.size = w.heap.size + 2 := by simp
  have HWS := hid hWs
  clear hR hO hla hRW hWs
  go_enter Try.func8, Try.ntmps8
  go_wp2_with (go_at_call 20; refine Calls.mono K.out ?_; rintro e w1 ⟨gx, gy, p, rfl, hgx, hN, ok, hB1⟩)
  clear K
  have hgx' : w.heap.size + 2 ≤ gx := by rw [HWS.out] at hgx; exact hgx
  have x0 := hN.cell X0.out (by omega)
  have x1 := hN.cell X1.out (by omega)
  have x2 := hN.cell X2.out (by omega)
  have x3 := hN.cell X3.out (by omega)
  have BW := hid (HBW.out.trans (hB1.mono (by rw [HWS.out]; omega)))
  have hz1 : w.heap.size + 2 ≤ w1.heap.size := by have := hB1.size; rw [HWS.out] at this; exact this
  clear HBW X0 X1 X2 X3 HWS hB1 hgx
  have hN1 := hN.self
  clear hN
  obtain ⟨p1, HP1⟩ : ∃ p1, Hid (p1 = beatP n0 t0 p) := ⟨_, hid rfl⟩
  have ok1 : p1.Ok 200 := by rw [HP1.out]; exact ok.beat n0 t0 a0 a1 (by omega) (by omega)
  have kB : ∀ W, IsP W gx 65 p → Calls Try.prog 23 #[.pointer (some ⟨gx, 0, none⟩), .int .u64 n0, .int .i64 t0] W fun e w' => e = .returned (.int .i64 0) ∧ IsP w' gx 65 p1 ∧ W.grownBy w' (some gx) := fun W h => by rw [HP1.out]; exact beat_calls gx p W n0 t0 h (by omega) (by omega)
  have kA1 : ∀ W, IsP W gx 65 p1 → Calls Try.prog 24 #[.pointer (some ⟨gx, 0, none⟩), .int .u64 n1, .int .i64 (t0 + t1)] W fun e w' => e = .returned (.tuple #[.bool false, .int .i64 0]) ∧ IsP w' gx 65 p1 ∧ W.grownBy w' (some gx) := fun W h => by
    have hb : answB n1 (t0 + t1) p1 = false := by rw [HP1.out]; simp [answB, beatP, ne]
    have := answ_calls gx p1 W 200 ok1 h n1 (t0 + t1) (by omega) (by omega)
    rw [hb, show answP n1 (t0 + t1) p1 = p1 by unfold answP; rw [hb]; rfl] at this
    exact this
  have KA1 := hid kA1; clear kA1
  have kA2 : ∀ W, IsP W gx 65 p1 → Calls Try.prog 24 #[.pointer (some ⟨gx, 0, none⟩), .int .u64 n0, .int .i64 (t0 - 1)] W fun e w' => e = .returned (.tuple #[.bool false, .int .i64 0]) ∧ IsP w' gx 65 p1 ∧ W.grownBy w' (some gx) := fun W h => by
    have hb : answB n0 (t0 - 1) p1 = false := by rw [HP1.out]; show (true && decide (n0 = n0) && decide (t0 ≤ t0 - 1)) = false; simp; omega
    have := answ_calls gx p1 W 200 ok1 h n0 (t0 - 1) (by omega) (by omega)
    rw [hb, show answP n0 (t0 - 1) p1 = p1 by unfold answP; rw [hb]; rfl] at this
    exact this
  have KA2 := hid kA2; clear kA2
  obtain ⟨p2, HP2⟩ : ∃ p2, Hid (p2 = answP n0 (t0 + t1) p1) := ⟨_, hid rfl⟩
  have hbt : answB n0 (t0 + t1) p1 = true := by rw [HP1.out]; show (true && decide (n0 = n0) && decide (t0 ≤ (t0 + t1))) = true; simp; omega
  have hp2 : p2 = sampP ((t0 + t1) - p1.since) (goodP { p1 with beat := false, sure := true }) := by rw [HP2.out]; unfold answP; rw [hbt]; rfl
  have ok2 : p2.Ok 200 := by rw [HP2.out]; exact ok1.answ n0 (t0 + t1)
  have q6 : Hid (p2.faults = 0) := by rw [hp2]; exact rfl
  have q7 : Hid (p2.up = true) := by rw [hp2]; exact rfl
  have q8 : Hid (p2.sure = true) := by rw [hp2]; exact rfl
  have kA3 : ∀ W, IsP W gx 65 p1 → Calls Try.prog 24 #[.pointer (some ⟨gx, 0, none⟩), .int .u64 n0, .int .i64 (t0 + t1)] W fun e w' => e = .returned (.tuple #[.bool true, .int .i64 0]) ∧ IsP w' gx 65 p2 ∧ W.grownBy w' (some gx) := fun W h => by
    have := answ_calls gx p1 W 200 ok1 h n0 (t0 + t1) (by omega) (by omega)
    rw [hbt, ← HP2.out] at this
    exact this
  have kA4 : ∀ W, IsP W gx 65 p2 → Calls Try.prog 24 #[.pointer (some ⟨gx, 0, none⟩), .int .u64 n0, .int .i64 (t0 + t1)] W fun e w' => e = .returned (.tuple #[.bool false, .int .i64 0]) ∧ IsP w' gx 65 p2 ∧ W.grownBy w' (some gx) := fun W h => by
    have hb : answB n0 (t0 + t1) p2 = false := by rw [hp2]; simp [answB, sampP, goodP]
    have := answ_calls gx p2 W 200 ok2 h n0 (t0 + t1) (by omega) (by omega)
    rw [hb, show answP n0 (t0 + t1) p2 = p2 by unfold answP; rw [hb]; rfl] at this
    exact this
  have KB := hid kB; have KA3 := hid kA3; have KA4 := hid kA4
  clear kB kA3 kA4 hbt hp2 HP1 HP2 ok ok1 ok2
  go_quiet (fail)
  go_upto_region 8 with (first | (go_at_call 23; refine Calls.mono ((hN1.drewN nq).call KB.out) ?_; rintro e w2 ⟨rfl, hN2⟩) | (go_at_call 13; refine Calls.mono hN2.stands ?_; rintro e w3 ⟨rfl, hN3⟩))
  have y0 := hN3.cell x0 (by omega)
  have y1 := hN3.cell x1 (by omega)
  have hz3 := hN3.g.size
  have hgx3 : gx < w3.heap.size := hN3.x.lt
  have hlt0 : w.heap.size < w3.heap.size := by omega
  have v0 : (w3.alloc (.cells #[.int .i64 p1.win, .int .i64 p1.slow, .int .i64 p1.part, .int .i64 p1.rto, .int .i64 p1.mean, .int .i64 p1.spread, .int .i64 p1.faults, .bool p1.up, .bool p1.sure] 29)).cell? ⟨w.heap.size, 0, none⟩ = some (.int .u64 n0) := (World.cell?_of_block (heap_alloc_old _ _ hlt0)).trans y0
  have v1 : (w3.alloc (.cells #[.int .i64 p1.win, .int .i64 p1.slow, .int .i64 p1.part, .int .i64 p1.rto, .int .i64 p1.mean, .int .i64 p1.spread, .int .i64 p1.faults, .bool p1.up, .bool p1.sure] 29)).cell? ⟨w.heap.size, 1, none⟩ = some (.int .u64 n1) := (World.cell?_of_block (heap_alloc_old _ _ hlt0)).trans y1
  have hN4 : NS (w3.alloc (.cells #[.int .i64 p1.win, .int .i64 p1.slow, .int .i64 p1.part, .int .i64 p1.rto, .int .i64 p1.mean, .int .i64 p1.spread, .int .i64 p1.faults, .bool p1.up, .bool p1.sure] 29)) (w3.alloc (.cells #[.int .i64 p1.win, .int .i64 p1.slow, .int .i64 p1.part, .int .i64 p1.rto, .int .i64 p1.mean, .int .i64 p1.spread, .int .i64 p1.faults, .bool p1.up, .bool p1.sure] 29)) gx p1 := (hN3.alloc _).self
  have hZ : Hid ((w3.alloc (.cells #[.int .i64 p1.win, .int .i64 p1.slow, .int .i64 p1.part, .int .i64 p1.rto, .int .i64 p1.mean, .int .i64 p1.spread, .int .i64 p1.faults, .bool p1.up, .bool p1.sure] 29)).heap[w3.heap.size]? = some (.cells #[.int .i64 p1.win, .int .i64 p1.slow, .int .i64 p1.part, .int .i64 p1.rto, .int .i64 p1.mean, .int .i64 p1.spread, .int .i64 p1.faults, .bool p1.up, .bool p1.sure] 29)) := hid (heap_alloc_new _ _)
  have hB4 : Hid (Below w.heap.size w (w3.alloc (.cells #[.int .i64 p1.win, .int .i64 p1.slow, .int .i64 p1.part, .int .i64 p1.rto, .int .i64 p1.mean, .int .i64 p1.spread, .int .i64 p1.faults, .bool p1.up, .bool p1.sure] 29))) := hid (below_grown (BW.out) (hN3.alloc _).g (by omega) (by omega))
  have hB4s : w3.heap.size < (w3.alloc (.cells #[.int .i64 p1.win, .int .i64 p1.slow, .int .i64 p1.part, .int .i64 p1.rto, .int .i64 p1.mean, .int .i64 p1.spread, .int .i64 p1.faults, .bool p1.up, .bool p1.sure] 29)).heap.size := by simp
  generalize w3.alloc (.cells #[.int .i64 p1.win, .int .i64 p1.slow, .int .i64 p1.part, .int .i64 p1.rto, .int .i64 p1.mean, .int .i64 p1.spread, .int .i64 p1.faults, .bool p1.up, .bool p1.sure] 29) = W4 at *
  generalize hBB : w3.heap.size = B at *
  clear hBB
  have z0 : W4.cell? ⟨B, 0, none⟩ = some (.int .i64 p1.win) := cellOf hZ.out rfl
  have z1 : W4.cell? ⟨B, 1, none⟩ = some (.int .i64 p1.slow) := cellOf hZ.out rfl
  have z2 : W4.cell? ⟨B, 2, none⟩ = some (.int .i64 p1.part) := cellOf hZ.out rfl
  have z3 : W4.cell? ⟨B, 3, none⟩ = some (.int .i64 p1.rto) := cellOf hZ.out rfl
  have z4 : W4.cell? ⟨B, 4, none⟩ = some (.int .i64 p1.mean) := cellOf hZ.out rfl
  have z5 : W4.cell? ⟨B, 5, none⟩ = some (.int .i64 p1.spread) := cellOf hZ.out rfl
  have z6 : W4.cell? ⟨B, 6, none⟩ = some (.int .i64 p1.faults) := cellOf hZ.out rfl
  have z7 : W4.cell? ⟨B, 7, none⟩ = some (.bool p1.up) := cellOf hZ.out rfl
  have z8 : W4.cell? ⟨B, 8, none⟩ = some (.bool p1.sure) := cellOf hZ.out rfl
  have hneB : B ≠ gx := by omega
  clear hN1 hN2 hN3 x0 x1 x2 x3 y0 y1 BW KB
  go_wp2_with (go_at_call 24; refine Calls.mono (hN4.call KA1.out) ?_; rintro e w5 ⟨rfl, hN5⟩; have u0 := hN5.cell v0 (by omega); have u1 := hN5.cell v1 (by omega))
  have r0 := hN5.drew.cell z0 hneB
  have r1 := hN5.drew.cell z1 hneB
  have r2 := hN5.drew.cell z2 hneB
  have r3 := hN5.drew.cell z3 hneB
  have r4 := hN5.drew.cell z4 hneB
  have r5 := hN5.drew.cell z5 hneB
  have r6 := hN5.drew.cell z6 hneB
  have r7 := hN5.drew.cell z7 hneB
  have r8 := hN5.drew.cell z8 hneB
  obtain ⟨wo5, rfl⟩ : ∃ wo : World, wo = w5 := ⟨_, rfl⟩
  go_region_held3 (fun w' => w'.cell? ⟨B, 0, none⟩ = some (.int .i64 p1.win) ∧ w'.cell? ⟨B, 1, none⟩ = some (.int .i64 p1.slow) ∧ w'.cell? ⟨B, 2, none⟩ = some (.int .i64 p1.part) ∧ w'.cell? ⟨B, 3, none⟩ = some (.int .i64 p1.rto) ∧ w'.cell? ⟨B, 4, none⟩ = some (.int .i64 p1.mean) ∧ w'.cell? ⟨B, 5, none⟩ = some (.int .i64 p1.spread) ∧ w'.cell? ⟨B, 6, none⟩ = some (.int .i64 p1.faults) ∧ w'.cell? ⟨B, 7, none⟩ = some (.bool p1.up) ∧ w'.cell? ⟨B, 8, none⟩ = some (.bool p1.sure)) (refine ⟨?_, ?_, ?_, ?_, ?_, ?_, ?_, ?_, ?_⟩ <;> assumption) (first | (go_at_call 13; refine Calls.mono hN5.drew.stands ?_; rintro e w6 ⟨rfl, hN6⟩; have s0 := hN6.cell z0 hneB; have s1 := hN6.cell z1 hneB; have s2 := hN6.cell z2 hneB; have s3 := hN6.cell z3 hneB; have s4 := hN6.cell z4 hneB; have s5 := hN6.cell z5 hneB; have s6 := hN6.cell z6 hneB; have s7 := hN6.cell z7 hneB; have s8 := hN6.cell z8 hneB; have t0' := hN6.cell v0 (by omega); have t1' := hN6.cell v1 (by omega)))
  go_wp2_with (go_at_call 24; refine Calls.mono (hN6.call KA2.out) ?_; rintro e w7 ⟨rfl, hN7⟩; have u0 := hN7.cell v0 (by omega); have u1 := hN7.cell v1 (by omega))
  have r0 := hN7.drew.cell z0 hneB
  have r1 := hN7.drew.cell z1 hneB
  have r2 := hN7.drew.cell z2 hneB
  have r3 := hN7.drew.cell z3 hneB
  have r4 := hN7.drew.cell z4 hneB
  have r5 := hN7.drew.cell z5 hneB
  have r6 := hN7.drew.cell z6 hneB
  have r7 := hN7.drew.cell z7 hneB
  have r8 := hN7.drew.cell z8 hneB
  obtain ⟨wo7, rfl⟩ : ∃ wo : World, wo = w7 := ⟨_, rfl⟩
  go_region_held3 (fun w' => w'.cell? ⟨B, 0, none⟩ = some (.int .i64 p1.win) ∧ w'.cell? ⟨B, 1, none⟩ = some (.int .i64 p1.slow) ∧ w'.cell? ⟨B, 2, none⟩ = some (.int .i64 p1.part) ∧ w'.cell? ⟨B, 3, none⟩ = some (.int .i64 p1.rto) ∧ w'.cell? ⟨B, 4, none⟩ = some (.int .i64 p1.mean) ∧ w'.cell? ⟨B, 5, none⟩ = some (.int .i64 p1.spread) ∧ w'.cell? ⟨B, 6, none⟩ = some (.int .i64 p1.faults) ∧ w'.cell? ⟨B, 7, none⟩ = some (.bool p1.up) ∧ w'.cell? ⟨B, 8, none⟩ = some (.bool p1.sure)) (refine ⟨?_, ?_, ?_, ?_, ?_, ?_, ?_, ?_, ?_⟩ <;> assumption) (first | (go_at_call 13; refine Calls.mono hN7.drew.stands ?_; rintro e w8 ⟨rfl, hN8⟩; have s0 := hN8.cell z0 hneB; have s1 := hN8.cell z1 hneB; have s2 := hN8.cell z2 hneB; have s3 := hN8.cell z3 hneB; have s4 := hN8.cell z4 hneB; have s5 := hN8.cell z5 hneB; have s6 := hN8.cell z6 hneB; have s7 := hN8.cell z7 hneB; have s8 := hN8.cell z8 hneB; have t0' := hN8.cell v0 (by omega); have t1' := hN8.cell v1 (by omega)))
  go_upto_region 18 with (first | (go_at_call 24; refine Calls.mono (hN8.call KA3.out) ?_; rintro e w9 ⟨rfl, hN9⟩) | (go_at_call 13; refine Calls.mono (hN9.stands2 q6.out q7.out q8.out) ?_; rintro e w10 ⟨rfl, hN10⟩))
  have y0 := hN10.cell v0 (by omega)
  have hzz := hN10.g.size
  have hgx5 : gx < w10.heap.size := hN10.x.lt
  have hlt5 : w.heap.size < w10.heap.size := by omega
  have o0 : (w10.alloc (.cells #[.int .i64 p2.win, .int .i64 p2.slow, .int .i64 p2.part, .int .i64 p2.rto, .int .i64 p2.mean, .int .i64 p2.spread, .int .i64 0, .bool true, .bool true] 29)).cell? ⟨w.heap.size, 0, none⟩ = some (.int .u64 n0) := (World.cell?_of_block (heap_alloc_old _ _ hlt5)).trans y0
  have hM : NS (w10.alloc (.cells #[.int .i64 p2.win, .int .i64 p2.slow, .int .i64 p2.part, .int .i64 p2.rto, .int .i64 p2.mean, .int .i64 p2.spread, .int .i64 0, .bool true, .bool true] 29)) (w10.alloc (.cells #[.int .i64 p2.win, .int .i64 p2.slow, .int .i64 p2.part, .int .i64 p2.rto, .int .i64 p2.mean, .int .i64 p2.spread, .int .i64 0, .bool true, .bool true] 29)) gx p2 := (hN10.alloc _).self
  have hY : Hid ((w10.alloc (.cells #[.int .i64 p2.win, .int .i64 p2.slow, .int .i64 p2.part, .int .i64 p2.rto, .int .i64 p2.mean, .int .i64 p2.spread, .int .i64 0, .bool true, .bool true] 29)).heap[w10.heap.size]? = some (.cells #[.int .i64 p2.win, .int .i64 p2.slow, .int .i64 p2.part, .int .i64 p2.rto, .int .i64 p2.mean, .int .i64 p2.spread, .int .i64 0, .bool true, .bool true] 29)) := hid (heap_alloc_new _ _)
  have hB5 : Hid (Below w.heap.size w (w10.alloc (.cells #[.int .i64 p2.win, .int .i64 p2.slow, .int .i64 p2.part, .int .i64 p2.rto, .int .i64 p2.mean, .int .i64 p2.spread, .int .i64 0, .bool true, .bool true] 29))) := hid (below_grown hB4.out (hN10.alloc _).g (by omega) (by omega))
  have hB5s : w10.heap.size < (w10.alloc (.cells #[.int .i64 p2.win, .int .i64 p2.slow, .int .i64 p2.part, .int .i64 p2.rto, .int .i64 p2.mean, .int .i64 p2.spread, .int .i64 0, .bool true, .bool true] 29)).heap.size := by simp
  generalize w10.alloc (.cells #[.int .i64 p2.win, .int .i64 p2.slow, .int .i64 p2.part, .int .i64 p2.rto, .int .i64 p2.mean, .int .i64 p2.spread, .int .i64 0, .bool true, .bool true] 29) = W5 at *
  generalize hDD : w10.heap.size = D at *
  clear hDD
  have hneD : D ≠ gx := by omega
  have hgW5 : w.heap.size ≤ W5.heap.size := by omega
  have c0 : W5.cell? ⟨D, 0, none⟩ = some (.int .i64 p2.win) := cellOf hY.out rfl
  have c1 : W5.cell? ⟨D, 1, none⟩ = some (.int .i64 p2.slow) := cellOf hY.out rfl
  have c2 : W5.cell? ⟨D, 2, none⟩ = some (.int .i64 p2.part) := cellOf hY.out rfl
  have c3 : W5.cell? ⟨D, 3, none⟩ = some (.int .i64 p2.rto) := cellOf hY.out rfl
  have c4 : W5.cell? ⟨D, 4, none⟩ = some (.int .i64 p2.mean) := cellOf hY.out rfl
  have c5 : W5.cell? ⟨D, 5, none⟩ = some (.int .i64 p2.spread) := cellOf hY.out rfl
  have c6 : W5.cell? ⟨D, 6, none⟩ = some (.int .i64 0) := cellOf hY.out rfl
  have c7 : W5.cell? ⟨D, 7, none⟩ = some (.bool true) := cellOf hY.out rfl
  have c8 : W5.cell? ⟨D, 8, none⟩ = some (.bool true) := cellOf hY.out rfl
  clear z0 z1 z2 z3 z4 z5 z6 z7 z8 v0 v1 y0
  go_upto_region 19 with (go_at_call 24; refine Calls.mono (hM.call KA4.out) ?_; rintro e w20 ⟨rfl, hN20⟩)
  have r0 := hN20.drew.cell c0 hneD
  have r1 := hN20.drew.cell c1 hneD
  have r2 := hN20.drew.cell c2 hneD
  have r3 := hN20.drew.cell c3 hneD
  have r4 := hN20.drew.cell c4 hneD
  have r5 := hN20.drew.cell c5 hneD
  have r6 := hN20.drew.cell c6 hneD
  have r7 := hN20.drew.cell c7 hneD
  have r8 := hN20.drew.cell c8 hneD
  obtain ⟨wo20, rfl⟩ : ∃ wo : World, wo = w20 := ⟨_, rfl⟩
  go_region_held3 (fun w' => w'.cell? ⟨D, 0, none⟩ = some (.int .i64 p2.win) ∧ w'.cell? ⟨D, 1, none⟩ = some (.int .i64 p2.slow) ∧ w'.cell? ⟨D, 2, none⟩ = some (.int .i64 p2.part) ∧ w'.cell? ⟨D, 3, none⟩ = some (.int .i64 p2.rto) ∧ w'.cell? ⟨D, 4, none⟩ = some (.int .i64 p2.mean) ∧ w'.cell? ⟨D, 5, none⟩ = some (.int .i64 p2.spread) ∧ w'.cell? ⟨D, 6, none⟩ = some (.int .i64 0) ∧ w'.cell? ⟨D, 7, none⟩ = some (.bool true) ∧ w'.cell? ⟨D, 8, none⟩ = some (.bool true)) (refine ⟨?_, ?_, ?_, ?_, ?_, ?_, ?_, ?_, ?_⟩ <;> assumption) (first | (go_at_call 14; refine Calls.mono hN20.drew.live ?_; rintro e w21 ⟨rfl, hN21⟩; have s0 := hN21.cell c0 hneD; have s1 := hN21.cell c1 hneD; have s2 := hN21.cell c2 hneD; have s3 := hN21.cell c3 hneD; have s4 := hN21.cell c4 hneD; have s5 := hN21.cell c5 hneD; have s6 := hN21.cell c6 hneD; have s7 := hN21.cell c7 hneD; have s8 := hN21.cell c8 hneD) | (go_at_call 13; refine Calls.mono (hN21.stands2 q6.out q7.out q8.out) ?_; rintro e w22 ⟨rfl, hN22⟩; have t0' := hN22.cell c0 hneD; have t1' := hN22.cell c1 hneD; have t2' := hN22.cell c2 hneD; have t3' := hN22.cell c3 hneD; have t4' := hN22.cell c4 hneD; have t5' := hN22.cell c5 hneD; have t6' := hN22.cell c6 hneD; have t7' := hN22.cell c7 hneD; have t8' := hN22.cell c8 hneD))
  all_goals
    go_wp2
    go_ret
    exact ⟨rfl, below_grown hB5.out hN22.g (by omega) hgW5⟩

set_option maxHeartbeats 8000000 in
set_option maxRecDepth 100000 in
theorem nonces_1 (c la : Nat) (A : Option Addr) (ds : List DeedR) (hla : ds.length = la) (w : World) (hR : RdD w A ds) (hO : DeedsOk ds) (hca : la ≤ c) (hcm : c ≤ 9223372036854775807) (n0 n1 t1 : Int) (a0 : 0 ≤ n0) (a1 : n0 ≤ 18446744073709551615) (a2 : 0 ≤ n1) (a3 : n1 ≤ 18446744073709551615) (ne : ¬ n1 = n0) (b2 : 0 ≤ t1) (b3 : t1 ≤ 4294967295) :
    Calls Try.prog 8 #[.slice A la c, .agg #[.int .u64 n0, .int .u64 n1], .agg #[.int .u32 0, .int .u32 t1]] w fun e w' => e = .returned (.bool true) ∧ Below w.heap.size w w' := by
  have HBW : Hid (Below w.heap.size w ((w.alloc (.cells #[.int .u64 n0, .int .u64 n1] 52)).alloc (.cells #[.int .u32 0, .int .u32 t1] 54))) := hid (((Below.refl _ _).alloc (Nat.le_refl _) _).alloc (by simp) _)
  have hRW : RdD ((w.alloc (.cells #[.int .u64 n0, .int .u64 n1] 52)).alloc (.cells #[.int .u32 0, .int .u32 t1] 54)) A ds := fun j hj => by
    obtain ⟨b, o, e, hb, x0, x1, x2, x3, x4⟩ := hR j hj
    have hz := HBW.out.size
    exact ⟨b, o, e, by omega, (HBW.out.cell (p := ⟨b, _, none⟩) (by exact hb)).trans x0, (HBW.out.cell (p := ⟨b, _, none⟩) (by exact hb)).trans x1, (HBW.out.cell (p := ⟨b, _, none⟩) (by exact hb)).trans x2, (HBW.out.cell (p := ⟨b, _, none⟩) (by exact hb)).trans x3, (HBW.out.cell (p := ⟨b, _, none⟩) (by exact hb)).trans x4⟩
  have K := hid ((play_calls 500 (by decide) (by decide) c la A ds hla ((w.alloc (.cells #[.int .u64 n0, .int .u64 n1] 52)).alloc (.cells #[.int .u32 0, .int .u32 t1] 54)) hRW hO hca hcm).mono fun e w' h => h.two)
  have X0 : Hid (((w.alloc (.cells #[.int .u64 n0, .int .u64 n1] 52)).alloc (.cells #[.int .u32 0, .int .u32 t1] 54)).cell? ⟨w.heap.size, 0, none⟩ = some (.int .u64 n0)) := (World.cell?_of_block (heap_alloc_old _ _ (by simp))).trans (cellOf (heap_alloc_new _ _) rfl)
  have X1 : Hid (((w.alloc (.cells #[.int .u64 n0, .int .u64 n1] 52)).alloc (.cells #[.int .u32 0, .int .u32 t1] 54)).cell? ⟨w.heap.size, 1, none⟩ = some (.int .u64 n1)) := (World.cell?_of_block (heap_alloc_old _ _ (by simp))).trans (cellOf (heap_alloc_new _ _) rfl)
  have X2 : Hid (((w.alloc (.cells #[.int .u64 n0, .int .u64 n1] 52)).alloc (.cells #[.int .u32 0, .int .u32 t1] 54)).cell? ⟨w.heap.size + 1, 0, none⟩ = some (.int .u32 0)) := cellOf (heap_alloc2_new _ _ _) rfl
  have X3 : Hid (((w.alloc (.cells #[.int .u64 n0, .int .u64 n1] 52)).alloc (.cells #[.int .u32 0, .int .u32 t1] 54)).cell? ⟨w.heap.size + 1, 1, none⟩ = some (.int .u32 t1)) := cellOf (heap_alloc2_new _ _ _) rfl
  have hWs : ((w.alloc (.cells #[.int .u64 n0, .int .u64 n1] 52)).alloc (.cells #[.int .u32 0, .int .u32 t1] 54)).heap.size = w.heap.size + 2 := by simp
  have HWS := hid hWs
  clear hR hO hla hRW hWs
  go_enter Try.func8, Try.ntmps8
  go_wp2_with (go_at_call 20; refine Calls.mono K.out ?_; rintro e w1 ⟨gx, gy, p, rfl, hgx, hN, ok, hB1⟩)
  clear K
  have hgx' : w.heap.size + 2 ≤ gx := by rw [HWS.out] at hgx; exact hgx
  have x0 := hN.cell X0.out (by omega)
  have x1 := hN.cell X1.out (by omega)
  have x2 := hN.cell X2.out (by omega)
  have x3 := hN.cell X3.out (by omega)
  have BW := hid (HBW.out.trans (hB1.mono (by rw [HWS.out]; omega)))
  have hz1 : w.heap.size + 2 ≤ w1.heap.size := by have := hB1.size; rw [HWS.out] at this; exact this
  clear HBW X0 X1 X2 X3 HWS hB1 hgx
  have hN1 := hN.self
  clear hN
  obtain ⟨p1, HP1⟩ : ∃ p1, Hid (p1 = beatP n0 0 p) := ⟨_, hid rfl⟩
  have ok1 : p1.Ok 200 := by rw [HP1.out]; exact ok.beat n0 0 a0 a1 (by omega) (by omega)
  have kB : ∀ W, IsP W gx 65 p → Calls Try.prog 23 #[.pointer (some ⟨gx, 0, none⟩), .int .u64 n0, .int .i64 0] W fun e w' => e = .returned (.int .i64 0) ∧ IsP w' gx 65 p1 ∧ W.grownBy w' (some gx) := fun W h => by rw [HP1.out]; exact beat_calls gx p W n0 0 h (by omega) (by omega)
  have kA1 : ∀ W, IsP W gx 65 p1 → Calls Try.prog 24 #[.pointer (some ⟨gx, 0, none⟩), .int .u64 n1, .int .i64 t1] W fun e w' => e = .returned (.tuple #[.bool false, .int .i64 0]) ∧ IsP w' gx 65 p1 ∧ W.grownBy w' (some gx) := fun W h => by
    have hb : answB n1 t1 p1 = false := by rw [HP1.out]; simp [answB, beatP, ne]
    have := answ_calls gx p1 W 200 ok1 h n1 t1 (by omega) (by omega)
    rw [hb, show answP n1 t1 p1 = p1 by unfold answP; rw [hb]; rfl] at this
    exact this
  have KA1 := hid kA1; clear kA1
  obtain ⟨p2, HP2⟩ : ∃ p2, Hid (p2 = answP n0 t1 p1) := ⟨_, hid rfl⟩
  have hbt : answB n0 t1 p1 = true := by rw [HP1.out]; show (true && decide (n0 = n0) && decide (0 ≤ t1)) = true; simp; omega
  have hp2 : p2 = sampP (t1 - p1.since) (goodP { p1 with beat := false, sure := true }) := by rw [HP2.out]; unfold answP; rw [hbt]; rfl
  have ok2 : p2.Ok 200 := by rw [HP2.out]; exact ok1.answ n0 t1
  have q6 : Hid (p2.faults = 0) := by rw [hp2]; exact rfl
  have q7 : Hid (p2.up = true) := by rw [hp2]; exact rfl
  have q8 : Hid (p2.sure = true) := by rw [hp2]; exact rfl
  have kA3 : ∀ W, IsP W gx 65 p1 → Calls Try.prog 24 #[.pointer (some ⟨gx, 0, none⟩), .int .u64 n0, .int .i64 t1] W fun e w' => e = .returned (.tuple #[.bool true, .int .i64 0]) ∧ IsP w' gx 65 p2 ∧ W.grownBy w' (some gx) := fun W h => by
    have := answ_calls gx p1 W 200 ok1 h n0 t1 (by omega) (by omega)
    rw [hbt, ← HP2.out] at this
    exact this
  have kA4 : ∀ W, IsP W gx 65 p2 → Calls Try.prog 24 #[.pointer (some ⟨gx, 0, none⟩), .int .u64 n0, .int .i64 t1] W fun e w' => e = .returned (.tuple #[.bool false, .int .i64 0]) ∧ IsP w' gx 65 p2 ∧ W.grownBy w' (some gx) := fun W h => by
    have hb : answB n0 t1 p2 = false := by rw [hp2]; simp [answB, sampP, goodP]
    have := answ_calls gx p2 W 200 ok2 h n0 t1 (by omega) (by omega)
    rw [hb, show answP n0 t1 p2 = p2 by unfold answP; rw [hb]; rfl] at this
    exact this
  have KB := hid kB; have KA3 := hid kA3; have KA4 := hid kA4
  clear kB kA3 kA4 hbt hp2 HP1 HP2 ok ok1 ok2
  go_quiet (fail)
  go_upto_region 8 with (first | (go_at_call 23; refine Calls.mono ((hN1.drewN nq).call KB.out) ?_; rintro e w2 ⟨rfl, hN2⟩) | (go_at_call 13; refine Calls.mono hN2.stands ?_; rintro e w3 ⟨rfl, hN3⟩))
  have y0 := hN3.cell x0 (by omega)
  have y1 := hN3.cell x1 (by omega)
  have hz3 := hN3.g.size
  have hgx3 : gx < w3.heap.size := hN3.x.lt
  have hlt0 : w.heap.size < w3.heap.size := by omega
  have v0 : (w3.alloc (.cells #[.int .i64 p1.win, .int .i64 p1.slow, .int .i64 p1.part, .int .i64 p1.rto, .int .i64 p1.mean, .int .i64 p1.spread, .int .i64 p1.faults, .bool p1.up, .bool p1.sure] 29)).cell? ⟨w.heap.size, 0, none⟩ = some (.int .u64 n0) := (World.cell?_of_block (heap_alloc_old _ _ hlt0)).trans y0
  have v1 : (w3.alloc (.cells #[.int .i64 p1.win, .int .i64 p1.slow, .int .i64 p1.part, .int .i64 p1.rto, .int .i64 p1.mean, .int .i64 p1.spread, .int .i64 p1.faults, .bool p1.up, .bool p1.sure] 29)).cell? ⟨w.heap.size, 1, none⟩ = some (.int .u64 n1) := (World.cell?_of_block (heap_alloc_old _ _ hlt0)).trans y1
  have hN4 : NS (w3.alloc (.cells #[.int .i64 p1.win, .int .i64 p1.slow, .int .i64 p1.part, .int .i64 p1.rto, .int .i64 p1.mean, .int .i64 p1.spread, .int .i64 p1.faults, .bool p1.up, .bool p1.sure] 29)) (w3.alloc (.cells #[.int .i64 p1.win, .int .i64 p1.slow, .int .i64 p1.part, .int .i64 p1.rto, .int .i64 p1.mean, .int .i64 p1.spread, .int .i64 p1.faults, .bool p1.up, .bool p1.sure] 29)) gx p1 := (hN3.alloc _).self
  have hZ : Hid ((w3.alloc (.cells #[.int .i64 p1.win, .int .i64 p1.slow, .int .i64 p1.part, .int .i64 p1.rto, .int .i64 p1.mean, .int .i64 p1.spread, .int .i64 p1.faults, .bool p1.up, .bool p1.sure] 29)).heap[w3.heap.size]? = some (.cells #[.int .i64 p1.win, .int .i64 p1.slow, .int .i64 p1.part, .int .i64 p1.rto, .int .i64 p1.mean, .int .i64 p1.spread, .int .i64 p1.faults, .bool p1.up, .bool p1.sure] 29)) := hid (heap_alloc_new _ _)
  have hB4 : Hid (Below w.heap.size w (w3.alloc (.cells #[.int .i64 p1.win, .int .i64 p1.slow, .int .i64 p1.part, .int .i64 p1.rto, .int .i64 p1.mean, .int .i64 p1.spread, .int .i64 p1.faults, .bool p1.up, .bool p1.sure] 29))) := hid (below_grown (BW.out) (hN3.alloc _).g (by omega) (by omega))
  have hB4s : w3.heap.size < (w3.alloc (.cells #[.int .i64 p1.win, .int .i64 p1.slow, .int .i64 p1.part, .int .i64 p1.rto, .int .i64 p1.mean, .int .i64 p1.spread, .int .i64 p1.faults, .bool p1.up, .bool p1.sure] 29)).heap.size := by simp
  generalize w3.alloc (.cells #[.int .i64 p1.win, .int .i64 p1.slow, .int .i64 p1.part, .int .i64 p1.rto, .int .i64 p1.mean, .int .i64 p1.spread, .int .i64 p1.faults, .bool p1.up, .bool p1.sure] 29) = W4 at *
  generalize hBB : w3.heap.size = B at *
  clear hBB
  have z0 : W4.cell? ⟨B, 0, none⟩ = some (.int .i64 p1.win) := cellOf hZ.out rfl
  have z1 : W4.cell? ⟨B, 1, none⟩ = some (.int .i64 p1.slow) := cellOf hZ.out rfl
  have z2 : W4.cell? ⟨B, 2, none⟩ = some (.int .i64 p1.part) := cellOf hZ.out rfl
  have z3 : W4.cell? ⟨B, 3, none⟩ = some (.int .i64 p1.rto) := cellOf hZ.out rfl
  have z4 : W4.cell? ⟨B, 4, none⟩ = some (.int .i64 p1.mean) := cellOf hZ.out rfl
  have z5 : W4.cell? ⟨B, 5, none⟩ = some (.int .i64 p1.spread) := cellOf hZ.out rfl
  have z6 : W4.cell? ⟨B, 6, none⟩ = some (.int .i64 p1.faults) := cellOf hZ.out rfl
  have z7 : W4.cell? ⟨B, 7, none⟩ = some (.bool p1.up) := cellOf hZ.out rfl
  have z8 : W4.cell? ⟨B, 8, none⟩ = some (.bool p1.sure) := cellOf hZ.out rfl
  have hneB : B ≠ gx := by omega
  clear hN1 hN2 hN3 x0 x1 x2 x3 y0 y1 BW KB
  go_wp2_with (go_at_call 24; refine Calls.mono (hN4.call KA1.out) ?_; rintro e w5 ⟨rfl, hN5⟩; have u0 := hN5.cell v0 (by omega); have u1 := hN5.cell v1 (by omega))
  have r0 := hN5.drew.cell z0 hneB
  have r1 := hN5.drew.cell z1 hneB
  have r2 := hN5.drew.cell z2 hneB
  have r3 := hN5.drew.cell z3 hneB
  have r4 := hN5.drew.cell z4 hneB
  have r5 := hN5.drew.cell z5 hneB
  have r6 := hN5.drew.cell z6 hneB
  have r7 := hN5.drew.cell z7 hneB
  have r8 := hN5.drew.cell z8 hneB
  obtain ⟨wo5, rfl⟩ : ∃ wo : World, wo = w5 := ⟨_, rfl⟩
  go_region_held3 (fun w' => w'.cell? ⟨B, 0, none⟩ = some (.int .i64 p1.win) ∧ w'.cell? ⟨B, 1, none⟩ = some (.int .i64 p1.slow) ∧ w'.cell? ⟨B, 2, none⟩ = some (.int .i64 p1.part) ∧ w'.cell? ⟨B, 3, none⟩ = some (.int .i64 p1.rto) ∧ w'.cell? ⟨B, 4, none⟩ = some (.int .i64 p1.mean) ∧ w'.cell? ⟨B, 5, none⟩ = some (.int .i64 p1.spread) ∧ w'.cell? ⟨B, 6, none⟩ = some (.int .i64 p1.faults) ∧ w'.cell? ⟨B, 7, none⟩ = some (.bool p1.up) ∧ w'.cell? ⟨B, 8, none⟩ = some (.bool p1.sure)) (refine ⟨?_, ?_, ?_, ?_, ?_, ?_, ?_, ?_, ?_⟩ <;> assumption) (first | (go_at_call 13; refine Calls.mono hN5.drew.stands ?_; rintro e w6 ⟨rfl, hN6⟩; have s0 := hN6.cell z0 hneB; have s1 := hN6.cell z1 hneB; have s2 := hN6.cell z2 hneB; have s3 := hN6.cell z3 hneB; have s4 := hN6.cell z4 hneB; have s5 := hN6.cell z5 hneB; have s6 := hN6.cell z6 hneB; have s7 := hN6.cell z7 hneB; have s8 := hN6.cell z8 hneB; have t0' := hN6.cell v0 (by omega); have t1' := hN6.cell v1 (by omega)))
  go_upto_region 18 with (first | (go_at_call 24; refine Calls.mono (hN6.call KA3.out) ?_; rintro e w7 ⟨rfl, hN7⟩) | (go_at_call 13; refine Calls.mono (hN7.stands2 q6.out q7.out q8.out) ?_; rintro e w8 ⟨rfl, hN8⟩))
  have y0 := hN8.cell v0 (by omega)
  have hzz := hN8.g.size
  have hgx5 : gx < w8.heap.size := hN8.x.lt
  have hlt5 : w.heap.size < w8.heap.size := by omega
  have o0 : (w8.alloc (.cells #[.int .i64 p2.win, .int .i64 p2.slow, .int .i64 p2.part, .int .i64 p2.rto, .int .i64 p2.mean, .int .i64 p2.spread, .int .i64 0, .bool true, .bool true] 29)).cell? ⟨w.heap.size, 0, none⟩ = some (.int .u64 n0) := (World.cell?_of_block (heap_alloc_old _ _ hlt5)).trans y0
  have hM : NS (w8.alloc (.cells #[.int .i64 p2.win, .int .i64 p2.slow, .int .i64 p2.part, .int .i64 p2.rto, .int .i64 p2.mean, .int .i64 p2.spread, .int .i64 0, .bool true, .bool true] 29)) (w8.alloc (.cells #[.int .i64 p2.win, .int .i64 p2.slow, .int .i64 p2.part, .int .i64 p2.rto, .int .i64 p2.mean, .int .i64 p2.spread, .int .i64 0, .bool true, .bool true] 29)) gx p2 := (hN8.alloc _).self
  have hY : Hid ((w8.alloc (.cells #[.int .i64 p2.win, .int .i64 p2.slow, .int .i64 p2.part, .int .i64 p2.rto, .int .i64 p2.mean, .int .i64 p2.spread, .int .i64 0, .bool true, .bool true] 29)).heap[w8.heap.size]? = some (.cells #[.int .i64 p2.win, .int .i64 p2.slow, .int .i64 p2.part, .int .i64 p2.rto, .int .i64 p2.mean, .int .i64 p2.spread, .int .i64 0, .bool true, .bool true] 29)) := hid (heap_alloc_new _ _)
  have hB5 : Hid (Below w.heap.size w (w8.alloc (.cells #[.int .i64 p2.win, .int .i64 p2.slow, .int .i64 p2.part, .int .i64 p2.rto, .int .i64 p2.mean, .int .i64 p2.spread, .int .i64 0, .bool true, .bool true] 29))) := hid (below_grown hB4.out (hN8.alloc _).g (by omega) (by omega))
  have hB5s : w8.heap.size < (w8.alloc (.cells #[.int .i64 p2.win, .int .i64 p2.slow, .int .i64 p2.part, .int .i64 p2.rto, .int .i64 p2.mean, .int .i64 p2.spread, .int .i64 0, .bool true, .bool true] 29)).heap.size := by simp
  generalize w8.alloc (.cells #[.int .i64 p2.win, .int .i64 p2.slow, .int .i64 p2.part, .int .i64 p2.rto, .int .i64 p2.mean, .int .i64 p2.spread, .int .i64 0, .bool true, .bool true] 29) = W5 at *
  generalize hDD : w8.heap.size = D at *
  clear hDD
  have hneD : D ≠ gx := by omega
  have hgW5 : w.heap.size ≤ W5.heap.size := by omega
  have c0 : W5.cell? ⟨D, 0, none⟩ = some (.int .i64 p2.win) := cellOf hY.out rfl
  have c1 : W5.cell? ⟨D, 1, none⟩ = some (.int .i64 p2.slow) := cellOf hY.out rfl
  have c2 : W5.cell? ⟨D, 2, none⟩ = some (.int .i64 p2.part) := cellOf hY.out rfl
  have c3 : W5.cell? ⟨D, 3, none⟩ = some (.int .i64 p2.rto) := cellOf hY.out rfl
  have c4 : W5.cell? ⟨D, 4, none⟩ = some (.int .i64 p2.mean) := cellOf hY.out rfl
  have c5 : W5.cell? ⟨D, 5, none⟩ = some (.int .i64 p2.spread) := cellOf hY.out rfl
  have c6 : W5.cell? ⟨D, 6, none⟩ = some (.int .i64 0) := cellOf hY.out rfl
  have c7 : W5.cell? ⟨D, 7, none⟩ = some (.bool true) := cellOf hY.out rfl
  have c8 : W5.cell? ⟨D, 8, none⟩ = some (.bool true) := cellOf hY.out rfl
  clear z0 z1 z2 z3 z4 z5 z6 z7 z8 v0 v1 y0
  go_upto_region 19 with (go_at_call 24; refine Calls.mono (hM.call KA4.out) ?_; rintro e w20 ⟨rfl, hN20⟩)
  have r0 := hN20.drew.cell c0 hneD
  have r1 := hN20.drew.cell c1 hneD
  have r2 := hN20.drew.cell c2 hneD
  have r3 := hN20.drew.cell c3 hneD
  have r4 := hN20.drew.cell c4 hneD
  have r5 := hN20.drew.cell c5 hneD
  have r6 := hN20.drew.cell c6 hneD
  have r7 := hN20.drew.cell c7 hneD
  have r8 := hN20.drew.cell c8 hneD
  obtain ⟨wo20, rfl⟩ : ∃ wo : World, wo = w20 := ⟨_, rfl⟩
  go_region_held3 (fun w' => w'.cell? ⟨D, 0, none⟩ = some (.int .i64 p2.win) ∧ w'.cell? ⟨D, 1, none⟩ = some (.int .i64 p2.slow) ∧ w'.cell? ⟨D, 2, none⟩ = some (.int .i64 p2.part) ∧ w'.cell? ⟨D, 3, none⟩ = some (.int .i64 p2.rto) ∧ w'.cell? ⟨D, 4, none⟩ = some (.int .i64 p2.mean) ∧ w'.cell? ⟨D, 5, none⟩ = some (.int .i64 p2.spread) ∧ w'.cell? ⟨D, 6, none⟩ = some (.int .i64 0) ∧ w'.cell? ⟨D, 7, none⟩ = some (.bool true) ∧ w'.cell? ⟨D, 8, none⟩ = some (.bool true)) (refine ⟨?_, ?_, ?_, ?_, ?_, ?_, ?_, ?_, ?_⟩ <;> assumption) (first | (go_at_call 14; refine Calls.mono hN20.drew.live ?_; rintro e w21 ⟨rfl, hN21⟩; have s0 := hN21.cell c0 hneD; have s1 := hN21.cell c1 hneD; have s2 := hN21.cell c2 hneD; have s3 := hN21.cell c3 hneD; have s4 := hN21.cell c4 hneD; have s5 := hN21.cell c5 hneD; have s6 := hN21.cell c6 hneD; have s7 := hN21.cell c7 hneD; have s8 := hN21.cell c8 hneD) | (go_at_call 13; refine Calls.mono (hN21.stands2 q6.out q7.out q8.out) ?_; rintro e w22 ⟨rfl, hN22⟩; have t0' := hN22.cell c0 hneD; have t1' := hN22.cell c1 hneD; have t2' := hN22.cell c2 hneD; have t3' := hN22.cell c3 hneD; have t4' := hN22.cell c4 hneD; have t5' := hN22.cell c5 hneD; have t6' := hN22.cell c6 hneD; have t7' := hN22.cell c7 hneD; have t8' := hN22.cell c8 hneD))
  all_goals
    go_wp2
    go_ret
    exact ⟨rfl, below_grown hB5.out hN22.g (by omega) hgW5⟩

set_option maxHeartbeats 8000000 in
set_option maxRecDepth 100000 in
theorem nonces_2 (c la : Nat) (A : Option Addr) (ds : List DeedR) (hla : ds.length = la) (w : World) (hR : RdD w A ds) (hO : DeedsOk ds) (hca : la ≤ c) (hcm : c ≤ 9223372036854775807) (n0 t0 t1 : Int) (a0 : 0 ≤ n0) (a1 : n0 ≤ 18446744073709551615) (b0 : 0 < t0) (b1 : t0 ≤ 4294967295) (b2 : 0 ≤ t1) (b3 : t1 ≤ 4294967295) :
    Calls Try.prog 8 #[.slice A la c, .agg #[.int .u64 n0, .int .u64 n0], .agg #[.int .u32 t0, .int .u32 t1]] w fun e w' => e = .returned (.bool true) ∧ Below w.heap.size w w' := by
  have HBW : Hid (Below w.heap.size w ((w.alloc (.cells #[.int .u64 n0, .int .u64 n0] 52)).alloc (.cells #[.int .u32 t0, .int .u32 t1] 54))) := hid (((Below.refl _ _).alloc (Nat.le_refl _) _).alloc (by simp) _)
  have hRW : RdD ((w.alloc (.cells #[.int .u64 n0, .int .u64 n0] 52)).alloc (.cells #[.int .u32 t0, .int .u32 t1] 54)) A ds := fun j hj => by
    obtain ⟨b, o, e, hb, x0, x1, x2, x3, x4⟩ := hR j hj
    have hz := HBW.out.size
    exact ⟨b, o, e, by omega, (HBW.out.cell (p := ⟨b, _, none⟩) (by exact hb)).trans x0, (HBW.out.cell (p := ⟨b, _, none⟩) (by exact hb)).trans x1, (HBW.out.cell (p := ⟨b, _, none⟩) (by exact hb)).trans x2, (HBW.out.cell (p := ⟨b, _, none⟩) (by exact hb)).trans x3, (HBW.out.cell (p := ⟨b, _, none⟩) (by exact hb)).trans x4⟩
  have K := hid ((play_calls 500 (by decide) (by decide) c la A ds hla ((w.alloc (.cells #[.int .u64 n0, .int .u64 n0] 52)).alloc (.cells #[.int .u32 t0, .int .u32 t1] 54)) hRW hO hca hcm).mono fun e w' h => h.two)
  have X0 : Hid (((w.alloc (.cells #[.int .u64 n0, .int .u64 n0] 52)).alloc (.cells #[.int .u32 t0, .int .u32 t1] 54)).cell? ⟨w.heap.size, 0, none⟩ = some (.int .u64 n0)) := (World.cell?_of_block (heap_alloc_old _ _ (by simp))).trans (cellOf (heap_alloc_new _ _) rfl)
  have X1 : Hid (((w.alloc (.cells #[.int .u64 n0, .int .u64 n0] 52)).alloc (.cells #[.int .u32 t0, .int .u32 t1] 54)).cell? ⟨w.heap.size, 1, none⟩ = some (.int .u64 n0)) := (World.cell?_of_block (heap_alloc_old _ _ (by simp))).trans (cellOf (heap_alloc_new _ _) rfl)
  have X2 : Hid (((w.alloc (.cells #[.int .u64 n0, .int .u64 n0] 52)).alloc (.cells #[.int .u32 t0, .int .u32 t1] 54)).cell? ⟨w.heap.size + 1, 0, none⟩ = some (.int .u32 t0)) := cellOf (heap_alloc2_new _ _ _) rfl
  have X3 : Hid (((w.alloc (.cells #[.int .u64 n0, .int .u64 n0] 52)).alloc (.cells #[.int .u32 t0, .int .u32 t1] 54)).cell? ⟨w.heap.size + 1, 1, none⟩ = some (.int .u32 t1)) := cellOf (heap_alloc2_new _ _ _) rfl
  have hWs : ((w.alloc (.cells #[.int .u64 n0, .int .u64 n0] 52)).alloc (.cells #[.int .u32 t0, .int .u32 t1] 54)).heap.size = w.heap.size + 2 := by simp
  have HWS := hid hWs
  clear hR hO hla hRW hWs
  go_enter Try.func8, Try.ntmps8
  go_wp2_with (go_at_call 20; refine Calls.mono K.out ?_; rintro e w1 ⟨gx, gy, p, rfl, hgx, hN, ok, hB1⟩)
  clear K
  have hgx' : w.heap.size + 2 ≤ gx := by rw [HWS.out] at hgx; exact hgx
  have x0 := hN.cell X0.out (by omega)
  have x1 := hN.cell X1.out (by omega)
  have x2 := hN.cell X2.out (by omega)
  have x3 := hN.cell X3.out (by omega)
  have BW := hid (HBW.out.trans (hB1.mono (by rw [HWS.out]; omega)))
  have hz1 : w.heap.size + 2 ≤ w1.heap.size := by have := hB1.size; rw [HWS.out] at this; exact this
  clear HBW X0 X1 X2 X3 HWS hB1 hgx
  have hN1 := hN.self
  clear hN
  obtain ⟨p1, HP1⟩ : ∃ p1, Hid (p1 = beatP n0 t0 p) := ⟨_, hid rfl⟩
  have ok1 : p1.Ok 200 := by rw [HP1.out]; exact ok.beat n0 t0 a0 a1 (by omega) (by omega)
  have kB : ∀ W, IsP W gx 65 p → Calls Try.prog 23 #[.pointer (some ⟨gx, 0, none⟩), .int .u64 n0, .int .i64 t0] W fun e w' => e = .returned (.int .i64 0) ∧ IsP w' gx 65 p1 ∧ W.grownBy w' (some gx) := fun W h => by rw [HP1.out]; exact beat_calls gx p W n0 t0 h (by omega) (by omega)
  have kA2 : ∀ W, IsP W gx 65 p1 → Calls Try.prog 24 #[.pointer (some ⟨gx, 0, none⟩), .int .u64 n0, .int .i64 (t0 - 1)] W fun e w' => e = .returned (.tuple #[.bool false, .int .i64 0]) ∧ IsP w' gx 65 p1 ∧ W.grownBy w' (some gx) := fun W h => by
    have hb : answB n0 (t0 - 1) p1 = false := by rw [HP1.out]; show (true && decide (n0 = n0) && decide (t0 ≤ t0 - 1)) = false; simp; omega
    have := answ_calls gx p1 W 200 ok1 h n0 (t0 - 1) (by omega) (by omega)
    rw [hb, show answP n0 (t0 - 1) p1 = p1 by unfold answP; rw [hb]; rfl] at this
    exact this
  have KA2 := hid kA2; clear kA2
  obtain ⟨p2, HP2⟩ : ∃ p2, Hid (p2 = answP n0 (t0 + t1) p1) := ⟨_, hid rfl⟩
  have hbt : answB n0 (t0 + t1) p1 = true := by rw [HP1.out]; show (true && decide (n0 = n0) && decide (t0 ≤ (t0 + t1))) = true; simp; omega
  have hp2 : p2 = sampP ((t0 + t1) - p1.since) (goodP { p1 with beat := false, sure := true }) := by rw [HP2.out]; unfold answP; rw [hbt]; rfl
  have ok2 : p2.Ok 200 := by rw [HP2.out]; exact ok1.answ n0 (t0 + t1)
  have q6 : Hid (p2.faults = 0) := by rw [hp2]; exact rfl
  have q7 : Hid (p2.up = true) := by rw [hp2]; exact rfl
  have q8 : Hid (p2.sure = true) := by rw [hp2]; exact rfl
  have kA3 : ∀ W, IsP W gx 65 p1 → Calls Try.prog 24 #[.pointer (some ⟨gx, 0, none⟩), .int .u64 n0, .int .i64 (t0 + t1)] W fun e w' => e = .returned (.tuple #[.bool true, .int .i64 0]) ∧ IsP w' gx 65 p2 ∧ W.grownBy w' (some gx) := fun W h => by
    have := answ_calls gx p1 W 200 ok1 h n0 (t0 + t1) (by omega) (by omega)
    rw [hbt, ← HP2.out] at this
    exact this
  have kA4 : ∀ W, IsP W gx 65 p2 → Calls Try.prog 24 #[.pointer (some ⟨gx, 0, none⟩), .int .u64 n0, .int .i64 (t0 + t1)] W fun e w' => e = .returned (.tuple #[.bool false, .int .i64 0]) ∧ IsP w' gx 65 p2 ∧ W.grownBy w' (some gx) := fun W h => by
    have hb : answB n0 (t0 + t1) p2 = false := by rw [hp2]; simp [answB, sampP, goodP]
    have := answ_calls gx p2 W 200 ok2 h n0 (t0 + t1) (by omega) (by omega)
    rw [hb, show answP n0 (t0 + t1) p2 = p2 by unfold answP; rw [hb]; rfl] at this
    exact this
  have KB := hid kB; have KA3 := hid kA3; have KA4 := hid kA4
  clear kB kA3 kA4 hbt hp2 HP1 HP2 ok ok1 ok2
  go_quiet (fail)
  go_upto_region 8 with (first | (go_at_call 23; refine Calls.mono ((hN1.drewN nq).call KB.out) ?_; rintro e w2 ⟨rfl, hN2⟩) | (go_at_call 13; refine Calls.mono hN2.stands ?_; rintro e w3 ⟨rfl, hN3⟩))
  have y0 := hN3.cell x0 (by omega)
  have y1 := hN3.cell x1 (by omega)
  have hz3 := hN3.g.size
  have hgx3 : gx < w3.heap.size := hN3.x.lt
  have hlt0 : w.heap.size < w3.heap.size := by omega
  have v0 : (w3.alloc (.cells #[.int .i64 p1.win, .int .i64 p1.slow, .int .i64 p1.part, .int .i64 p1.rto, .int .i64 p1.mean, .int .i64 p1.spread, .int .i64 p1.faults, .bool p1.up, .bool p1.sure] 29)).cell? ⟨w.heap.size, 0, none⟩ = some (.int .u64 n0) := (World.cell?_of_block (heap_alloc_old _ _ hlt0)).trans y0
  have v1 : (w3.alloc (.cells #[.int .i64 p1.win, .int .i64 p1.slow, .int .i64 p1.part, .int .i64 p1.rto, .int .i64 p1.mean, .int .i64 p1.spread, .int .i64 p1.faults, .bool p1.up, .bool p1.sure] 29)).cell? ⟨w.heap.size, 1, none⟩ = some (.int .u64 n0) := (World.cell?_of_block (heap_alloc_old _ _ hlt0)).trans y1
  have hN4 : NS (w3.alloc (.cells #[.int .i64 p1.win, .int .i64 p1.slow, .int .i64 p1.part, .int .i64 p1.rto, .int .i64 p1.mean, .int .i64 p1.spread, .int .i64 p1.faults, .bool p1.up, .bool p1.sure] 29)) (w3.alloc (.cells #[.int .i64 p1.win, .int .i64 p1.slow, .int .i64 p1.part, .int .i64 p1.rto, .int .i64 p1.mean, .int .i64 p1.spread, .int .i64 p1.faults, .bool p1.up, .bool p1.sure] 29)) gx p1 := (hN3.alloc _).self
  have hZ : Hid ((w3.alloc (.cells #[.int .i64 p1.win, .int .i64 p1.slow, .int .i64 p1.part, .int .i64 p1.rto, .int .i64 p1.mean, .int .i64 p1.spread, .int .i64 p1.faults, .bool p1.up, .bool p1.sure] 29)).heap[w3.heap.size]? = some (.cells #[.int .i64 p1.win, .int .i64 p1.slow, .int .i64 p1.part, .int .i64 p1.rto, .int .i64 p1.mean, .int .i64 p1.spread, .int .i64 p1.faults, .bool p1.up, .bool p1.sure] 29)) := hid (heap_alloc_new _ _)
  have hB4 : Hid (Below w.heap.size w (w3.alloc (.cells #[.int .i64 p1.win, .int .i64 p1.slow, .int .i64 p1.part, .int .i64 p1.rto, .int .i64 p1.mean, .int .i64 p1.spread, .int .i64 p1.faults, .bool p1.up, .bool p1.sure] 29))) := hid (below_grown (BW.out) (hN3.alloc _).g (by omega) (by omega))
  have hB4s : w3.heap.size < (w3.alloc (.cells #[.int .i64 p1.win, .int .i64 p1.slow, .int .i64 p1.part, .int .i64 p1.rto, .int .i64 p1.mean, .int .i64 p1.spread, .int .i64 p1.faults, .bool p1.up, .bool p1.sure] 29)).heap.size := by simp
  generalize w3.alloc (.cells #[.int .i64 p1.win, .int .i64 p1.slow, .int .i64 p1.part, .int .i64 p1.rto, .int .i64 p1.mean, .int .i64 p1.spread, .int .i64 p1.faults, .bool p1.up, .bool p1.sure] 29) = W4 at *
  generalize hBB : w3.heap.size = B at *
  clear hBB
  have z0 : W4.cell? ⟨B, 0, none⟩ = some (.int .i64 p1.win) := cellOf hZ.out rfl
  have z1 : W4.cell? ⟨B, 1, none⟩ = some (.int .i64 p1.slow) := cellOf hZ.out rfl
  have z2 : W4.cell? ⟨B, 2, none⟩ = some (.int .i64 p1.part) := cellOf hZ.out rfl
  have z3 : W4.cell? ⟨B, 3, none⟩ = some (.int .i64 p1.rto) := cellOf hZ.out rfl
  have z4 : W4.cell? ⟨B, 4, none⟩ = some (.int .i64 p1.mean) := cellOf hZ.out rfl
  have z5 : W4.cell? ⟨B, 5, none⟩ = some (.int .i64 p1.spread) := cellOf hZ.out rfl
  have z6 : W4.cell? ⟨B, 6, none⟩ = some (.int .i64 p1.faults) := cellOf hZ.out rfl
  have z7 : W4.cell? ⟨B, 7, none⟩ = some (.bool p1.up) := cellOf hZ.out rfl
  have z8 : W4.cell? ⟨B, 8, none⟩ = some (.bool p1.sure) := cellOf hZ.out rfl
  have hneB : B ≠ gx := by omega
  clear hN1 hN2 hN3 x0 x1 x2 x3 y0 y1 BW KB
  go_wp2_with (go_at_call 24; refine Calls.mono (hN4.call KA2.out) ?_; rintro e w5 ⟨rfl, hN5⟩; have u0 := hN5.cell v0 (by omega); have u1 := hN5.cell v1 (by omega))
  have r0 := hN5.drew.cell z0 hneB
  have r1 := hN5.drew.cell z1 hneB
  have r2 := hN5.drew.cell z2 hneB
  have r3 := hN5.drew.cell z3 hneB
  have r4 := hN5.drew.cell z4 hneB
  have r5 := hN5.drew.cell z5 hneB
  have r6 := hN5.drew.cell z6 hneB
  have r7 := hN5.drew.cell z7 hneB
  have r8 := hN5.drew.cell z8 hneB
  obtain ⟨wo5, rfl⟩ : ∃ wo : World, wo = w5 := ⟨_, rfl⟩
  go_region_held3 (fun w' => w'.cell? ⟨B, 0, none⟩ = some (.int .i64 p1.win) ∧ w'.cell? ⟨B, 1, none⟩ = some (.int .i64 p1.slow) ∧ w'.cell? ⟨B, 2, none⟩ = some (.int .i64 p1.part) ∧ w'.cell? ⟨B, 3, none⟩ = some (.int .i64 p1.rto) ∧ w'.cell? ⟨B, 4, none⟩ = some (.int .i64 p1.mean) ∧ w'.cell? ⟨B, 5, none⟩ = some (.int .i64 p1.spread) ∧ w'.cell? ⟨B, 6, none⟩ = some (.int .i64 p1.faults) ∧ w'.cell? ⟨B, 7, none⟩ = some (.bool p1.up) ∧ w'.cell? ⟨B, 8, none⟩ = some (.bool p1.sure)) (refine ⟨?_, ?_, ?_, ?_, ?_, ?_, ?_, ?_, ?_⟩ <;> assumption) (first | (go_at_call 13; refine Calls.mono hN5.drew.stands ?_; rintro e w6 ⟨rfl, hN6⟩; have s0 := hN6.cell z0 hneB; have s1 := hN6.cell z1 hneB; have s2 := hN6.cell z2 hneB; have s3 := hN6.cell z3 hneB; have s4 := hN6.cell z4 hneB; have s5 := hN6.cell z5 hneB; have s6 := hN6.cell z6 hneB; have s7 := hN6.cell z7 hneB; have s8 := hN6.cell z8 hneB; have t0' := hN6.cell v0 (by omega); have t1' := hN6.cell v1 (by omega)))
  go_upto_region 18 with (first | (go_at_call 24; refine Calls.mono (hN6.call KA3.out) ?_; rintro e w7 ⟨rfl, hN7⟩) | (go_at_call 13; refine Calls.mono (hN7.stands2 q6.out q7.out q8.out) ?_; rintro e w8 ⟨rfl, hN8⟩))
  have y0 := hN8.cell v0 (by omega)
  have hzz := hN8.g.size
  have hgx5 : gx < w8.heap.size := hN8.x.lt
  have hlt5 : w.heap.size < w8.heap.size := by omega
  have o0 : (w8.alloc (.cells #[.int .i64 p2.win, .int .i64 p2.slow, .int .i64 p2.part, .int .i64 p2.rto, .int .i64 p2.mean, .int .i64 p2.spread, .int .i64 0, .bool true, .bool true] 29)).cell? ⟨w.heap.size, 0, none⟩ = some (.int .u64 n0) := (World.cell?_of_block (heap_alloc_old _ _ hlt5)).trans y0
  have hM : NS (w8.alloc (.cells #[.int .i64 p2.win, .int .i64 p2.slow, .int .i64 p2.part, .int .i64 p2.rto, .int .i64 p2.mean, .int .i64 p2.spread, .int .i64 0, .bool true, .bool true] 29)) (w8.alloc (.cells #[.int .i64 p2.win, .int .i64 p2.slow, .int .i64 p2.part, .int .i64 p2.rto, .int .i64 p2.mean, .int .i64 p2.spread, .int .i64 0, .bool true, .bool true] 29)) gx p2 := (hN8.alloc _).self
  have hY : Hid ((w8.alloc (.cells #[.int .i64 p2.win, .int .i64 p2.slow, .int .i64 p2.part, .int .i64 p2.rto, .int .i64 p2.mean, .int .i64 p2.spread, .int .i64 0, .bool true, .bool true] 29)).heap[w8.heap.size]? = some (.cells #[.int .i64 p2.win, .int .i64 p2.slow, .int .i64 p2.part, .int .i64 p2.rto, .int .i64 p2.mean, .int .i64 p2.spread, .int .i64 0, .bool true, .bool true] 29)) := hid (heap_alloc_new _ _)
  have hB5 : Hid (Below w.heap.size w (w8.alloc (.cells #[.int .i64 p2.win, .int .i64 p2.slow, .int .i64 p2.part, .int .i64 p2.rto, .int .i64 p2.mean, .int .i64 p2.spread, .int .i64 0, .bool true, .bool true] 29))) := hid (below_grown hB4.out (hN8.alloc _).g (by omega) (by omega))
  have hB5s : w8.heap.size < (w8.alloc (.cells #[.int .i64 p2.win, .int .i64 p2.slow, .int .i64 p2.part, .int .i64 p2.rto, .int .i64 p2.mean, .int .i64 p2.spread, .int .i64 0, .bool true, .bool true] 29)).heap.size := by simp
  generalize w8.alloc (.cells #[.int .i64 p2.win, .int .i64 p2.slow, .int .i64 p2.part, .int .i64 p2.rto, .int .i64 p2.mean, .int .i64 p2.spread, .int .i64 0, .bool true, .bool true] 29) = W5 at *
  generalize hDD : w8.heap.size = D at *
  clear hDD
  have hneD : D ≠ gx := by omega
  have hgW5 : w.heap.size ≤ W5.heap.size := by omega
  have c0 : W5.cell? ⟨D, 0, none⟩ = some (.int .i64 p2.win) := cellOf hY.out rfl
  have c1 : W5.cell? ⟨D, 1, none⟩ = some (.int .i64 p2.slow) := cellOf hY.out rfl
  have c2 : W5.cell? ⟨D, 2, none⟩ = some (.int .i64 p2.part) := cellOf hY.out rfl
  have c3 : W5.cell? ⟨D, 3, none⟩ = some (.int .i64 p2.rto) := cellOf hY.out rfl
  have c4 : W5.cell? ⟨D, 4, none⟩ = some (.int .i64 p2.mean) := cellOf hY.out rfl
  have c5 : W5.cell? ⟨D, 5, none⟩ = some (.int .i64 p2.spread) := cellOf hY.out rfl
  have c6 : W5.cell? ⟨D, 6, none⟩ = some (.int .i64 0) := cellOf hY.out rfl
  have c7 : W5.cell? ⟨D, 7, none⟩ = some (.bool true) := cellOf hY.out rfl
  have c8 : W5.cell? ⟨D, 8, none⟩ = some (.bool true) := cellOf hY.out rfl
  clear z0 z1 z2 z3 z4 z5 z6 z7 z8 v0 v1 y0
  go_upto_region 19 with (go_at_call 24; refine Calls.mono (hM.call KA4.out) ?_; rintro e w20 ⟨rfl, hN20⟩)
  have r0 := hN20.drew.cell c0 hneD
  have r1 := hN20.drew.cell c1 hneD
  have r2 := hN20.drew.cell c2 hneD
  have r3 := hN20.drew.cell c3 hneD
  have r4 := hN20.drew.cell c4 hneD
  have r5 := hN20.drew.cell c5 hneD
  have r6 := hN20.drew.cell c6 hneD
  have r7 := hN20.drew.cell c7 hneD
  have r8 := hN20.drew.cell c8 hneD
  obtain ⟨wo20, rfl⟩ : ∃ wo : World, wo = w20 := ⟨_, rfl⟩
  go_region_held3 (fun w' => w'.cell? ⟨D, 0, none⟩ = some (.int .i64 p2.win) ∧ w'.cell? ⟨D, 1, none⟩ = some (.int .i64 p2.slow) ∧ w'.cell? ⟨D, 2, none⟩ = some (.int .i64 p2.part) ∧ w'.cell? ⟨D, 3, none⟩ = some (.int .i64 p2.rto) ∧ w'.cell? ⟨D, 4, none⟩ = some (.int .i64 p2.mean) ∧ w'.cell? ⟨D, 5, none⟩ = some (.int .i64 p2.spread) ∧ w'.cell? ⟨D, 6, none⟩ = some (.int .i64 0) ∧ w'.cell? ⟨D, 7, none⟩ = some (.bool true) ∧ w'.cell? ⟨D, 8, none⟩ = some (.bool true)) (refine ⟨?_, ?_, ?_, ?_, ?_, ?_, ?_, ?_, ?_⟩ <;> assumption) (first | (go_at_call 14; refine Calls.mono hN20.drew.live ?_; rintro e w21 ⟨rfl, hN21⟩; have s0 := hN21.cell c0 hneD; have s1 := hN21.cell c1 hneD; have s2 := hN21.cell c2 hneD; have s3 := hN21.cell c3 hneD; have s4 := hN21.cell c4 hneD; have s5 := hN21.cell c5 hneD; have s6 := hN21.cell c6 hneD; have s7 := hN21.cell c7 hneD; have s8 := hN21.cell c8 hneD) | (go_at_call 13; refine Calls.mono (hN21.stands2 q6.out q7.out q8.out) ?_; rintro e w22 ⟨rfl, hN22⟩; have t0' := hN22.cell c0 hneD; have t1' := hN22.cell c1 hneD; have t2' := hN22.cell c2 hneD; have t3' := hN22.cell c3 hneD; have t4' := hN22.cell c4 hneD; have t5' := hN22.cell c5 hneD; have t6' := hN22.cell c6 hneD; have t7' := hN22.cell c7 hneD; have t8' := hN22.cell c8 hneD))
  all_goals
    go_wp2
    go_ret
    exact ⟨rfl, below_grown hB5.out hN22.g (by omega) hgW5⟩

set_option maxHeartbeats 8000000 in
set_option maxRecDepth 100000 in
theorem nonces_3 (c la : Nat) (A : Option Addr) (ds : List DeedR) (hla : ds.length = la) (w : World) (hR : RdD w A ds) (hO : DeedsOk ds) (hca : la ≤ c) (hcm : c ≤ 9223372036854775807) (n0 t1 : Int) (a0 : 0 ≤ n0) (a1 : n0 ≤ 18446744073709551615) (b2 : 0 ≤ t1) (b3 : t1 ≤ 4294967295) :
    Calls Try.prog 8 #[.slice A la c, .agg #[.int .u64 n0, .int .u64 n0], .agg #[.int .u32 0, .int .u32 t1]] w fun e w' => e = .returned (.bool true) ∧ Below w.heap.size w w' := by
  have HBW : Hid (Below w.heap.size w ((w.alloc (.cells #[.int .u64 n0, .int .u64 n0] 52)).alloc (.cells #[.int .u32 0, .int .u32 t1] 54))) := hid (((Below.refl _ _).alloc (Nat.le_refl _) _).alloc (by simp) _)
  have hRW : RdD ((w.alloc (.cells #[.int .u64 n0, .int .u64 n0] 52)).alloc (.cells #[.int .u32 0, .int .u32 t1] 54)) A ds := fun j hj => by
    obtain ⟨b, o, e, hb, x0, x1, x2, x3, x4⟩ := hR j hj
    have hz := HBW.out.size
    exact ⟨b, o, e, by omega, (HBW.out.cell (p := ⟨b, _, none⟩) (by exact hb)).trans x0, (HBW.out.cell (p := ⟨b, _, none⟩) (by exact hb)).trans x1, (HBW.out.cell (p := ⟨b, _, none⟩) (by exact hb)).trans x2, (HBW.out.cell (p := ⟨b, _, none⟩) (by exact hb)).trans x3, (HBW.out.cell (p := ⟨b, _, none⟩) (by exact hb)).trans x4⟩
  have K := hid ((play_calls 500 (by decide) (by decide) c la A ds hla ((w.alloc (.cells #[.int .u64 n0, .int .u64 n0] 52)).alloc (.cells #[.int .u32 0, .int .u32 t1] 54)) hRW hO hca hcm).mono fun e w' h => h.two)
  have X0 : Hid (((w.alloc (.cells #[.int .u64 n0, .int .u64 n0] 52)).alloc (.cells #[.int .u32 0, .int .u32 t1] 54)).cell? ⟨w.heap.size, 0, none⟩ = some (.int .u64 n0)) := (World.cell?_of_block (heap_alloc_old _ _ (by simp))).trans (cellOf (heap_alloc_new _ _) rfl)
  have X1 : Hid (((w.alloc (.cells #[.int .u64 n0, .int .u64 n0] 52)).alloc (.cells #[.int .u32 0, .int .u32 t1] 54)).cell? ⟨w.heap.size, 1, none⟩ = some (.int .u64 n0)) := (World.cell?_of_block (heap_alloc_old _ _ (by simp))).trans (cellOf (heap_alloc_new _ _) rfl)
  have X2 : Hid (((w.alloc (.cells #[.int .u64 n0, .int .u64 n0] 52)).alloc (.cells #[.int .u32 0, .int .u32 t1] 54)).cell? ⟨w.heap.size + 1, 0, none⟩ = some (.int .u32 0)) := cellOf (heap_alloc2_new _ _ _) rfl
  have X3 : Hid (((w.alloc (.cells #[.int .u64 n0, .int .u64 n0] 52)).alloc (.cells #[.int .u32 0, .int .u32 t1] 54)).cell? ⟨w.heap.size + 1, 1, none⟩ = some (.int .u32 t1)) := cellOf (heap_alloc2_new _ _ _) rfl
  have hWs : ((w.alloc (.cells #[.int .u64 n0, .int .u64 n0] 52)).alloc (.cells #[.int .u32 0, .int .u32 t1] 54)).heap.size = w.heap.size + 2 := by simp
  have HWS := hid hWs
  clear hR hO hla hRW hWs
  go_enter Try.func8, Try.ntmps8
  go_wp2_with (go_at_call 20; refine Calls.mono K.out ?_; rintro e w1 ⟨gx, gy, p, rfl, hgx, hN, ok, hB1⟩)
  clear K
  have hgx' : w.heap.size + 2 ≤ gx := by rw [HWS.out] at hgx; exact hgx
  have x0 := hN.cell X0.out (by omega)
  have x1 := hN.cell X1.out (by omega)
  have x2 := hN.cell X2.out (by omega)
  have x3 := hN.cell X3.out (by omega)
  have BW := hid (HBW.out.trans (hB1.mono (by rw [HWS.out]; omega)))
  have hz1 : w.heap.size + 2 ≤ w1.heap.size := by have := hB1.size; rw [HWS.out] at this; exact this
  clear HBW X0 X1 X2 X3 HWS hB1 hgx
  have hN1 := hN.self
  clear hN
  obtain ⟨p1, HP1⟩ : ∃ p1, Hid (p1 = beatP n0 0 p) := ⟨_, hid rfl⟩
  have ok1 : p1.Ok 200 := by rw [HP1.out]; exact ok.beat n0 0 a0 a1 (by omega) (by omega)
  have kB : ∀ W, IsP W gx 65 p → Calls Try.prog 23 #[.pointer (some ⟨gx, 0, none⟩), .int .u64 n0, .int .i64 0] W fun e w' => e = .returned (.int .i64 0) ∧ IsP w' gx 65 p1 ∧ W.grownBy w' (some gx) := fun W h => by rw [HP1.out]; exact beat_calls gx p W n0 0 h (by omega) (by omega)
  obtain ⟨p2, HP2⟩ : ∃ p2, Hid (p2 = answP n0 t1 p1) := ⟨_, hid rfl⟩
  have hbt : answB n0 t1 p1 = true := by rw [HP1.out]; show (true && decide (n0 = n0) && decide (0 ≤ t1)) = true; simp; omega
  have hp2 : p2 = sampP (t1 - p1.since) (goodP { p1 with beat := false, sure := true }) := by rw [HP2.out]; unfold answP; rw [hbt]; rfl
  have ok2 : p2.Ok 200 := by rw [HP2.out]; exact ok1.answ n0 t1
  have q6 : Hid (p2.faults = 0) := by rw [hp2]; exact rfl
  have q7 : Hid (p2.up = true) := by rw [hp2]; exact rfl
  have q8 : Hid (p2.sure = true) := by rw [hp2]; exact rfl
  have kA3 : ∀ W, IsP W gx 65 p1 → Calls Try.prog 24 #[.pointer (some ⟨gx, 0, none⟩), .int .u64 n0, .int .i64 t1] W fun e w' => e = .returned (.tuple #[.bool true, .int .i64 0]) ∧ IsP w' gx 65 p2 ∧ W.grownBy w' (some gx) := fun W h => by
    have := answ_calls gx p1 W 200 ok1 h n0 t1 (by omega) (by omega)
    rw [hbt, ← HP2.out] at this
    exact this
  have kA4 : ∀ W, IsP W gx 65 p2 → Calls Try.prog 24 #[.pointer (some ⟨gx, 0, none⟩), .int .u64 n0, .int .i64 t1] W fun e w' => e = .returned (.tuple #[.bool false, .int .i64 0]) ∧ IsP w' gx 65 p2 ∧ W.grownBy w' (some gx) := fun W h => by
    have hb : answB n0 t1 p2 = false := by rw [hp2]; simp [answB, sampP, goodP]
    have := answ_calls gx p2 W 200 ok2 h n0 t1 (by omega) (by omega)
    rw [hb, show answP n0 t1 p2 = p2 by unfold answP; rw [hb]; rfl] at this
    exact this
  have KB := hid kB; have KA3 := hid kA3; have KA4 := hid kA4
  clear kB kA3 kA4 hbt hp2 HP1 HP2 ok ok1 ok2
  go_quiet (fail)
  go_upto_region 8 with (first | (go_at_call 23; refine Calls.mono ((hN1.drewN nq).call KB.out) ?_; rintro e w2 ⟨rfl, hN2⟩) | (go_at_call 13; refine Calls.mono hN2.stands ?_; rintro e w3 ⟨rfl, hN3⟩))
  have y0 := hN3.cell x0 (by omega)
  have y1 := hN3.cell x1 (by omega)
  have hz3 := hN3.g.size
  have hgx3 : gx < w3.heap.size := hN3.x.lt
  have hlt0 : w.heap.size < w3.heap.size := by omega
  have v0 : (w3.alloc (.cells #[.int .i64 p1.win, .int .i64 p1.slow, .int .i64 p1.part, .int .i64 p1.rto, .int .i64 p1.mean, .int .i64 p1.spread, .int .i64 p1.faults, .bool p1.up, .bool p1.sure] 29)).cell? ⟨w.heap.size, 0, none⟩ = some (.int .u64 n0) := (World.cell?_of_block (heap_alloc_old _ _ hlt0)).trans y0
  have v1 : (w3.alloc (.cells #[.int .i64 p1.win, .int .i64 p1.slow, .int .i64 p1.part, .int .i64 p1.rto, .int .i64 p1.mean, .int .i64 p1.spread, .int .i64 p1.faults, .bool p1.up, .bool p1.sure] 29)).cell? ⟨w.heap.size, 1, none⟩ = some (.int .u64 n0) := (World.cell?_of_block (heap_alloc_old _ _ hlt0)).trans y1
  have hN4 : NS (w3.alloc (.cells #[.int .i64 p1.win, .int .i64 p1.slow, .int .i64 p1.part, .int .i64 p1.rto, .int .i64 p1.mean, .int .i64 p1.spread, .int .i64 p1.faults, .bool p1.up, .bool p1.sure] 29)) (w3.alloc (.cells #[.int .i64 p1.win, .int .i64 p1.slow, .int .i64 p1.part, .int .i64 p1.rto, .int .i64 p1.mean, .int .i64 p1.spread, .int .i64 p1.faults, .bool p1.up, .bool p1.sure] 29)) gx p1 := (hN3.alloc _).self
  have hZ : Hid ((w3.alloc (.cells #[.int .i64 p1.win, .int .i64 p1.slow, .int .i64 p1.part, .int .i64 p1.rto, .int .i64 p1.mean, .int .i64 p1.spread, .int .i64 p1.faults, .bool p1.up, .bool p1.sure] 29)).heap[w3.heap.size]? = some (.cells #[.int .i64 p1.win, .int .i64 p1.slow, .int .i64 p1.part, .int .i64 p1.rto, .int .i64 p1.mean, .int .i64 p1.spread, .int .i64 p1.faults, .bool p1.up, .bool p1.sure] 29)) := hid (heap_alloc_new _ _)
  have hB4 : Hid (Below w.heap.size w (w3.alloc (.cells #[.int .i64 p1.win, .int .i64 p1.slow, .int .i64 p1.part, .int .i64 p1.rto, .int .i64 p1.mean, .int .i64 p1.spread, .int .i64 p1.faults, .bool p1.up, .bool p1.sure] 29))) := hid (below_grown (BW.out) (hN3.alloc _).g (by omega) (by omega))
  have hB4s : w3.heap.size < (w3.alloc (.cells #[.int .i64 p1.win, .int .i64 p1.slow, .int .i64 p1.part, .int .i64 p1.rto, .int .i64 p1.mean, .int .i64 p1.spread, .int .i64 p1.faults, .bool p1.up, .bool p1.sure] 29)).heap.size := by simp
  generalize w3.alloc (.cells #[.int .i64 p1.win, .int .i64 p1.slow, .int .i64 p1.part, .int .i64 p1.rto, .int .i64 p1.mean, .int .i64 p1.spread, .int .i64 p1.faults, .bool p1.up, .bool p1.sure] 29) = W4 at *
  generalize hBB : w3.heap.size = B at *
  clear hBB
  have z0 : W4.cell? ⟨B, 0, none⟩ = some (.int .i64 p1.win) := cellOf hZ.out rfl
  have z1 : W4.cell? ⟨B, 1, none⟩ = some (.int .i64 p1.slow) := cellOf hZ.out rfl
  have z2 : W4.cell? ⟨B, 2, none⟩ = some (.int .i64 p1.part) := cellOf hZ.out rfl
  have z3 : W4.cell? ⟨B, 3, none⟩ = some (.int .i64 p1.rto) := cellOf hZ.out rfl
  have z4 : W4.cell? ⟨B, 4, none⟩ = some (.int .i64 p1.mean) := cellOf hZ.out rfl
  have z5 : W4.cell? ⟨B, 5, none⟩ = some (.int .i64 p1.spread) := cellOf hZ.out rfl
  have z6 : W4.cell? ⟨B, 6, none⟩ = some (.int .i64 p1.faults) := cellOf hZ.out rfl
  have z7 : W4.cell? ⟨B, 7, none⟩ = some (.bool p1.up) := cellOf hZ.out rfl
  have z8 : W4.cell? ⟨B, 8, none⟩ = some (.bool p1.sure) := cellOf hZ.out rfl
  have hneB : B ≠ gx := by omega
  clear hN1 hN2 hN3 x0 x1 x2 x3 y0 y1 BW KB
  go_upto_region 18 with (first | (go_at_call 24; refine Calls.mono (hN4.call KA3.out) ?_; rintro e w5 ⟨rfl, hN5⟩) | (go_at_call 13; refine Calls.mono (hN5.stands2 q6.out q7.out q8.out) ?_; rintro e w6 ⟨rfl, hN6⟩))
  have y0 := hN6.cell v0 (by omega)
  have hzz := hN6.g.size
  have hgx5 : gx < w6.heap.size := hN6.x.lt
  have hlt5 : w.heap.size < w6.heap.size := by omega
  have o0 : (w6.alloc (.cells #[.int .i64 p2.win, .int .i64 p2.slow, .int .i64 p2.part, .int .i64 p2.rto, .int .i64 p2.mean, .int .i64 p2.spread, .int .i64 0, .bool true, .bool true] 29)).cell? ⟨w.heap.size, 0, none⟩ = some (.int .u64 n0) := (World.cell?_of_block (heap_alloc_old _ _ hlt5)).trans y0
  have hM : NS (w6.alloc (.cells #[.int .i64 p2.win, .int .i64 p2.slow, .int .i64 p2.part, .int .i64 p2.rto, .int .i64 p2.mean, .int .i64 p2.spread, .int .i64 0, .bool true, .bool true] 29)) (w6.alloc (.cells #[.int .i64 p2.win, .int .i64 p2.slow, .int .i64 p2.part, .int .i64 p2.rto, .int .i64 p2.mean, .int .i64 p2.spread, .int .i64 0, .bool true, .bool true] 29)) gx p2 := (hN6.alloc _).self
  have hY : Hid ((w6.alloc (.cells #[.int .i64 p2.win, .int .i64 p2.slow, .int .i64 p2.part, .int .i64 p2.rto, .int .i64 p2.mean, .int .i64 p2.spread, .int .i64 0, .bool true, .bool true] 29)).heap[w6.heap.size]? = some (.cells #[.int .i64 p2.win, .int .i64 p2.slow, .int .i64 p2.part, .int .i64 p2.rto, .int .i64 p2.mean, .int .i64 p2.spread, .int .i64 0, .bool true, .bool true] 29)) := hid (heap_alloc_new _ _)
  have hB5 : Hid (Below w.heap.size w (w6.alloc (.cells #[.int .i64 p2.win, .int .i64 p2.slow, .int .i64 p2.part, .int .i64 p2.rto, .int .i64 p2.mean, .int .i64 p2.spread, .int .i64 0, .bool true, .bool true] 29))) := hid (below_grown hB4.out (hN6.alloc _).g (by omega) (by omega))
  have hB5s : w6.heap.size < (w6.alloc (.cells #[.int .i64 p2.win, .int .i64 p2.slow, .int .i64 p2.part, .int .i64 p2.rto, .int .i64 p2.mean, .int .i64 p2.spread, .int .i64 0, .bool true, .bool true] 29)).heap.size := by simp
  generalize w6.alloc (.cells #[.int .i64 p2.win, .int .i64 p2.slow, .int .i64 p2.part, .int .i64 p2.rto, .int .i64 p2.mean, .int .i64 p2.spread, .int .i64 0, .bool true, .bool true] 29) = W5 at *
  generalize hDD : w6.heap.size = D at *
  clear hDD
  have hneD : D ≠ gx := by omega
  have hgW5 : w.heap.size ≤ W5.heap.size := by omega
  have c0 : W5.cell? ⟨D, 0, none⟩ = some (.int .i64 p2.win) := cellOf hY.out rfl
  have c1 : W5.cell? ⟨D, 1, none⟩ = some (.int .i64 p2.slow) := cellOf hY.out rfl
  have c2 : W5.cell? ⟨D, 2, none⟩ = some (.int .i64 p2.part) := cellOf hY.out rfl
  have c3 : W5.cell? ⟨D, 3, none⟩ = some (.int .i64 p2.rto) := cellOf hY.out rfl
  have c4 : W5.cell? ⟨D, 4, none⟩ = some (.int .i64 p2.mean) := cellOf hY.out rfl
  have c5 : W5.cell? ⟨D, 5, none⟩ = some (.int .i64 p2.spread) := cellOf hY.out rfl
  have c6 : W5.cell? ⟨D, 6, none⟩ = some (.int .i64 0) := cellOf hY.out rfl
  have c7 : W5.cell? ⟨D, 7, none⟩ = some (.bool true) := cellOf hY.out rfl
  have c8 : W5.cell? ⟨D, 8, none⟩ = some (.bool true) := cellOf hY.out rfl
  clear z0 z1 z2 z3 z4 z5 z6 z7 z8 v0 v1 y0
  go_upto_region 19 with (go_at_call 24; refine Calls.mono (hM.call KA4.out) ?_; rintro e w20 ⟨rfl, hN20⟩)
  have r0 := hN20.drew.cell c0 hneD
  have r1 := hN20.drew.cell c1 hneD
  have r2 := hN20.drew.cell c2 hneD
  have r3 := hN20.drew.cell c3 hneD
  have r4 := hN20.drew.cell c4 hneD
  have r5 := hN20.drew.cell c5 hneD
  have r6 := hN20.drew.cell c6 hneD
  have r7 := hN20.drew.cell c7 hneD
  have r8 := hN20.drew.cell c8 hneD
  obtain ⟨wo20, rfl⟩ : ∃ wo : World, wo = w20 := ⟨_, rfl⟩
  go_region_held3 (fun w' => w'.cell? ⟨D, 0, none⟩ = some (.int .i64 p2.win) ∧ w'.cell? ⟨D, 1, none⟩ = some (.int .i64 p2.slow) ∧ w'.cell? ⟨D, 2, none⟩ = some (.int .i64 p2.part) ∧ w'.cell? ⟨D, 3, none⟩ = some (.int .i64 p2.rto) ∧ w'.cell? ⟨D, 4, none⟩ = some (.int .i64 p2.mean) ∧ w'.cell? ⟨D, 5, none⟩ = some (.int .i64 p2.spread) ∧ w'.cell? ⟨D, 6, none⟩ = some (.int .i64 0) ∧ w'.cell? ⟨D, 7, none⟩ = some (.bool true) ∧ w'.cell? ⟨D, 8, none⟩ = some (.bool true)) (refine ⟨?_, ?_, ?_, ?_, ?_, ?_, ?_, ?_, ?_⟩ <;> assumption) (first | (go_at_call 14; refine Calls.mono hN20.drew.live ?_; rintro e w21 ⟨rfl, hN21⟩; have s0 := hN21.cell c0 hneD; have s1 := hN21.cell c1 hneD; have s2 := hN21.cell c2 hneD; have s3 := hN21.cell c3 hneD; have s4 := hN21.cell c4 hneD; have s5 := hN21.cell c5 hneD; have s6 := hN21.cell c6 hneD; have s7 := hN21.cell c7 hneD; have s8 := hN21.cell c8 hneD) | (go_at_call 13; refine Calls.mono (hN21.stands2 q6.out q7.out q8.out) ?_; rintro e w22 ⟨rfl, hN22⟩; have t0' := hN22.cell c0 hneD; have t1' := hN22.cell c1 hneD; have t2' := hN22.cell c2 hneD; have t3' := hN22.cell c3 hneD; have t4' := hN22.cell c4 hneD; have t5' := hN22.cell c5 hneD; have t6' := hN22.cell c6 hneD; have t7' := hN22.cell c7 hneD; have t8' := hN22.cell c8 hneD))
  all_goals
    go_wp2
    go_ret
    exact ⟨rfl, below_grown hB5.out hN22.g (by omega) hgW5⟩

theorem PathNonces_calls (c la : Nat) (A : Option Addr) (ds : List DeedR) (hla : ds.length = la) (w : World) (hR : RdD w A ds) (hO : DeedsOk ds) (hca : la ≤ c) (hcm : c ≤ 9223372036854775807) (n0 n1 t0 t1 : Int) (a0 : 0 ≤ n0) (a1 : n0 ≤ 18446744073709551615) (a2 : 0 ≤ n1) (a3 : n1 ≤ 18446744073709551615) (b0 : 0 ≤ t0) (b1 : t0 ≤ 4294967295) (b2 : 0 ≤ t1) (b3 : t1 ≤ 4294967295) :
    Calls Try.prog 8 #[.slice A la c, .agg #[.int .u64 n0, .int .u64 n1], .agg #[.int .u32 t0, .int .u32 t1]] w fun e w' => e = .returned (.bool true) ∧ Below w.heap.size w w' := by
  by_cases h1 : n1 = n0
  · subst h1
    by_cases h2 : 0 < t0
    · exact nonces_2 c la A ds hla w hR hO hca hcm n1 t0 t1 a0 a1 h2 b1 b2 b3
    · obtain rfl : t0 = 0 := by omega
      exact nonces_3 c la A ds hla w hR hO hca hcm n1 t1 a0 a1 b2 b3
  · by_cases h2 : 0 < t0
    · exact nonces_0 c la A ds hla w hR hO hca hcm n0 n1 t0 t1 a0 a1 a2 a3 h1 h2 b1 b2 b3
    · obtain rfl : t0 = 0 := by omega
      exact nonces_1 c la A ds hla w hR hO hca hcm n0 n1 t1 a0 a1 a2 a3 h1 b2 b3
end Go.Proofs.Ytopcokjfgldblaa
