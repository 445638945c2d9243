/-
  LAYER 15, WALK: PathForks.
-/
import Derived.Test.YtopcokjfgldblaaPathP
import Derived.Deep.RegionHeld3
import Derived.LoopTactic
set_option linter.unusedVariables false
set_option linter.unusedSimpArgs false
namespace Go.Proofs.Ytopcokjfgldblaa
open Go.RowKit

attribute [local go_sem] fw0 fw1 fw2 fw3 fw4 fw5 fw6 fw7 fw8 neqw eqlw

theorem Pair.other {w W0 : World} {gx gy g : Nat} {px py p : PR} {T : TypeId} (h : Pair w gx gy W0 px py) (hi : IsP W0 g T p) (h1 : g ≠ gx) (h2 : g ≠ gy) : IsP w g T p := by
  have := h.grow.block g hi.lt h1 h2
  unfold IsP; rw [this]; exact hi
theorem IsP.below {w w' : World} {g : Nat} {T : TypeId} {p : PR} (h : IsP w g T p) (hb : Below w.heap.size w w') : IsP w' g T p := h.kept (grown_below (row := none) hb) (by simp)

set_option maxHeartbeats 4000000 in
set_option maxRecDepth 100000 in
theorem PathForks_calls (c la c2 la2 : Nat) (A A2 : Option Addr) (ds ds2 : List DeedR) (hla : ds.length = la) (hla2 : ds2.length = la2) (w : World) (hR : RdD w A ds) (hO : DeedsOk ds) (hR2 : RdD w A2 ds2) (hO2 : DeedsOk ds2) (hca : la ≤ c) (hcm : c ≤ 9223372036854775807) (hca2 : la2 ≤ c2) (hcm2 : c2 ≤ 9223372036854775807) :
    Calls Try.prog 9 #[.slice A la c, .slice A2 la2 c2] w fun e w' => e = .returned (.bool true) ∧ Below w.heap.size w w' := by
  have K := hid (play_calls 700 (by decide) (by decide) c la A ds hla w hR hO hca hcm)
  clear hR hO hla
  have HR := hid hR2; clear hR2
  have HO := hid hO2; clear hO2
  have HLA := hid hla2; clear hla2
  go_enter Try.func9, Try.ntmps9
  go_wp2_with (first | (go_at_call 20; refine Calls.mono K.out ?_; rintro e w1 ⟨gy, p, rfl, hlt, hP, ok, hB1⟩) | (go_at_call 25; refine Calls.mono (fork_calls _ _ _ hP.x) ?_; rintro e w2 ⟨rfl, hF, hB2⟩; have hP2 := hP.below hB2) | (go_at_call 26; refine Calls.mono (rfork_calls _ _ _ hP2.y) ?_; rintro e w3 ⟨rfl, hH, hB3⟩))
  clear K
  have hP3 := hP2.below hB3
  have z1 := hB1.size
  have z2 := hB2.size
  have z3 := hB3.size
  have l1 := hP.x.lt
  have l2 := hP.y.lt
  have l3 := hF.lt
  have hB13 := hid (below_then (below_then hB1 hB2) hB3)
  have HXW : IsP w3 w.heap.size 65 p := hP3.x
  have HYW : IsP w3 gy 61 p := hP3.y
  have hQ0 : Pair w3 w1.heap.size w2.heap.size w3 p p := ⟨hF.below hB3, hH, by omega, Grow2.refl _ _ _⟩
  have hG12 : Hid (∀ b o v, b < w.heap.size → w.cell? ⟨b, o, none⟩ = some v → w3.cell? ⟨b, o, none⟩ = some v) := fun b o v hb hc => (hB13.out.cell (p := ⟨b, o, none⟩) (by exact hb)).trans hc
  clear hP hP2 hP3 hF hH hB1 hB2 hB3
  go_loopw [10] (fun i wr => ∃ (k : Nat) (q : PR), k ≤ 200 ∧ k ≤ la2 ∧ i = .int .i64 k ∧ Pair wr w1.heap.size w2.heap.size w3 q q ∧ q.Ok (200 + k)) (fun i _ => 200 - (intOf i).toNat)
  case atStart => exact ⟨0, p, by omega, by omega, rfl, hQ0, ok⟩
  case round =>
    obtain ⟨k, q, hk, hkl, rfl, hP, ok⟩ := hrel
    clear hQ0
    have hz := hP.grow.size
    by_cases hl : k < la2 ∧ k < 200
    · obtain ⟨hl2, hl3⟩ := hl
      have hl4 : (k : Int) < 200 := by omega
      obtain ⟨b1, o1, rfl, hb1, hcells⟩ := HR.out.at_ k (by rw [HLA.out]; omega)
      obtain ⟨d0, d1, d2, d3, d4⟩ := hcells wr (fun o' v hc => hP.cell (hG12.out _ _ _ hb1 hc) (by omega) (by omega))
      clear hcells
      have n0 := HO.out k
      generalize ds2.getD k default = D at *
      obtain ⟨dd, da, db, dm, dn⟩ := D
      simp only at d0 d1 d2 d3 d4 n0
      have hd := do_calls w1.heap.size w2.heap.size q wr (200 + k) dd da db dm dn ok hP.self
      have ok2 : (deedP dd da db dm dn q).Ok (200 + ((k + 1 : Nat) : Int)) := by have := deed_ok (d := dd) (a := da) (b := db) (m := dm) ok (by omega) n0.1 n0.2; rw [Int.add_assoc] at this; exact_mod_cast this
      have HD := hid hd
      clear hd ok n0
      generalize deedP dd da db dm dn q = p2 at *
      have OK2 := hid ok2
      clear ok2
      go_wp2_with (go_at_call 22; refine Calls.mono HD.out ?_; rintro e w4 ⟨rfl, hP4⟩)
      go_roundw
      case rel => exact ⟨k + 1, p2, by omega, by omega, by go_num, hP4.rebase _ hP.grow, OK2.out⟩
      case measure => simp [intOf]; omega
    · have HX := hP.other HXW (by omega) (by omega)
      have HY := hP.other HYW (by omega) (by omega)
      have hBw : Below w.heap.size w wr := hB13.out.trans (hP.grow.below (by omega) (by omega) (by omega))
      obtain ⟨a0, a1, a2, a3, a4, a5, a6, a7, a8, a9, a10, a11, a12, a13⟩ := p
      obtain ⟨b0, b1, b2, b3, b4, b5, b6, b7, b8, b9, b10, b11, b12, b13⟩ := q
      have Hx := hid HX; have Hp := hid hP.x; have Hg := hid hP.y; have Hy := hid HY
      clear HX HY HXW HYW hP ok HR HO
      go_wp2_with fail
      all_goals
        obtain ⟨wo, rfl⟩ : ∃ wo : World, wo = wr := ⟨_, rfl⟩
        have f0 := (show IsP wo.drew gy 61 _ from Hy.out).facts
        have g0 := (show IsP wo.drew w2.heap.size 61 _ from Hg.out).facts
        obtain ⟨f0, f1, f2, f3, f4, f5, f6, f7, f8, f9, f10, f11, f12, f13, ff⟩ := f0
        obtain ⟨g0, g1, g2, g3, g4, g5, g6, g7, g8, g9, g10, g11, g12, g13, gf⟩ := g0
        go_region_held3 (fun w' => w'.cell? ⟨gy, 0, none⟩ = some (.int .i64 a0) ∧ w'.cell? ⟨gy, 1, none⟩ = some (.int .i64 a1) ∧ w'.cell? ⟨gy, 2, none⟩ = some (.int .i64 a2) ∧ w'.cell? ⟨gy, 3, none⟩ = some (.int .i64 a3) ∧ w'.cell? ⟨gy, 4, none⟩ = some (.int .i64 a4) ∧ w'.cell? ⟨gy, 5, none⟩ = some (.int .i64 a5) ∧ w'.cell? ⟨gy, 6, none⟩ = some (.int .i64 a6) ∧ w'.cell? ⟨gy, 7, none⟩ = some (.bool a7) ∧ w'.cell? ⟨gy, 8, none⟩ = some (.bool a8) ∧ w'.cell? ⟨w2.heap.size, 0, none⟩ = some (.int .i64 b0) ∧ w'.cell? ⟨w2.heap.size, 1, none⟩ = some (.int .i64 b1) ∧ w'.cell? ⟨w2.heap.size, 2, none⟩ = some (.int .i64 b2) ∧ w'.cell? ⟨w2.heap.size, 3, none⟩ = some (.int .i64 b3) ∧ w'.cell? ⟨w2.heap.size, 4, none⟩ = some (.int .i64 b4) ∧ w'.cell? ⟨w2.heap.size, 5, none⟩ = some (.int .i64 b5) ∧ w'.cell? ⟨w2.heap.size, 6, none⟩ = some (.int .i64 b6) ∧ w'.cell? ⟨w2.heap.size, 7, none⟩ = some (.bool b7) ∧ w'.cell? ⟨w2.heap.size, 8, none⟩ = some (.bool b8)) (refine ⟨?_, ?_, ?_, ?_, ?_, ?_, ?_, ?_, ?_, ?_, ?_, ?_, ?_, ?_, ?_, ?_, ?_, ?_⟩ <;> assumption) (first | (go_at_call 14; refine Calls.mono (live_calls _) ?_; rintro e w5 ⟨rfl, hB5⟩; have Hy5 := hid (Hy.out.below (w := wo.drew) hB5); have Hg5 := hid (Hg.out.below (w := wo.drew) hB5); have Hx5 := hid (Hx.out.below (w := wo.drew) hB5); have Hp5 := hid (Hp.out.below (w := wo.drew) hB5); obtain ⟨m0, m1, m2, m3, m4, m5, m6, m7, m8, m9, m10, m11, m12, m13, mf⟩ := Hy5.out.facts; obtain ⟨n0, n1, n2, n3, n4, n5, n6, n7, n8, n9, n10, n11, n12, n13, nf⟩ := Hg5.out.facts) | (go_at_call 13; refine Calls.mono (stands_way _ _ _ Hx5.out) ?_; rintro e w6 ⟨rfl, hB6⟩; have Hy6 := hid (Hy5.out.below hB6); have Hg6 := hid (Hg5.out.below hB6); have Hp6 := hid (Hp5.out.below hB6); obtain ⟨s0, s1, s2, s3, s4, s5, s6, s7, s8, s9, s10, s11, s12, s13, sf⟩ := Hy6.out.facts; obtain ⟨t0, t1, t2, t3, t4, t5, t6, t7, t8, t9, t10, t11, t12, t13, tf⟩ := Hg6.out.facts) | (go_at_call 13; refine Calls.mono (stands_way _ _ _ Hp6.out) ?_; rintro e w7 ⟨rfl, hB7⟩; have Hy7 := hid (Hy6.out.below hB7); have Hg7 := hid (Hg6.out.below hB7); obtain ⟨u0, u1, u2, u3, u4, u5, u6, u7, u8, u9, u10, u11, u12, u13, uf⟩ := Hy7.out.facts; obtain ⟨v0, v1, v2, v3, v4, v5, v6, v7, v8, v9, v10, v11, v12, v13, vf⟩ := Hg7.out.facts))
        all_goals
          go_wp2
          go_ret
          exact ⟨rfl, below_then (below_then (below_then hBw (show Below wo.heap.size wo w5 from ⟨hB5.os, hB5.tape, hB5.output, hB5.size, hB5.block⟩)) hB6) hB7⟩
end Go.Proofs.Ytopcokjfgldblaa
