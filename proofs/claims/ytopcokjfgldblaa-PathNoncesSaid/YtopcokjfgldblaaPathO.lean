/-
  LAYER 15, WALK: PathBounds.
-/
import Derived.Test.YtopcokjfgldblaaPathK
import Derived.Test.YtopcokjfgldblaaPathJ
import Derived.Test.YtopcokjfgldblaaLawD
import Derived.LoopTactic
set_option linter.unusedVariables false
set_option linter.unusedSimpArgs false
namespace Go.Proofs.Ytopcokjfgldblaa
open Go.RowKit

attribute [local go_sem] fw0 fw1 fw2 fw3 fw4 fw5 fw6 fw7 fw8

theorem sampP_mtu (t : Int) (p : PR) : (sampP t p).mtu = p.mtu := rfl
theorem deed_mtu {d a b nonce : Int} {m : Bool} {p : PR} : (deedP d a b m nonce p).mtu = p.mtu := by
  unfold deedP
  split
  · unfold sampQ; split <;> rfl
  split
  · unfold growQ; split
    · unfold growP; split
      · rfl
      · split
        · split <;> rfl
        · split <;> rfl
    · rfl
  split
  · rfl
  split
  · rfl
  split
  · rfl
  split
  · rfl
  split
  · unfold beatQ; split <;> rfl
  · unfold answQ; split
    · unfold answP; split <;> rfl
    · rfl

/-- A row of deeds, seen from a later world. -/
theorem RdD.at_ {W0 : World} {A : Option Addr} {ds : List DeedR} (h : RdD W0 A ds) (j : Nat) (hj : j < ds.length) : ∃ b o, A = some ⟨b, o, none⟩ ∧ b < W0.heap.size ∧
    ∀ (w : World), (∀ o' v, W0.cell? ⟨b, o', none⟩ = some v → w.cell? ⟨b, o', none⟩ = some v) → w.cell? ⟨b, o + j * 5, none⟩ = some (.int .i64 (ds.getD j default).d) ∧ w.cell? ⟨b, o + j * 5 + 1, none⟩ = some (.int .i64 (ds.getD j default).a) ∧
    w.cell? ⟨b, o + j * 5 + 2, none⟩ = some (.int .i64 (ds.getD j default).b) ∧ w.cell? ⟨b, o + j * 5 + 3, none⟩ = some (.bool (ds.getD j default).m) ∧ w.cell? ⟨b, o + j * 5 + 4, none⟩ = some (.int .u64 (ds.getD j default).n) := by
  obtain ⟨b, o, e, hb, c0, c1, c2, c3, c4⟩ := h j hj
  exact ⟨b, o, e, hb, fun w hw => ⟨hw _ _ c0, hw _ _ c1, hw _ _ c2, hw _ _ c3, hw _ _ c4⟩⟩

set_option maxHeartbeats 4000000 in
set_option maxRecDepth 100000 in
theorem PathBounds_calls (x : Int) (hx0 : 0 ≤ x) (hx1 : x ≤ 65535) (c la : Nat) (A : Option Addr) (ds : List DeedR) (hla : ds.length = la) (w : World) (hR : RdD w A ds) (hO : DeedsOk ds) (hca : la ≤ c) (hcm : c ≤ 9223372036854775807) : Calls Try.prog 7 #[.int .u16 x, .slice A la c] w fun e w' => e = .returned (.bool true) ∧ Below w.heap.size w w' := by
  have HR := hid hR; clear hR
  have HO := hid hO; clear hO
  have HLA := hid hla; clear hla
  obtain ⟨m, HM, m0, m1⟩ : ∃ m : Int, Hid (m = 64 + x % 1437) ∧ 64 ≤ m ∧ m ≤ 1500 := ⟨_, hid rfl, by omega, by omega⟩
  have k0 : ∀ W, Calls Try.prog 11 #[.int .i64 (64 + x % 1437)] W fun e w' => e = .returned (.tuple #[.pointer (some ⟨W.heap.size, 0, none⟩), .int .i64 0]) ∧ IsP w' W.heap.size 65 (newP m) ∧ Below W.heap.size W w' := fun W => by rw [← HM.out]; exact new_calls m W (by omega) (by omega)
  have k1 : ∀ W, Calls Try.prog 21 #[.int .i64 (64 + x % 1437)] W fun e w' => e = .returned (.tuple #[.pointer (some ⟨W.heap.size, 0, none⟩), .int .i64 0]) ∧ IsP w' W.heap.size 61 (newP m) ∧ Below W.heap.size W w' := fun W => by rw [← HM.out]; exact rnew_calls m W (by omega) (by omega)
  have K0 := hid k0; have K1 := hid k1; clear k0 k1
  go_enter Try.func7, Try.ntmps7
  go_wp2_with (first | (go_at_call 11; refine Calls.mono (K0.out _) ?_; rintro e w1 ⟨rfl, hI1, hB1⟩) | (go_at_call 21; refine Calls.mono (K1.out _) ?_; rintro e w2 ⟨rfl, hI2, hB2⟩))
  clear K0 K1
  generalize hMM : 64 + x % 1437 = m' at *
  obtain rfl : m = m' := HM.out
  clear hMM
  have hl1 := hI1.lt
  have hP0 : Pair w2 w.heap.size w1.heap.size w2 (newP m) (newP m) := ⟨hI1.kept (grown_below (row := none) hB2) (by simp), hI2, by omega, Grow2.refl _ _ _⟩
  have hZ1 := hB1.size
  have hZ2 := hB2.size
  have hB12 := hid (below_then hB1 hB2)
  have hG12 : Hid (∀ b o v, b < w.heap.size → w.cell? ⟨b, o, none⟩ = some v → w2.cell? ⟨b, o, none⟩ = some v) := fun b o v hb hc => (hB2.cell (p := ⟨b, o, none⟩) (by show b < _; omega)).trans ((hB1.cell (p := ⟨b, o, none⟩) (by exact hb)).trans hc)
  clear hI1 hI2 hB1 hB2
  go_loopw [10] (fun i wr => ∃ (k : Nat) (p : PR), k ≤ 300 ∧ k ≤ la ∧ i = .int .i64 k ∧ Pair wr w.heap.size w1.heap.size w2 p p ∧ p.Ok k ∧ p.mtu = m) (fun i _ => 300 - (intOf i).toNat)
  case atStart => exact ⟨0, newP m, by omega, by omega, rfl, hP0, PR.Ok.new m (by omega) (by omega), rfl⟩
  case round =>
    obtain ⟨k, p, hk, hkl, rfl, hP, ok, hmt⟩ := hrel
    clear hP0
    have hz := hP.grow.size
    by_cases hlt : k < la ∧ k < 300
    · obtain ⟨hl2, hl3⟩ := hlt
      have hl4 : (k : Int) < 300 := by omega
      obtain ⟨b1, o1, rfl, hb1, hcells⟩ := HR.out.at_ k (by rw [HLA.out]; omega)
      obtain ⟨d0, d1, d2, d3, d4⟩ := hcells wr (fun o' v hc => hP.cell (hG12.out _ _ _ hb1 hc) (by omega) (by omega))
      clear hcells
      have n0 := HO.out k
      generalize ds.getD k default = D at *
      obtain ⟨dd, da, db, dm, dn⟩ := D
      simp only at d0 d1 d2 d3 d4 n0
      have hd := do_calls w.heap.size w1.heap.size p wr k dd da db dm dn ok hP.self
      have ok2 : (deedP dd da db dm dn p).Ok ((k + 1 : Nat) : Int) := by have := deed_ok (d := dd) (a := da) (b := db) (m := dm) ok (by omega) n0.1 n0.2; exact_mod_cast this
      have hm2 : (deedP dd da db dm dn p).mtu = m := by rw [deed_mtu, hmt]
      have HD := hid hd
      clear hd ok hmt
      generalize deedP dd da db dm dn p = p2 at *
      obtain ⟨h1, h2, h3, h4, h5, h6, h7, h8, h9, h10, h11, h12, h13, h14, h15, h16, h17, h18, h19, h20, h21, h22⟩ := id ok2
      have OK2 := hid ok2
      clear ok2 h1 h2 h8 h12 h14 h15 h16 h17 h18 h19 h20 h21 h22
      have HM2 := hid hm2
      rw [hm2] at h3 h5
      clear hm2
      have hs : 4 * m ≤ p2.slow := by omega
      clear h5
      obtain ⟨win, slow, part, rto, mean, spread, faults, up, sure, mtu, meas, beat, nonce, since⟩ := p2
      simp only at h3 h4 h6 h7 h9 h10 h11 h13 hs
      focus
        go_wp2_with (first | (go_at_call 22; refine Calls.mono HD.out ?_; rintro e w3 ⟨rfl, hP3⟩) | (go_at_call 13; refine Calls.mono (stands_way _ _ _ hP3.x) ?_; rintro e w4 ⟨rfl, hB4⟩))
        go_roundw
        case rel => exact ⟨k + 1, _, by omega, by omega, by go_num, ((hP3.below hB4).below ((Below.refl _ _).alloc (Nat.le_refl _) _)).rebase _ hP.grow, OK2.out, HM2.out⟩
        case measure => simp [intOf]; omega
    · go_wp2_with (go_at_call 14; refine Calls.mono (live_calls _) ?_; rintro e w5 ⟨rfl, hB5⟩)
      all_goals
        go_ret
        exact ⟨rfl, below_then (hB12.out.trans (hP.grow.below (by omega) (by omega) (by omega))) hB5⟩
end Go.Proofs.Ytopcokjfgldblaa
