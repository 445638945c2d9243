/-
  LAYER 9, WALKS: the law ArpBounds.
-/
import Derived.Test.YtebfoigbiekeiaaArpL
import Derived.Test.YtebfoigbiekeiaaArpM
import Derived.BigQuiet
set_option linter.unusedVariables false
set_option linter.unusedSimpArgs false
namespace Go.Proofs.Ytebfoigbiekeiaa
open Go Go.RowKit

/-- How many bodies a call may lose. -/
def Lose (s : Ar) (f : Ar × List (List Int) × Int) : Prop := s.lost ≤ f.1.lost ∧ f.1.lost ≤ s.lost + 40
theorem lose_send (s : Ar) (to : Int) (xs : List Int) (now : Int) : Lose s (s.send to xs now) := by
  have h1 := (room_facts (s.at now)).2.2.2
  have h2 : (s.at now).lost = s.lost := rfl
  unfold Lose Ar.send
  split
  · simp only; omega
  · unfold Ar.send2
    split
    · simp only; omega
    · split
      · split
        · simp only; omega
        · split <;> (simp only; omega)
      · split <;> (simp only; omega)
theorem lose_take (s : Ar) (a : Q) (now : Int) : Lose s (s.take a now) := by
  have h1 := (room_facts (s.at now)).2.2.2
  have h2 : (s.at now).lost = s.lost := rfl
  unfold Lose Ar.take
  split
  · simp only; omega
  · unfold Ar.take2
    split
    · simp only; omega
    · split
      · simp only; omega
      · split
        · split <;> (simp only; omega)
        · simp only; omega
theorem lose_tick (s : Ar) (h : s.Ok) (now : Int) : Lose s (s.tick now) := by
  have h1 := tickL_lost now s.m (fun p hp => (h.en p hp).2.2.2.2.2.2.1)
  have h2 := h.few
  unfold Lose Ar.tick
  split
  · constructor <;> (simp only; omega)
  · constructor <;> (simp only; omega)
theorem rise_at {α : Type} {m : List (Int × α)} (h : Rising m) (i : Nat) (hi : i + 1 < m.length) : (m[i]'(by omega)).1 < (m[i + 1]'hi).1 :=
  List.pairwise_iff_getElem.1 h i (i + 1) (by omega) hi (by omega)
set_option maxHeartbeats 12800000 in
set_option maxRecDepth 100000 in
theorem ArpBounds_calls (W : World) (ip : Int) (hip : 0 ≤ ip ∧ ip < 4294967296) (A : Option Addr) (l c : Nat) (hD : RdD9 W A l) (hlc : l ≤ c) (hcm : c ≤ 9223372036854775807) :
    Calls Try.prog 4 #[.int .u32 ip, .slice A l c] W fun e w' => e = .returned (.bool true) ∧ Below W.heap.size W w' := by
  have HD := hid hD
  clear hD
  go_enter Try.func4, Try.ntmps4
  go_wp2_with (go_at_call 10; refine hold ?_)
  refine hid ?_
  refine Calls.mono (cnew_calls 5 ip (by decide) (by decide) hip W) ?_
  rintro e w1 ⟨g, b, rfl, hg, hb, hc, hbl⟩
  have HG := hid hg; have HBG := hid hb
  have HH := hid (show Has W w1 g b (newA 5 ip) from ⟨_, _, hc, ⟨hbl, hg, hb⟩⟩)
  clear hc hbl hg hb
  go_wp2_with fail
  go_loopw [7] (fun i w' => ∃ (j : Nat) (s : Ar), j ≤ l ∧ j ≤ 300 ∧ i = .int .i64 j ∧ Has W w' g b s ∧ 0 ≤ s.lost ∧ s.lost ≤ 40 * j) (fun i _ => 300 - (intOf i).toNat)
  case atStart => exact ⟨0, newA 5 ip, by omega, by omega, rfl, HH.out, by show (0 : Int) ≤ 0; omega, by show (0 : Int) ≤ 40 * 0; omega⟩
  case round =>
    obtain ⟨j, s, hjl, hj3, rfl, hh, hl0, hl1⟩ := hrel
    have HJ := hid hh
    clear hh HH
    have hj0 : (0 : Int) ≤ (j : Int) := by omega
    by_cases hlt : j < l ∧ j < 300
    · have hx1 : (j : Int) < (l : Int) := by omega
      have hx2 : (j : Int) < 300 := by omega
      have HBE : Hid (Below W.heap.size W wr) := hid (by obtain ⟨S, M, _, h2⟩ := HJ.out; exact h2.bel)
      obtain ⟨b1, o1, d, Aj, cj, rfl, hda⟩ := HD.out j hlt.1
      have HDA := hid hda
      obtain ⟨k0, k1, k2, k8⟩ := (hda.below HBE.out).cellsOf
      have HLO : Hid (0 ≤ s.lost ∧ s.lost ≤ 4611686018427387904) := hid (by omega)
      clear hda
      go_wp2_with (with_reducible refine hold_op (o := ⟨some 35, _, _, _, _, _⟩) ?_)
      rename_i K1 hK1 K0 hK0
      have HJOIN : Hid (∀ (s2 : Ar) (w3 : World) (x8 x9 x29 x30 x31 x32 x33 x34 x35 x36 x37 x38 x39 x40 x41 x42 x43 x44 x45 x46 x47 x48 x49 x50 x51 x52 x53 x54 x55 x56 x57 x58 x59 x60 x61 x62 x63 x64 x65 x66 x67 x68 x69 x70 x71 x72 x73 x74 x75 x76 x77 x78 x79 x80 x81 x82 x83 x84 x85 x86 x87 x88 x89 x90 x91 x92 x93 x94 x95 x96 x97 x98 x99 x100 x101 x102 x103 x104 x105 x106 x107 x108 x109 x110 x111 x112 x113 x114 x115 x116 x117 x118 x119 x120 x121 x122 x123 x124 x125 : Value), Has W w3 g b s2 → s.lost ≤ s2.lost ∧ s2.lost ≤ s.lost + 40 → K1 { tmps := #[Value.int IntKind.u32 ip, Value.slice (some { block := b1, off := o1 }) l c, undef, undef, u4, Value.pointer (some { block := g, off := 0 }), Value.int IntKind.i64 0, Value.int IntKind.i64 ↑j, x8, x9, Value.tuple #[Value.pointer (some { block := g, off := 0 }), Value.int IntKind.i64 0], Value.int IntKind.u32 ip, Value.tuple #[Value.pointer (some { block := g, off := 0 }), Value.int IntKind.i64 0], Value.pointer (some { block := g, off := 0 }), Value.int IntKind.i64 0, Value.int IntKind.i64 0, Value.bool false, Value.bool false, Value.pointer (some { block := g, off := 0 }), Value.bool false, Value.bool false, Value.int IntKind.i64 ↑j, Value.slice (some { block := b1, off := o1 }) l c, Value.int IntKind.i64 ↑l, Value.bool true, Value.bool true, Value.int IntKind.i64 ↑j, Value.bool true, Value.bool true, x29, x30, x31, x32, x33, x34, x35, x36, x37, x38, x39, x40, x41, x42, x43, x44, x45, x46, x47, x48, x49, x50, x51, x52, x53, x54, x55, x56, x57, x58, x59, x60, x61, x62, x63, x64, x65, x66, x67, x68, x69, x70, x71, x72, x73, x74, x75, x76, x77, x78, x79, x80, x81, x82, x83, x84, x85, x86, x87, x88, x89, x90, x91, x92, x93, x94, x95, x96, x97, x98, x99, x100, x101, x102, x103, x104, x105, x106, x107, x108, x109, x110, x111, x112, x113, x114, x115, x116, x117, x118, x119, x120, x121, x122, x123, x124, x125, undef], defers := [] } w3) := by
        refine hid ?_
        intro s2 w3 x8 x9 x29 x30 x31 x32 x33 x34 x35 x36 x37 x38 x39 x40 x41 x42 x43 x44 x45 x46 x47 x48 x49 x50 x51 x52 x53 x54 x55 x56 x57 x58 x59 x60 x61 x62 x63 x64 x65 x66 x67 x68 x69 x70 x71 x72 x73 x74 x75 x76 x77 x78 x79 x80 x81 x82 x83 x84 x85 x86 x87 x88 x89 x90 x91 x92 x93 x94 x95 x96 x97 x98 x99 x100 x101 x102 x103 x104 x105 x106 x107 x108 x109 x110 x111 x112 x113 x114 x115 x116 x117 x118 x119 x120 x121 x122 x123 x124 x125 h3 hls
        have H3 := hid h3; have HLS := hid hls
        clear h3 hls hK0 k0 k1 k2 k8
        refine hK1 _ _ ?_
        go_wp2_with (go_at_call 17; refine hold ?_)
        refine hid ?_
        refine Calls.mono H3.out.table ?_
        rintro e w4 ⟨v4, rfl, ho4, h4, _⟩
        obtain ⟨A4, c4, rfl, hf4⟩ := ho4.form
        have H4 := hid h4; have HF4 := hid hf4
        obtain ⟨n4, hn4⟩ : ∃ n4, n4 = s2.m.length := ⟨_, rfl⟩
        rw [← hn4] at HF4 ⊢
        have HN4 := hid hn4
        have hn8 : n4 ≤ 8 := by have := h4.ok.few; omega
        have h8 : ¬ 8 < (n4 : Int) := by omega
        clear ho4 hf4 h4 hn4 H3
        go_wp2_with fail
        go_loopw [9] (fun i w' => ∃ k : Nat, k ≤ n4 ∧ i = .int .i64 k ∧ Below w4.heap.size w4 w') (fun i _ => n4 - (intOf i).toNat)
        case atStart => exact ⟨0, by omega, rfl, Below.refl _ _⟩
        case round =>
          obtain ⟨k, hk, rfl, hbk⟩ := hrel
          have HBK := hid hbk
          clear hbk
          have hk0' : (0 : Int) ≤ (k : Int) := by omega
          by_cases hkl : k < n4
          · have hk1' : (k : Int) < (n4 : Int) := by omega
            obtain ⟨q, rfl, _, hq, hcells⟩ := HF4.out (by omega)
            have hkm : k < s2.m.length := by have := HN4.out; omega
            have HCL : Hid (∀ W', Below w4.heap.size w4 W' → W'.cell? ⟨q, k * 4, none⟩ = some (.int .u32 s2.m[k].1) ∧ W'.cell? ⟨q, k * 4 + 1, none⟩ = some (.int .u64 s2.m[k].2.mac) ∧ W'.cell? ⟨q, k * 4 + 2, none⟩ = some (.bool s2.m[k].2.known) ∧ W'.cell? ⟨q, k * 4 + 3, none⟩ = some (.int .i64 s2.m[k].2.wait.length)) := hid (fun W' hb => by
              have ht := tabC_at s2.m k hkm
              rw [Nat.mul_comm 4 k] at ht
              exact ⟨(hb.cell (p := ⟨q, k * 4, none⟩) hq).trans ((hcells _ (by omega)).trans ht.1), (hb.cell (p := ⟨q, k * 4 + 1, none⟩) hq).trans ((hcells _ (by omega)).trans ht.2.1), (hb.cell (p := ⟨q, k * 4 + 2, none⟩) hq).trans ((hcells _ (by omega)).trans ht.2.2.1), (hb.cell (p := ⟨q, k * 4 + 3, none⟩) hq).trans ((hcells _ (by omega)).trans ht.2.2.2)⟩)
            have HCM : Hid (∀ W', Below w4.heap.size w4 W' → 1 ≤ k → W'.cell? ⟨q, (k - 1) * 4, none⟩ = some (.int .u32 (s2.m[k - 1]'(by omega)).1)) := hid (fun W' hb h1 => by
              have ht := tabC_at s2.m (k - 1) (by omega)
              rw [Nat.mul_comm 4 (k - 1)] at ht
              exact (hb.cell (p := ⟨q, (k - 1) * 4, none⟩) hq).trans ((hcells _ (by omega)).trans ht.1))
            have hri : 1 ≤ k → (s2.m[k - 1]'(by omega)).1 < s2.m[k].1 := fun h1 => by
              have := rise_at H4.out.ok.rise (k - 1) (by omega)
              have e : k - 1 + 1 = k := by omega
              simp only [e] at this
              exact this
            have hen := H4.out.ok.en _ (List.getElem_mem hkm)
            have hp4 := hen.2.2.2.2.2.2.1
            have hpk := hen.2.2.2.2.2.2.2.1
            obtain ⟨pk, hpk0⟩ : ∃ x, x = s2.m[k].1 := ⟨_, rfl⟩
            obtain ⟨pm, hpm0⟩ : ∃ x, x = s2.m[k].2.mac := ⟨_, rfl⟩
            obtain ⟨kn, hkn0⟩ : ∃ x, x = s2.m[k].2.known := ⟨_, rfl⟩
            obtain ⟨pn, hpn0⟩ : ∃ x, x = s2.m[k].2.wait.length := ⟨_, rfl⟩
            rw [← hpk0, ← hpm0, ← hkn0, ← hpn0] at HCL
            rw [← hpk0] at hri
            rw [← hpn0] at hp4
            rw [← hkn0] at hpk
            go_wp2_with fail
            clear hen hcells hpk0 hpm0 hkn0
            have hx4 : ¬ (4 : Int) < (pn : Int) := by omega
            have hx4n : ¬ 4 < pn := by omega
            cases kn with
            | true =>
              have hp0 : pn = 0 := by rw [hpn0, hpk rfl]; rfl
              have hx0 : ¬ (0 : Int) < (pn : Int) := by omega
              have hx0n : ¬ 0 < pn := by omega
              clear hpk hpn0 hp0
              by_cases hkz : k = 0
              · subst hkz
                clear hri HCM
                obtain ⟨c0, c1, c2, c3⟩ := HCL.out wr HBK.out
                go_quiet (fail)
                have HBD := hid (below_drewN HBK.out nq)
                clear HBK c0 c1 c2 c3
                go_wp2
                go_roundw
                case rel => exact ⟨1, by omega, by go_num, HBD.out⟩
                case measure => simp [intOf]; omega
              · have hri := hri (by omega)
                have HCM : Hid (∀ W', Below w4.heap.size w4 W' → W'.cell? ⟨q, (k - 1) * 4, none⟩ = _) := hid (fun W' hb => HCM.out W' hb (by omega))
                have hkp : (0 : Int) < (k : Int) := by omega
                have hkpn : 0 < k := by omega
                have hkm1 : ((k : Int) - 1) = ((k - 1 : Nat) : Int) := by omega
                have hwk : IntKind.i64.wrap ((k - 1 : Nat) : Int) = ((k - 1 : Nat) : Int) := IntWalk.i64_in _ (by omega)
                have hkn4 : ((k - 1 : Nat) : Int) < (n4 : Int) := by omega
                have hkn5 : k - 1 < n4 := by omega
                have hri2 : ¬ pk ≤ (s2.m[k - 1]'(by omega)).1 := by omega
                generalize (s2.m[k - 1]'(by omega)).1 = p0 at *
                obtain ⟨c0, c1, c2, c3⟩ := HCL.out wr HBK.out
                have cm := HCM.out wr HBK.out
                go_quiet (fail)
                have HBD := hid (below_drewN HBK.out nq)
                clear HBK c0 c1 c2 c3
                go_wp2
                go_roundw
                case rel => exact ⟨k + 1, by omega, by go_num, HBD.out⟩
                case measure => simp [intOf]; omega
            | false =>
              clear hpk hpn0
              by_cases hkz : k = 0
              · subst hkz
                clear hri HCM
                obtain ⟨c0, c1, c2, c3⟩ := HCL.out wr HBK.out
                go_quiet (fail)
                have HBD := hid (below_drewN HBK.out nq)
                clear HBK c0 c1 c2 c3
                go_wp2
                go_roundw
                case rel => exact ⟨1, by omega, by go_num, HBD.out⟩
                case measure => simp [intOf]; omega
              · have hri := hri (by omega)
                have HCM : Hid (∀ W', Below w4.heap.size w4 W' → W'.cell? ⟨q, (k - 1) * 4, none⟩ = _) := hid (fun W' hb => HCM.out W' hb (by omega))
                have hkp : (0 : Int) < (k : Int) := by omega
                have hkpn : 0 < k := by omega
                have hkm1 : ((k : Int) - 1) = ((k - 1 : Nat) : Int) := by omega
                have hwk : IntKind.i64.wrap ((k - 1 : Nat) : Int) = ((k - 1 : Nat) : Int) := IntWalk.i64_in _ (by omega)
                have hkn4 : ((k - 1 : Nat) : Int) < (n4 : Int) := by omega
                have hkn5 : k - 1 < n4 := by omega
                have hri2 : ¬ pk ≤ (s2.m[k - 1]'(by omega)).1 := by omega
                generalize (s2.m[k - 1]'(by omega)).1 = p0 at *
                obtain ⟨c0, c1, c2, c3⟩ := HCL.out wr HBK.out
                have cm := HCM.out wr HBK.out
                go_quiet (fail)
                have HBD := hid (below_drewN HBK.out nq)
                clear HBK c0 c1 c2 c3
                go_wp2
                go_roundw
                case rel => exact ⟨k + 1, by omega, by go_num, HBD.out⟩
                case measure => simp [intOf]; omega
          · obtain rfl : k = n4 := by omega
            have hk1' : ¬ (k : Int) < (k : Int) := by omega
            have HH4 := hid (H4.out.below HBK.out)
            have hls := HLS.out
            clear HF4 HBK HLS
            go_wp2
            go_roundw
            case rel => exact ⟨j + 1, s2, by omega, by omega, by go_num, HH4.out, by omega, by omega⟩
            case measure => simp [intOf]; omega
      clear hK1
      refine hid ?_
      by_cases hk0 : d.k = 0
      · have hkb : (d.k == 0) = true := by rw [hk0]; rfl
        go_wp2_with fail
        clear k0 k1 k2 k8
        refine wp_region_held_drew (S := fun w2 => Below W.heap.size W w2) (by kernel_rfl) (HBE.out.drew) (fun hHeld => ?_)
        have HJ := hid (HJ.out.below (Below.refl _ _).drew)
        have HBE := hid (HBE.out.drew)
        generalize wr.drew = wd at *
        refine wpAnyH_take (i := 0) (oi := { dst := some 45, op := Op.move (Operand.tmp 5), type := 23, pos := "law.go:106", after := #[], guard := none }) (v := ?_) rfl (by kernel_rfl) (by kernel_rfl) (by kernel_rfl) (fun _ _ _ h => h) (Or.inl ⟨by rfl, ?_⟩) hHeld ?_
        rotate_left
        · (intro w2 hSw; obtain ⟨k0, k1, k2, k8⟩ := (HDA.out.below hSw).cellsOf; go_simp; first | with_reducible rfl | skip)
        try simp only [Act.put, List.setIfInBounds_toArray, List.set_cons_succ, List.set_cons_zero]
        refine wpAnyH_take (i := 1) (oi := { dst := some 46, op := Op.move (Operand.tmp 1), type := 44, pos := "law.go:106", after := #[], guard := none }) (v := ?_) rfl (by kernel_rfl) (by kernel_rfl) (by kernel_rfl) (fun _ _ _ h => h) (Or.inl ⟨by rfl, ?_⟩) hHeld ?_
        rotate_left
        · (intro w2 hSw; obtain ⟨k0, k1, k2, k8⟩ := (HDA.out.below hSw).cellsOf; go_simp; first | with_reducible rfl | skip)
        try simp only [Act.put, List.setIfInBounds_toArray, List.set_cons_succ, List.set_cons_zero]
        refine wpAnyH_take (i := 2) (oi := { dst := some 47, op := Op.move (Operand.tmp 7), type := 3, pos := "law.go:106", after := #[], guard := none }) (v := ?_) rfl (by kernel_rfl) (by kernel_rfl) (by kernel_rfl) (fun _ _ _ h => h) (Or.inl ⟨by rfl, ?_⟩) hHeld ?_
        rotate_left
        · (intro w2 hSw; obtain ⟨k0, k1, k2, k8⟩ := (HDA.out.below hSw).cellsOf; go_simp; first | with_reducible rfl | skip)
        try simp only [Act.put, List.setIfInBounds_toArray, List.set_cons_succ, List.set_cons_zero]
        refine wpAnyH_take (i := 3) (oi := { dst := some 48, op := Op.indexAddr 44 (Operand.tmp 46) (Operand.tmp 47), type := 0, pos := "law.go:106", after := #[{ on := 1, ground := Ground.data }, { on := 2, ground := Ground.data }], guard := none }) (v := ?_) rfl (by kernel_rfl) (by kernel_rfl) (by kernel_rfl) (fun _ _ _ h => h) (Or.inl ⟨by rfl, ?_⟩) hHeld ?_
        rotate_left
        · (intro w2 hSw; obtain ⟨k0, k1, k2, k8⟩ := (HDA.out.below hSw).cellsOf; go_simp; first | with_reducible rfl | skip)
        try simp only [Act.put, List.setIfInBounds_toArray, List.set_cons_succ, List.set_cons_zero]
        refine wpAnyH_take (i := 4) (oi := { dst := some 49, op := Op.fieldAddr 46 (Operand.tmp 48) 1, type := 0, pos := "law.go:106", after := #[{ on := 3, ground := Ground.data }], guard := none }) (v := ?_) rfl (by kernel_rfl) (by kernel_rfl) (by kernel_rfl) (fun _ _ _ h => h) (Or.inl ⟨by rfl, ?_⟩) hHeld ?_
        rotate_left
        · (intro w2 hSw; obtain ⟨k0, k1, k2, k8⟩ := (HDA.out.below hSw).cellsOf; go_simp; first | with_reducible rfl | skip)
        try simp only [Act.put, List.setIfInBounds_toArray, List.set_cons_succ, List.set_cons_zero]
        refine wpAnyH_take (i := 5) (oi := { dst := some 50, op := Op.load 28 (Operand.tmp 49), type := 28, pos := "law.go:106", after := #[{ on := 4, ground := Ground.data }], guard := none }) (v := ?_) rfl (by kernel_rfl) (by kernel_rfl) (by kernel_rfl) (fun _ _ _ h => h) (Or.inl ⟨by rfl, ?_⟩) hHeld ?_
        rotate_left
        · (intro w2 hSw; obtain ⟨k0, k1, k2, k8⟩ := (HDA.out.below hSw).cellsOf; go_simp; first | with_reducible rfl | skip)
        try simp only [Act.put, List.setIfInBounds_toArray, List.set_cons_succ, List.set_cons_zero]
        refine wpAnyH_take (i := 6) (oi := { dst := some 51, op := Op.move (Operand.tmp 1), type := 44, pos := "law.go:106", after := #[], guard := none }) (v := ?_) rfl (by kernel_rfl) (by kernel_rfl) (by kernel_rfl) (fun _ _ _ h => h) (Or.inl ⟨by rfl, ?_⟩) hHeld ?_
        rotate_left
        · (intro w2 hSw; obtain ⟨k0, k1, k2, k8⟩ := (HDA.out.below hSw).cellsOf; go_simp; first | with_reducible rfl | skip)
        try simp only [Act.put, List.setIfInBounds_toArray, List.set_cons_succ, List.set_cons_zero]
        refine wpAnyH_take (i := 7) (oi := { dst := some 52, op := Op.move (Operand.tmp 7), type := 3, pos := "law.go:106", after := #[], guard := none }) (v := ?_) rfl (by kernel_rfl) (by kernel_rfl) (by kernel_rfl) (fun _ _ _ h => h) (Or.inl ⟨by rfl, ?_⟩) hHeld ?_
        rotate_left
        · (intro w2 hSw; obtain ⟨k0, k1, k2, k8⟩ := (HDA.out.below hSw).cellsOf; go_simp; first | with_reducible rfl | skip)
        try simp only [Act.put, List.setIfInBounds_toArray, List.set_cons_succ, List.set_cons_zero]
        refine wpAnyH_take (i := 8) (oi := { dst := some 53, op := Op.indexAddr 44 (Operand.tmp 51) (Operand.tmp 52), type := 0, pos := "law.go:106", after := #[{ on := 6, ground := Ground.data }, { on := 7, ground := Ground.data }], guard := none }) (v := ?_) rfl (by kernel_rfl) (by kernel_rfl) (by kernel_rfl) (fun _ _ _ h => h) (Or.inl ⟨by rfl, ?_⟩) hHeld ?_
        rotate_left
        · (intro w2 hSw; obtain ⟨k0, k1, k2, k8⟩ := (HDA.out.below hSw).cellsOf; go_simp; first | with_reducible rfl | skip)
        try simp only [Act.put, List.setIfInBounds_toArray, List.set_cons_succ, List.set_cons_zero]
        refine wpAnyH_take (i := 9) (oi := { dst := some 54, op := Op.fieldAddr 46 (Operand.tmp 53) 2, type := 0, pos := "law.go:106", after := #[{ on := 8, ground := Ground.data }], guard := none }) (v := ?_) rfl (by kernel_rfl) (by kernel_rfl) (by kernel_rfl) (fun _ _ _ h => h) (Or.inl ⟨by rfl, ?_⟩) hHeld ?_
        rotate_left
        · (intro w2 hSw; obtain ⟨k0, k1, k2, k8⟩ := (HDA.out.below hSw).cellsOf; go_simp; first | with_reducible rfl | skip)
        try simp only [Act.put, List.setIfInBounds_toArray, List.set_cons_succ, List.set_cons_zero]
        refine wpAnyH_take (i := 10) (oi := { dst := some 55, op := Op.load 31 (Operand.tmp 54), type := 31, pos := "law.go:106", after := #[{ on := 9, ground := Ground.data }], guard := none }) (v := ?_) rfl (by kernel_rfl) (by kernel_rfl) (by kernel_rfl) (fun _ _ _ h => h) (Or.inl ⟨by rfl, ?_⟩) hHeld ?_
        rotate_left
        · (intro w2 hSw; obtain ⟨k0, k1, k2, k8⟩ := (HDA.out.below hSw).cellsOf; go_simp; first | with_reducible rfl | skip)
        try simp only [Act.put, List.setIfInBounds_toArray, List.set_cons_succ, List.set_cons_zero]
        refine wpAnyH_take (i := 11) (oi := { dst := some 56, op := Op.move (Operand.tmp 1), type := 44, pos := "law.go:106", after := #[], guard := none }) (v := ?_) rfl (by kernel_rfl) (by kernel_rfl) (by kernel_rfl) (fun _ _ _ h => h) (Or.inl ⟨by rfl, ?_⟩) hHeld ?_
        rotate_left
        · (intro w2 hSw; obtain ⟨k0, k1, k2, k8⟩ := (HDA.out.below hSw).cellsOf; go_simp; first | with_reducible rfl | skip)
        try simp only [Act.put, List.setIfInBounds_toArray, List.set_cons_succ, List.set_cons_zero]
        refine wpAnyH_take (i := 12) (oi := { dst := some 57, op := Op.move (Operand.tmp 7), type := 3, pos := "law.go:106", after := #[], guard := none }) (v := ?_) rfl (by kernel_rfl) (by kernel_rfl) (by kernel_rfl) (fun _ _ _ h => h) (Or.inl ⟨by rfl, ?_⟩) hHeld ?_
        rotate_left
        · (intro w2 hSw; obtain ⟨k0, k1, k2, k8⟩ := (HDA.out.below hSw).cellsOf; go_simp; first | with_reducible rfl | skip)
        try simp only [Act.put, List.setIfInBounds_toArray, List.set_cons_succ, List.set_cons_zero]
        refine wpAnyH_take (i := 13) (oi := { dst := some 58, op := Op.indexAddr 44 (Operand.tmp 56) (Operand.tmp 57), type := 0, pos := "law.go:106", after := #[{ on := 11, ground := Ground.data }, { on := 12, ground := Ground.data }], guard := none }) (v := ?_) rfl (by kernel_rfl) (by kernel_rfl) (by kernel_rfl) (fun _ _ _ h => h) (Or.inl ⟨by rfl, ?_⟩) hHeld ?_
        rotate_left
        · (intro w2 hSw; obtain ⟨k0, k1, k2, k8⟩ := (HDA.out.below hSw).cellsOf; go_simp; first | with_reducible rfl | skip)
        try simp only [Act.put, List.setIfInBounds_toArray, List.set_cons_succ, List.set_cons_zero]
        refine wpAnyH_take (i := 14) (oi := { dst := some 59, op := Op.fieldAddr 46 (Operand.tmp 58) 4, type := 0, pos := "law.go:106", after := #[{ on := 13, ground := Ground.data }], guard := none }) (v := ?_) rfl (by kernel_rfl) (by kernel_rfl) (by kernel_rfl) (fun _ _ _ h => h) (Or.inl ⟨by rfl, ?_⟩) hHeld ?_
        rotate_left
        · (intro w2 hSw; obtain ⟨k0, k1, k2, k8⟩ := (HDA.out.below hSw).cellsOf; go_simp; first | with_reducible rfl | skip)
        try simp only [Act.put, List.setIfInBounds_toArray, List.set_cons_succ, List.set_cons_zero]
        refine wpAnyH_take (i := 15) (oi := { dst := some 60, op := Op.load 3 (Operand.tmp 59), type := 3, pos := "law.go:106", after := #[{ on := 14, ground := Ground.data }], guard := none }) (v := ?_) rfl (by kernel_rfl) (by kernel_rfl) (by kernel_rfl) (fun _ _ _ h => h) (Or.inl ⟨by rfl, ?_⟩) hHeld ?_
        rotate_left
        · (intro w2 hSw; obtain ⟨k0, k1, k2, k8⟩ := (HDA.out.below hSw).cellsOf; go_simp; first | with_reducible rfl | skip)
        try simp only [Act.put, List.setIfInBounds_toArray, List.set_cons_succ, List.set_cons_zero]
        refine wpAnyH_ready (rs := [16]) (by kernel_rfl) (by simp) ?_
        refine AllReadyH.cons (o := _) rfl (fun K hK => ?_) AllReadyH.nil
        go_simp
        go_at_call 14
        have HLS := hid (lose_send s d.to d.bs d.now)
        refine Calls.mono (HJ.out.send d.to d.now HDA.out.ok.to Aj d.bs.length cj d.bs rfl HDA.out.ok.bs (HDA.out.rd.below HBE.out) HDA.out.nil (fun h0 q o e => by
          obtain ⟨b', o', e', hl'⟩ := HDA.out.rd.form 0 (by omega)
          rw [e'] at e
          injection e with e
          injection e with e1 e2
          have := HG.out
          have := HBG.out
          omega) HLO.out) ?_
        rintro e w3 ⟨v, rfl, h3, _⟩
        obtain ⟨s2, hs2⟩ : ∃ x, x = (s.send d.to d.bs d.now).1 := ⟨_, rfl⟩
        unfold Lose at HLS
        rw [← hs2] at h3 HLS
        have H3 := hid h3
        refine hK.out _ _ (by obtain ⟨S, M, _, h2⟩ := h3; exact h2.bel) (fun hHeld => ?_)
        clear hK K hHeld h3 hs2 HLO HJ
        refine wpAnyH_done (by kernel_rfl) ?_ _
        go_wp2_with fail
        exact HJOIN.out s2 w3 _ _ _ _ _ _ _ _ _ _ _ _ _ _ _ _ _ _ _ _ _ _ _ _ _ _ _ _ _ _ _ _ _ _ _ _ _ _ _ _ _ _ _ _ _ _ _ _ _ _ _ _ _ _ _ _ _ _ _ _ _ _ _ _ _ _ _ _ _ _ _ _ _ _ _ _ _ _ _ _ _ _ _ _ _ _ _ _ _ _ _ _ _ _ _ _ _ _ _ H3.out HLS.out
      · have hkb : (d.k == 0) = false := by simpa using hk0
        by_cases hk1 : d.k = 1
        · have hkb1 : (d.k == 1) = true := by rw [hk1]; rfl
          go_wp2_with fail
          clear k0 k1 k2 k8
          refine wp_region_held_drew (S := fun w2 => Below W.heap.size W w2) (by kernel_rfl) (HBE.out.drew) (fun hHeld => ?_)
          have HJ := hid (HJ.out.below (Below.refl _ _).drew)
          have HBE := hid (HBE.out.drew)
          generalize wr.drew = wd at *
          refine wpAnyH_take (i := 0) (oi := { dst := some 64, op := Op.move (Operand.tmp 5), type := 23, pos := "law.go:108", after := #[], guard := none }) (v := ?_) rfl (by kernel_rfl) (by kernel_rfl) (by kernel_rfl) (fun _ _ _ h => h) (Or.inl ⟨by rfl, ?_⟩) hHeld ?_
          rotate_left
          · (intro w2 hSw; obtain ⟨k0, k1, k2, k8⟩ := (HDA.out.below hSw).cellsOf; go_simp; first | with_reducible rfl | skip)
          try simp only [Act.put, List.setIfInBounds_toArray, List.set_cons_succ, List.set_cons_zero]
          refine wpAnyH_take (i := 1) (oi := { dst := some 65, op := Op.move (Operand.tmp 1), type := 44, pos := "law.go:108", after := #[], guard := none }) (v := ?_) rfl (by kernel_rfl) (by kernel_rfl) (by kernel_rfl) (fun _ _ _ h => h) (Or.inl ⟨by rfl, ?_⟩) hHeld ?_
          rotate_left
          · (intro w2 hSw; obtain ⟨k0, k1, k2, k8⟩ := (HDA.out.below hSw).cellsOf; go_simp; first | with_reducible rfl | skip)
          try simp only [Act.put, List.setIfInBounds_toArray, List.set_cons_succ, List.set_cons_zero]
          refine wpAnyH_take (i := 2) (oi := { dst := some 66, op := Op.move (Operand.tmp 7), type := 3, pos := "law.go:108", after := #[], guard := none }) (v := ?_) rfl (by kernel_rfl) (by kernel_rfl) (by kernel_rfl) (fun _ _ _ h => h) (Or.inl ⟨by rfl, ?_⟩) hHeld ?_
          rotate_left
          · (intro w2 hSw; obtain ⟨k0, k1, k2, k8⟩ := (HDA.out.below hSw).cellsOf; go_simp; first | with_reducible rfl | skip)
          try simp only [Act.put, List.setIfInBounds_toArray, List.set_cons_succ, List.set_cons_zero]
          refine wpAnyH_take (i := 3) (oi := { dst := some 67, op := Op.indexAddr 44 (Operand.tmp 65) (Operand.tmp 66), type := 0, pos := "law.go:108", after := #[{ on := 1, ground := Ground.data }, { on := 2, ground := Ground.data }], guard := none }) (v := ?_) rfl (by kernel_rfl) (by kernel_rfl) (by kernel_rfl) (fun _ _ _ h => h) (Or.inl ⟨by rfl, ?_⟩) hHeld ?_
          rotate_left
          · (intro w2 hSw; obtain ⟨k0, k1, k2, k8⟩ := (HDA.out.below hSw).cellsOf; go_simp; first | with_reducible rfl | skip)
          try simp only [Act.put, List.setIfInBounds_toArray, List.set_cons_succ, List.set_cons_zero]
          refine wpAnyH_take (i := 4) (oi := { dst := some 68, op := Op.fieldAddr 46 (Operand.tmp 67) 3, type := 0, pos := "law.go:108", after := #[{ on := 3, ground := Ground.data }], guard := none }) (v := ?_) rfl (by kernel_rfl) (by kernel_rfl) (by kernel_rfl) (fun _ _ _ h => h) (Or.inl ⟨by rfl, ?_⟩) hHeld ?_
          rotate_left
          · (intro w2 hSw; obtain ⟨k0, k1, k2, k8⟩ := (HDA.out.below hSw).cellsOf; go_simp; first | with_reducible rfl | skip)
          try simp only [Act.put, List.setIfInBounds_toArray, List.set_cons_succ, List.set_cons_zero]
          refine wpAnyH_take (i := 5) (oi := { dst := some 69, op := Op.load 40 (Operand.tmp 68), type := 40, pos := "law.go:108", after := #[{ on := 4, ground := Ground.data }], guard := none }) (v := .agg #[.int .i64 d.op, .int .u64 d.fm, .int .u32 d.fi, .int .u64 d.tm, .int .u32 d.ti]) rfl (by kernel_rfl) (by kernel_rfl) (by kernel_rfl) (fun _ _ _ h => h) (yieldsIf_load_mid (by rfl) 40 (.tmp 68) rfl b1 (o1 + j * 9 + 3) rfl [.int .i64 d.op, .int .u64 d.fm, .int .u32 d.fi, .int .u64 d.tm, .int .u32 d.ti] _ (fun w2 hSw => (HDA.out.below hSw).arp) Try.underlying40 rfl (by kernel_rfl)) hHeld ?_
          try simp only [Act.put, List.setIfInBounds_toArray, List.set_cons_succ, List.set_cons_zero]
          refine wpAnyH_take (i := 6) (oi := { dst := some 70, op := Op.move (Operand.tmp 1), type := 44, pos := "law.go:108", after := #[], guard := none }) (v := ?_) rfl (by kernel_rfl) (by kernel_rfl) (by kernel_rfl) (fun _ _ _ h => h) (Or.inl ⟨by rfl, ?_⟩) hHeld ?_
          rotate_left
          · (intro w2 hSw; obtain ⟨k0, k1, k2, k8⟩ := (HDA.out.below hSw).cellsOf; go_simp; first | with_reducible rfl | skip)
          try simp only [Act.put, List.setIfInBounds_toArray, List.set_cons_succ, List.set_cons_zero]
          refine wpAnyH_take (i := 7) (oi := { dst := some 71, op := Op.move (Operand.tmp 7), type := 3, pos := "law.go:108", after := #[], guard := none }) (v := ?_) rfl (by kernel_rfl) (by kernel_rfl) (by kernel_rfl) (fun _ _ _ h => h) (Or.inl ⟨by rfl, ?_⟩) hHeld ?_
          rotate_left
          · (intro w2 hSw; obtain ⟨k0, k1, k2, k8⟩ := (HDA.out.below hSw).cellsOf; go_simp; first | with_reducible rfl | skip)
          try simp only [Act.put, List.setIfInBounds_toArray, List.set_cons_succ, List.set_cons_zero]
          refine wpAnyH_take (i := 8) (oi := { dst := some 72, op := Op.indexAddr 44 (Operand.tmp 70) (Operand.tmp 71), type := 0, pos := "law.go:108", after := #[{ on := 6, ground := Ground.data }, { on := 7, ground := Ground.data }], guard := none }) (v := ?_) rfl (by kernel_rfl) (by kernel_rfl) (by kernel_rfl) (fun _ _ _ h => h) (Or.inl ⟨by rfl, ?_⟩) hHeld ?_
          rotate_left
          · (intro w2 hSw; obtain ⟨k0, k1, k2, k8⟩ := (HDA.out.below hSw).cellsOf; go_simp; first | with_reducible rfl | skip)
          try simp only [Act.put, List.setIfInBounds_toArray, List.set_cons_succ, List.set_cons_zero]
          refine wpAnyH_take (i := 9) (oi := { dst := some 73, op := Op.fieldAddr 46 (Operand.tmp 72) 4, type := 0, pos := "law.go:108", after := #[{ on := 8, ground := Ground.data }], guard := none }) (v := ?_) rfl (by kernel_rfl) (by kernel_rfl) (by kernel_rfl) (fun _ _ _ h => h) (Or.inl ⟨by rfl, ?_⟩) hHeld ?_
          rotate_left
          · (intro w2 hSw; obtain ⟨k0, k1, k2, k8⟩ := (HDA.out.below hSw).cellsOf; go_simp; first | with_reducible rfl | skip)
          try simp only [Act.put, List.setIfInBounds_toArray, List.set_cons_succ, List.set_cons_zero]
          refine wpAnyH_take (i := 10) (oi := { dst := some 74, op := Op.load 3 (Operand.tmp 73), type := 3, pos := "law.go:108", after := #[{ on := 9, ground := Ground.data }], guard := none }) (v := ?_) rfl (by kernel_rfl) (by kernel_rfl) (by kernel_rfl) (fun _ _ _ h => h) (Or.inl ⟨by rfl, ?_⟩) hHeld ?_
          rotate_left
          · (intro w2 hSw; obtain ⟨k0, k1, k2, k8⟩ := (HDA.out.below hSw).cellsOf; go_simp; first | with_reducible rfl | skip)
          try simp only [Act.put, List.setIfInBounds_toArray, List.set_cons_succ, List.set_cons_zero]
          refine wpAnyH_ready (rs := [11]) (by kernel_rfl) (by simp) ?_
          refine AllReadyH.cons (o := _) rfl (fun K hK => ?_) AllReadyH.nil
          go_simp
          go_at_call 13
          have HLS := hid (lose_take s ⟨d.op, d.fm, d.fi, d.tm, d.ti⟩ d.now)
          refine Calls.mono (HJ.out.take d.op d.fm d.fi d.tm d.ti d.now HDA.out.ok.fm.1 HDA.out.ok.fi) ?_
          rintro e w3 ⟨v, rfl, h3, _⟩
          obtain ⟨s2, hs2⟩ : ∃ x, x = (s.take ⟨d.op, d.fm, d.fi, d.tm, d.ti⟩ d.now).1 := ⟨_, rfl⟩
          unfold Lose at HLS
          rw [← hs2] at h3 HLS
          have H3 := hid h3
          refine hK.out _ _ (by obtain ⟨S, M, _, h2⟩ := h3; exact h2.bel) (fun hHeld => ?_)
          clear hK K hHeld h3 hs2 HLO HJ
          refine wpAnyH_done (by kernel_rfl) ?_ _
          go_wp2_with fail
          exact HJOIN.out s2 w3 _ _ _ _ _ _ _ _ _ _ _ _ _ _ _ _ _ _ _ _ _ _ _ _ _ _ _ _ _ _ _ _ _ _ _ _ _ _ _ _ _ _ _ _ _ _ _ _ _ _ _ _ _ _ _ _ _ _ _ _ _ _ _ _ _ _ _ _ _ _ _ _ _ _ _ _ _ _ _ _ _ _ _ _ _ _ _ _ _ _ _ _ _ _ _ _ _ _ _ H3.out HLS.out
        · have hkb1 : (d.k == 1) = false := by simpa using hk1
          go_wp2_with (go_at_call 16; refine hold ?_)
          clear k0 k1 k2 k8
          refine hid ?_
          have HLS := hid (lose_tick s HJ.out.ok d.now)
          refine Calls.mono (HJ.out.tick d.now HLO.out) ?_
          rintro e w3 ⟨v, rfl, h3, _⟩
          obtain ⟨s2, hs2⟩ : ∃ x, x = (s.tick d.now).1 := ⟨_, rfl⟩
          unfold Lose at HLS
          rw [← hs2] at h3 HLS
          have H3 := hid h3
          clear h3 hs2 HLO HJ
          go_wp2_with fail
          exact HJOIN.out s2 w3 _ _ _ _ _ _ _ _ _ _ _ _ _ _ _ _ _ _ _ _ _ _ _ _ _ _ _ _ _ _ _ _ _ _ _ _ _ _ _ _ _ _ _ _ _ _ _ _ _ _ _ _ _ _ _ _ _ _ _ _ _ _ _ _ _ _ _ _ _ _ _ _ _ _ _ _ _ _ _ _ _ _ _ _ _ _ _ _ _ _ _ _ _ _ _ _ _ _ _ H3.out HLS.out
    · by_cases hml2 : j < l
      · have hx1 : (j : Int) < (l : Int) := by omega
        have hx2 : ¬ (j : Int) < 300 := by omega
        go_wp2_with (go_at_call 15; refine hold ?_)
        refine hid ?_
        refine Calls.mono (live_calls wr) ?_
        rintro e w5 ⟨rfl, hb5⟩
        have H5 := hid (HJ.out.below hb5)
        clear hb5 HJ
        go_wp2
        go_ret
        obtain ⟨S, M, _, h2⟩ := H5.out
        exact ⟨rfl, h2.bel⟩
      · have hx1 : ¬ (j : Int) < (l : Int) := by omega
        go_wp2_with (go_at_call 15; refine hold ?_)
        refine hid ?_
        refine Calls.mono (live_calls wr) ?_
        rintro e w5 ⟨rfl, hb5⟩
        have H5 := hid (HJ.out.below hb5)
        clear hb5 HJ
        go_wp2
        go_ret
        obtain ⟨S, M, _, h2⟩ := H5.out
        exact ⟨rfl, h2.bel⟩
end Go.Proofs.Ytebfoigbiekeiaa
