/-
  LAYER 9, WALKS: the law ArpCounts.
-/
import Derived.Test.YtebfoigbiekeiaaArpQ
import Derived.Test.YtebfoigbiekeiaaArpM
set_option linter.unusedVariables false
set_option linter.unusedSimpArgs false
namespace Go.Proofs.Ytebfoigbiekeiaa
open Go Go.RowKit

/-- How many bodies a call may lose. -/
def Lose (s : Ar) (f : Ar × List (List Int) × Int) : Prop := s.lost ≤ f.1.lost ∧ f.1.lost ≤ s.lost + 40
theorem lose_send (s : Ar) (to : Int) (xs : List Int) (now : Int) : Lose s (s.send to xs now) := by
  have h1 := (room_facts (s.at now)).2.2.2
  have h2 : (s.at now).lost = s.lost := rfl
  unfold Lose Ar.send
  split
  · simp only; omega
  · unfold Ar.send2
    split
    · simp only; omega
    · split
      · split
        · simp only; omega
        · split <;> (simp only; omega)
      · split <;> (simp only; omega)
theorem lose_take (s : Ar) (a : Q) (now : Int) : Lose s (s.take a now) := by
  have h1 := (room_facts (s.at now)).2.2.2
  have h2 : (s.at now).lost = s.lost := rfl
  unfold Lose Ar.take
  split
  · simp only; omega
  · unfold Ar.take2
    split
    · simp only; omega
    · split
      · simp only; omega
      · split
        · split <;> (simp only; omega)
        · simp only; omega
theorem lose_tick (s : Ar) (h : s.Ok) (now : Int) : Lose s (s.tick now) := by
  have h1 := tickL_lost now s.m (fun p hp => (h.en p hp).2.2.2.2.2.2.1)
  have h2 := h.few
  unfold Lose Ar.tick
  split
  · constructor <;> (simp only; omega)
  · constructor <;> (simp only; omega)
theorem rise_at {α : Type} {m : List (Int × α)} (h : Rising m) (i : Nat) (hi : i + 1 < m.length) : (m[i]'(by omega)).1 < (m[i + 1]'hi).1 :=
  List.pairwise_iff_getElem.1 h i (i + 1) (by omega) hi (by omega)
set_option maxHeartbeats 12800000 in
set_option maxRecDepth 100000 in
theorem ArpCounts_calls (W : World) (ip : Int) (hip : 0 ≤ ip ∧ ip < 4294967296) (A : Option Addr) (l c : Nat) (hD : RdD9 W A l) (hlc : l ≤ c) (hcm : c ≤ 9223372036854775807) :
    Calls Try.prog 6 #[.int .u32 ip, .slice A l c] W fun e w' => e = .returned (.bool true) ∧ Below W.heap.size W w' := by
  have HD := hid hD
  clear hD
  go_enter Try.func6, Try.ntmps6
  go_wp2_with (go_at_call 10; refine hold ?_)
  refine hid ?_
  refine Calls.mono (cnew_calls 5 ip (by decide) (by decide) hip W) ?_
  rintro e w1 ⟨g, b, rfl, hg, hb, hc, hbl⟩
  have HG := hid hg; have HBG := hid hb
  have HH := hid (show Has W w1 g b (newA 5 ip) from ⟨_, _, hc, ⟨hbl, hg, hb⟩⟩)
  clear hc hbl hg hb
  go_wp2_with fail
  go_loopw [7, 8, 9] (fun a1 a2 i w' => ∃ (j : Nat) (s : Ar) (inn ou : Int), j ≤ l ∧ j ≤ 300 ∧ i = .int .i64 j ∧ a1 = .int .i64 inn ∧ a2 = .int .i64 ou ∧ Has W w' g b s ∧ 0 ≤ s.lost ∧ s.lost ≤ 40 * j ∧ s.mac = 5 ∧ 0 ≤ ou ∧ ou ≤ 10 * j ∧ 0 ≤ inn ∧ inn ≤ j ∧ inn = ou + waits s.m + s.lost) (fun _ _ i _ => 300 - (intOf i).toNat)
  case atStart => exact ⟨0, newA 5 ip, 0, 0, by omega, by omega, rfl, rfl, rfl, HH.out, by show (0 : Int) ≤ 0; omega, by show (0 : Int) ≤ 40 * 0; omega, rfl, by omega, by omega, by omega, by omega, rfl⟩
  case round =>
    obtain ⟨j, s, in0, ou, hjl, hj3, rfl, rfl, rfl, hh, hl0, hl1, hmac, hou0, hou1, hin0, hin1, hsum⟩ := hrel
    have HJ := hid hh; have HMAC := hid hmac; have HS0 := hid hsum
    clear hh HH hmac hsum
    have hj0 : (0 : Int) ≤ (j : Int) := by omega
    by_cases hlt : j < l ∧ j < 300
    · have hx1 : (j : Int) < (l : Int) := by omega
      have hx2 : (j : Int) < 300 := by omega
      have HBE : Hid (Below W.heap.size W wr) := hid (by obtain ⟨S, M, _, h2⟩ := HJ.out; exact h2.bel)
      obtain ⟨b1, o1, d, Aj, cj, rfl, hda⟩ := HD.out j hlt.1
      have HDA := hid hda
      obtain ⟨k0, k1, k2, k8⟩ := (hda.below HBE.out).cellsOf
      have HLO : Hid (0 ≤ s.lost ∧ s.lost ≤ 4611686018427387904) := hid (by omega)
      clear hda
      go_wp2_with (with_reducible refine hold_op (o := ⟨some 42, _, _, _, _, _⟩) ?_)
      rename_i K1 hK1 K0 hK0
      have HJOIN : Hid (∀ (s2 : Ar) (w3 : World) (Fs : List (List Int)) (Af : Option Addr) (nf cf : Nat) (inn : Int) (x11 x12 x13 x14 x15 x16 x36 x37 x38 x39 x40 x41 x42 x43 x44 x45 x46 x47 x48 x49 x50 x51 x52 x53 x54 x55 x56 x57 x58 x59 x60 x61 x62 x63 x64 x65 x66 x67 x68 x69 x70 x71 x72 x73 x74 x75 x76 x77 x78 x79 x80 x81 x82 x83 x84 x85 x86 x87 x88 x89 x90 x91 x92 x93 x94 x95 x96 x97 x98 x99 x100 x101 x102 x103 x104 x105 x106 x107 x108 x109 x110 x111 x112 x113 x114 x115 x116 x117 x118 x119 x120 x121 x122 x123 x124 x125 x126 x127 x128 x129 x130 x131 x132 : Value), Has W w3 g b s2 → s.lost ≤ s2.lost ∧ s2.lost ≤ s.lost + 40 → Fs.length = nf → nf ≤ 9 → FrS (fun _ => True) w3 (.slice Af nf cf) Fs → (∀ x ∈ Fs, FrM 5 x) → s2.mac = 5 → in0 ≤ inn ∧ inn ≤ in0 + 1 → (Fs.countP isB : Int) + waits s2.m + s2.lost = waits s.m + s.lost + (inn - in0) → K1 { tmps := #[Value.int IntKind.u32 ip, Value.slice (some { block := b1, off := o1 }) l c, undef, undef, u4, Value.pointer (some { block := g, off := 0 }), Value.int IntKind.i64 0, Value.int IntKind.i64 inn, Value.int IntKind.i64 ou, Value.int IntKind.i64 ↑j, Value.slice Af nf cf, x11, x12, x13, x14, x15, x16, Value.tuple #[Value.pointer (some { block := g, off := 0 }), Value.int IntKind.i64 0], Value.int IntKind.u32 ip, Value.tuple #[Value.pointer (some { block := g, off := 0 }), Value.int IntKind.i64 0], Value.pointer (some { block := g, off := 0 }), Value.int IntKind.i64 0, Value.int IntKind.i64 0, Value.bool false, Value.bool false, Value.pointer (some { block := g, off := 0 }), Value.bool false, Value.bool false, Value.int IntKind.i64 ↑j, Value.slice (some { block := b1, off := o1 }) l c, Value.int IntKind.i64 ↑l, Value.bool true, Value.bool true, Value.int IntKind.i64 ↑j, Value.bool true, Value.bool true, x36, x37, x38, x39, x40, x41, x42, x43, x44, x45, x46, x47, x48, x49, x50, x51, x52, x53, x54, x55, x56, x57, x58, x59, x60, x61, x62, x63, x64, x65, x66, x67, x68, x69, x70, x71, x72, x73, x74, x75, x76, x77, x78, x79, x80, x81, x82, x83, x84, x85, x86, x87, x88, x89, x90, x91, x92, x93, x94, x95, x96, x97, x98, x99, x100, x101, x102, x103, x104, x105, x106, x107, x108, x109, x110, x111, x112, x113, x114, x115, x116, x117, x118, x119, x120, x121, x122, x123, x124, x125, x126, x127, x128, x129, x130, x131, x132, undef], defers := [] } w3) := by
        refine hid ?_
        intro s2 w3 Fs Af nf cf inn x11 x12 x13 x14 x15 x16 x36 x37 x38 x39 x40 x41 x42 x43 x44 x45 x46 x47 x48 x49 x50 x51 x52 x53 x54 x55 x56 x57 x58 x59 x60 x61 x62 x63 x64 x65 x66 x67 x68 x69 x70 x71 x72 x73 x74 x75 x76 x77 x78 x79 x80 x81 x82 x83 x84 x85 x86 x87 x88 x89 x90 x91 x92 x93 x94 x95 x96 x97 x98 x99 x100 x101 x102 x103 x104 x105 x106 x107 x108 x109 x110 x111 x112 x113 x114 x115 x116 x117 x118 x119 x120 x121 x122 x123 x124 x125 x126 x127 x128 x129 x130 x131 x132 h3 hls hnf hnf9 hfr hfm hm2 hinn hsm
        have H3 := hid h3; have HLS := hid hls; have HNF := hid hnf; have HFR := hid hfr; have HFM := hid hfm; have HM2 := hid hm2; have HSM := hid hsm
        clear h3 hls hK0 k0 k1 k2 k8 hnf hfr hfm hm2 hsm
        refine hK1 _ _ ?_
        go_wp2_with (go_at_call 19; refine hold ?_)
        refine hid ?_
        refine Calls.mono (bodies_calls _ Af cf nf Fs HNF.out w3 HFR.out hnf9 HFM.out) ?_
        rintro e w5 ⟨rfl, hb5⟩
        have H5 := hid (H3.out.below hb5)
        obtain ⟨ct, hct⟩ : ∃ m, m = Fs.countP isB := ⟨_, rfl⟩
        rw [← hct] at HSM ⊢
        have hct9 : ct ≤ 9 := by have h1 := List.countP_le_length (p := isB) (l := Fs); have h2 := HNF.out; omega
        clear hb5 hct H3 HFR HFM HNF
        go_wp2_with (go_at_call 17; refine hold ?_)
        refine hid ?_
        refine Calls.mono H5.out.table ?_
        rintro e w4 ⟨v4, rfl, ho4, h4, _⟩
        obtain ⟨A4, c4, rfl, hf4⟩ := ho4.form
        have H4 := hid h4; have HF4 := hid hf4
        obtain ⟨n4, hn4⟩ : ∃ n4, n4 = s2.m.length := ⟨_, rfl⟩
        rw [← hn4] at HF4 ⊢
        have HN4 := hid hn4
        have hn8 : n4 ≤ 8 := by have := h4.ok.few; omega
        clear ho4 hf4 h4 hn4 H5
        go_wp2_with fail
        go_loopw [14, 16] (fun wt i w' => ∃ k : Nat, k ≤ n4 ∧ i = .int .i64 k ∧ wt = .int .i64 (waits (s2.m.take k)) ∧ Below w4.heap.size w4 w') (fun _ i _ => n4 - (intOf i).toNat)
        case atStart => exact ⟨0, by omega, rfl, rfl, Below.refl _ _⟩
        case round =>
          obtain ⟨k, hk, rfl, rfl, hbk⟩ := hrel
          have HBK := hid hbk
          clear hbk
          have hk0' : (0 : Int) ≤ (k : Int) := by omega
          have hwl : waits (s2.m.take k) ≤ 32 := by
            have h1 := waits_le (s2.m.take k) (fun p hp => (H4.out.ok.en p (List.mem_of_mem_take hp)).2.2.2.2.2.2.1)
            have h2 : (s2.m.take k).length ≤ k := by simp; omega
            omega
          by_cases hkl : k < n4
          · have hk1' : (k : Int) < (n4 : Int) := by omega
            obtain ⟨q, rfl, _, hq, hcells⟩ := HF4.out (by omega)
            have hkm : k < s2.m.length := by have := HN4.out; omega
            have HWT := hid (waits_take s2.m k hkm)
            have ht := (tabC_at s2.m k hkm).2.2.2
            rw [Nat.mul_comm 4 k] at ht
            have c3 := (HBK.out.cell (p := ⟨q, k * 4 + 3, none⟩) hq).trans ((hcells _ (by omega)).trans ht)
            have hp4 := (H4.out.ok.en _ (List.getElem_mem hkm)).2.2.2.2.2.2.1
            generalize s2.m[k].2.wait.length = pn at *
            generalize waits (s2.m.take k) = wk at *
            clear hcells ht hq
            go_wp2
            go_roundw
            case rel => exact ⟨k + 1, by omega, by go_num, by rw [HWT.out]; go_num, HBK.out⟩
            case measure => simp [intOf]; omega
          · obtain rfl : k = n4 := by omega
            have hk1' : ¬ (k : Int) < (k : Int) := by omega
            have htk : s2.m.take k = s2.m := List.take_of_length_le (by have := HN4.out; omega)
            rw [htk] at hwl ⊢
            have HH4 := hid (H4.out.below HBK.out)
            have hls := HLS.out
            generalize hwk : waits s2.m = wk at *
            have hin : inn = ou + ct + wk + s2.lost := by have h1 := HSM.out; have h2 := HS0.out; omega
            subst hin
            clear HF4 HBK HLS htk
            go_wp2_with (go_at_call 20; refine hold ?_)
            refine hid ?_
            refine Calls.mono HH4.out.lost ?_
            rintro e w6 ⟨rfl, rfl⟩
            go_wp2
            go_roundw
            case rel => exact ⟨j + 1, s2, _, ou + ct, by omega, by omega, by go_num, rfl, rfl, HH4.out, by omega, by omega, HM2.out, by omega, by omega, by omega, by omega, by rw [hwk]⟩
            case measure => simp [intOf]; omega
      clear hK1
      refine hid ?_
      by_cases hk0 : d.k = 0
      · have hkb : (d.k == 0) = true := by rw [hk0]; rfl
        go_wp2_with fail
        clear k0 k1 k2 k8
        refine wp_region_held_drew (S := fun w2 => Below W.heap.size W w2) (by kernel_rfl) (HBE.out.drew) (fun hHeld => ?_)
        have HJ := hid (HJ.out.below (Below.refl _ _).drew)
        have HBE := hid (HBE.out.drew)
        generalize wr.drew = wd at *
        refine wpAnyH_take (i := 0) (oi := { dst := some 56, op := Op.move (Operand.tmp 5), type := 23, pos := "law.go:152", after := #[], guard := none }) (v := ?_) rfl (by kernel_rfl) (by kernel_rfl) (by kernel_rfl) (fun _ _ _ h => h) (Or.inl ⟨by rfl, ?_⟩) hHeld ?_
        rotate_left
        · (intro w2 hSw; obtain ⟨k0, k1, k2, k8⟩ := (HDA.out.below hSw).cellsOf; go_simp; first | with_reducible rfl | skip)
        try simp only [Act.put, List.setIfInBounds_toArray, List.set_cons_succ, List.set_cons_zero]
        refine wpAnyH_take (i := 1) (oi := { dst := some 57, op := Op.move (Operand.tmp 1), type := 44, pos := "law.go:152", after := #[], guard := none }) (v := ?_) rfl (by kernel_rfl) (by kernel_rfl) (by kernel_rfl) (fun _ _ _ h => h) (Or.inl ⟨by rfl, ?_⟩) hHeld ?_
        rotate_left
        · (intro w2 hSw; obtain ⟨k0, k1, k2, k8⟩ := (HDA.out.below hSw).cellsOf; go_simp; first | with_reducible rfl | skip)
        try simp only [Act.put, List.setIfInBounds_toArray, List.set_cons_succ, List.set_cons_zero]
        refine wpAnyH_take (i := 2) (oi := { dst := some 58, op := Op.move (Operand.tmp 9), type := 3, pos := "law.go:152", after := #[], guard := none }) (v := ?_) rfl (by kernel_rfl) (by kernel_rfl) (by kernel_rfl) (fun _ _ _ h => h) (Or.inl ⟨by rfl, ?_⟩) hHeld ?_
        rotate_left
        · (intro w2 hSw; obtain ⟨k0, k1, k2, k8⟩ := (HDA.out.below hSw).cellsOf; go_simp; first | with_reducible rfl | skip)
        try simp only [Act.put, List.setIfInBounds_toArray, List.set_cons_succ, List.set_cons_zero]
        refine wpAnyH_take (i := 3) (oi := { dst := some 59, op := Op.indexAddr 44 (Operand.tmp 57) (Operand.tmp 58), type := 0, pos := "law.go:152", after := #[{ on := 1, ground := Ground.data }, { on := 2, ground := Ground.data }], guard := none }) (v := ?_) rfl (by kernel_rfl) (by kernel_rfl) (by kernel_rfl) (fun _ _ _ h => h) (Or.inl ⟨by rfl, ?_⟩) hHeld ?_
        rotate_left
        · (intro w2 hSw; obtain ⟨k0, k1, k2, k8⟩ := (HDA.out.below hSw).cellsOf; go_simp; first | with_reducible rfl | skip)
        try simp only [Act.put, List.setIfInBounds_toArray, List.set_cons_succ, List.set_cons_zero]
        refine wpAnyH_take (i := 4) (oi := { dst := some 60, op := Op.fieldAddr 46 (Operand.tmp 59) 1, type := 0, pos := "law.go:152", after := #[{ on := 3, ground := Ground.data }], guard := none }) (v := ?_) rfl (by kernel_rfl) (by kernel_rfl) (by kernel_rfl) (fun _ _ _ h => h) (Or.inl ⟨by rfl, ?_⟩) hHeld ?_
        rotate_left
        · (intro w2 hSw; obtain ⟨k0, k1, k2, k8⟩ := (HDA.out.below hSw).cellsOf; go_simp; first | with_reducible rfl | skip)
        try simp only [Act.put, List.setIfInBounds_toArray, List.set_cons_succ, List.set_cons_zero]
        refine wpAnyH_take (i := 5) (oi := { dst := some 61, op := Op.load 28 (Operand.tmp 60), type := 28, pos := "law.go:152", after := #[{ on := 4, ground := Ground.data }], guard := none }) (v := ?_) rfl (by kernel_rfl) (by kernel_rfl) (by kernel_rfl) (fun _ _ _ h => h) (Or.inl ⟨by rfl, ?_⟩) hHeld ?_
        rotate_left
        · (intro w2 hSw; obtain ⟨k0, k1, k2, k8⟩ := (HDA.out.below hSw).cellsOf; go_simp; first | with_reducible rfl | skip)
        try simp only [Act.put, List.setIfInBounds_toArray, List.set_cons_succ, List.set_cons_zero]
        refine wpAnyH_take (i := 6) (oi := { dst := some 62, op := Op.move (Operand.tmp 1), type := 44, pos := "law.go:152", after := #[], guard := none }) (v := ?_) rfl (by kernel_rfl) (by kernel_rfl) (by kernel_rfl) (fun _ _ _ h => h) (Or.inl ⟨by rfl, ?_⟩) hHeld ?_
        rotate_left
        · (intro w2 hSw; obtain ⟨k0, k1, k2, k8⟩ := (HDA.out.below hSw).cellsOf; go_simp; first | with_reducible rfl | skip)
        try simp only [Act.put, List.setIfInBounds_toArray, List.set_cons_succ, List.set_cons_zero]
        refine wpAnyH_take (i := 7) (oi := { dst := some 63, op := Op.move (Operand.tmp 9), type := 3, pos := "law.go:152", after := #[], guard := none }) (v := ?_) rfl (by kernel_rfl) (by kernel_rfl) (by kernel_rfl) (fun _ _ _ h => h) (Or.inl ⟨by rfl, ?_⟩) hHeld ?_
        rotate_left
        · (intro w2 hSw; obtain ⟨k0, k1, k2, k8⟩ := (HDA.out.below hSw).cellsOf; go_simp; first | with_reducible rfl | skip)
        try simp only [Act.put, List.setIfInBounds_toArray, List.set_cons_succ, List.set_cons_zero]
        refine wpAnyH_take (i := 8) (oi := { dst := some 64, op := Op.indexAddr 44 (Operand.tmp 62) (Operand.tmp 63), type := 0, pos := "law.go:152", after := #[{ on := 6, ground := Ground.data }, { on := 7, ground := Ground.data }], guard := none }) (v := ?_) rfl (by kernel_rfl) (by kernel_rfl) (by kernel_rfl) (fun _ _ _ h => h) (Or.inl ⟨by rfl, ?_⟩) hHeld ?_
        rotate_left
        · (intro w2 hSw; obtain ⟨k0, k1, k2, k8⟩ := (HDA.out.below hSw).cellsOf; go_simp; first | with_reducible rfl | skip)
        try simp only [Act.put, List.setIfInBounds_toArray, List.set_cons_succ, List.set_cons_zero]
        refine wpAnyH_take (i := 9) (oi := { dst := some 65, op := Op.fieldAddr 46 (Operand.tmp 64) 2, type := 0, pos := "law.go:152", after := #[{ on := 8, ground := Ground.data }], guard := none }) (v := ?_) rfl (by kernel_rfl) (by kernel_rfl) (by kernel_rfl) (fun _ _ _ h => h) (Or.inl ⟨by rfl, ?_⟩) hHeld ?_
        rotate_left
        · (intro w2 hSw; obtain ⟨k0, k1, k2, k8⟩ := (HDA.out.below hSw).cellsOf; go_simp; first | with_reducible rfl | skip)
        try simp only [Act.put, List.setIfInBounds_toArray, List.set_cons_succ, List.set_cons_zero]
        refine wpAnyH_take (i := 10) (oi := { dst := some 66, op := Op.load 31 (Operand.tmp 65), type := 31, pos := "law.go:152", after := #[{ on := 9, ground := Ground.data }], guard := none }) (v := ?_) rfl (by kernel_rfl) (by kernel_rfl) (by kernel_rfl) (fun _ _ _ h => h) (Or.inl ⟨by rfl, ?_⟩) hHeld ?_
        rotate_left
        · (intro w2 hSw; obtain ⟨k0, k1, k2, k8⟩ := (HDA.out.below hSw).cellsOf; go_simp; first | with_reducible rfl | skip)
        try simp only [Act.put, List.setIfInBounds_toArray, List.set_cons_succ, List.set_cons_zero]
        refine wpAnyH_take (i := 11) (oi := { dst := some 67, op := Op.move (Operand.tmp 1), type := 44, pos := "law.go:152", after := #[], guard := none }) (v := ?_) rfl (by kernel_rfl) (by kernel_rfl) (by kernel_rfl) (fun _ _ _ h => h) (Or.inl ⟨by rfl, ?_⟩) hHeld ?_
        rotate_left
        · (intro w2 hSw; obtain ⟨k0, k1, k2, k8⟩ := (HDA.out.below hSw).cellsOf; go_simp; first | with_reducible rfl | skip)
        try simp only [Act.put, List.setIfInBounds_toArray, List.set_cons_succ, List.set_cons_zero]
        refine wpAnyH_take (i := 12) (oi := { dst := some 68, op := Op.move (Operand.tmp 9), type := 3, pos := "law.go:152", after := #[], guard := none }) (v := ?_) rfl (by kernel_rfl) (by kernel_rfl) (by kernel_rfl) (fun _ _ _ h => h) (Or.inl ⟨by rfl, ?_⟩) hHeld ?_
        rotate_left
        · (intro w2 hSw; obtain ⟨k0, k1, k2, k8⟩ := (HDA.out.below hSw).cellsOf; go_simp; first | with_reducible rfl | skip)
        try simp only [Act.put, List.setIfInBounds_toArray, List.set_cons_succ, List.set_cons_zero]
        refine wpAnyH_take (i := 13) (oi := { dst := some 69, op := Op.indexAddr 44 (Operand.tmp 67) (Operand.tmp 68), type := 0, pos := "law.go:152", after := #[{ on := 11, ground := Ground.data }, { on := 12, ground := Ground.data }], guard := none }) (v := ?_) rfl (by kernel_rfl) (by kernel_rfl) (by kernel_rfl) (fun _ _ _ h => h) (Or.inl ⟨by rfl, ?_⟩) hHeld ?_
        rotate_left
        · (intro w2 hSw; obtain ⟨k0, k1, k2, k8⟩ := (HDA.out.below hSw).cellsOf; go_simp; first | with_reducible rfl | skip)
        try simp only [Act.put, List.setIfInBounds_toArray, List.set_cons_succ, List.set_cons_zero]
        refine wpAnyH_take (i := 14) (oi := { dst := some 70, op := Op.fieldAddr 46 (Operand.tmp 69) 4, type := 0, pos := "law.go:152", after := #[{ on := 13, ground := Ground.data }], guard := none }) (v := ?_) rfl (by kernel_rfl) (by kernel_rfl) (by kernel_rfl) (fun _ _ _ h => h) (Or.inl ⟨by rfl, ?_⟩) hHeld ?_
        rotate_left
        · (intro w2 hSw; obtain ⟨k0, k1, k2, k8⟩ := (HDA.out.below hSw).cellsOf; go_simp; first | with_reducible rfl | skip)
        try simp only [Act.put, List.setIfInBounds_toArray, List.set_cons_succ, List.set_cons_zero]
        refine wpAnyH_take (i := 15) (oi := { dst := some 71, op := Op.load 3 (Operand.tmp 70), type := 3, pos := "law.go:152", after := #[{ on := 14, ground := Ground.data }], guard := none }) (v := ?_) rfl (by kernel_rfl) (by kernel_rfl) (by kernel_rfl) (fun _ _ _ h => h) (Or.inl ⟨by rfl, ?_⟩) hHeld ?_
        rotate_left
        · (intro w2 hSw; obtain ⟨k0, k1, k2, k8⟩ := (HDA.out.below hSw).cellsOf; go_simp; first | with_reducible rfl | skip)
        try simp only [Act.put, List.setIfInBounds_toArray, List.set_cons_succ, List.set_cons_zero]
        refine wpAnyH_ready (rs := [16]) (by kernel_rfl) (by simp) ?_
        refine AllReadyH.cons (o := _) rfl (fun K hK => ?_) AllReadyH.nil
        go_simp
        go_at_call 14
        have HLS := hid (lose_send s d.to d.bs d.now)
        have HKP := hid (show Keeps s (if (s.send d.to d.bs d.now).2.2 = 0 ∨ (s.send d.to d.bs d.now).2.2 = 10 then 1 else 0) (s.send d.to d.bs d.now) from keeps_send HJ.out.ok (to := d.to) (now := d.now) HDA.out.ok.bs)
        have HLN := hid (len_send s d.to d.bs d.now)
        refine Calls.mono (HJ.out.send d.to d.now HDA.out.ok.to Aj d.bs.length cj d.bs rfl HDA.out.ok.bs (HDA.out.rd.below HBE.out) HDA.out.nil (fun h0 q o e => by
          obtain ⟨b', o', e', hl'⟩ := HDA.out.rd.form 0 (by omega)
          rw [e'] at e
          injection e with e
          injection e with e1 e2
          have := HG.out
          have := HBG.out
          omega) HLO.out) ?_
        rintro e w3 ⟨v, rfl, h3, hf3⟩
        obtain ⟨Af, cf, rfl⟩ := hf3.form
        obtain ⟨nf, hnf⟩ : ∃ m, m = (s.send d.to d.bs d.now).2.1.length := ⟨_, rfl⟩
        rw [← hnf] at hf3 ⊢
        have HNF := hid hnf
        have H3 := hid h3
        have HF3 := hid (hf3.sub (T' := fun _ => True) (fun _ _ => trivial))
        obtain ⟨cd, hcd⟩ : ∃ m, m = (s.send d.to d.bs d.now).2.2 := ⟨_, rfl⟩
        rw [← hcd]
        have HB3 : Hid (Below W.heap.size W w3) := hid (by obtain ⟨S, M, _, h2⟩ := h3; exact h2.bel)
        have HCD := hid hcd
        refine hK.out _ _ HB3.out (fun hHeld => ?_)
        clear hK K h3 hf3 HLO HJ hcd hnf
        try simp only [Act.put, List.setIfInBounds_toArray, List.set_cons_succ, List.set_cons_zero]
        refine wpAnyH_take (i := 17) (oi := { dst := some 55, op := Op.move (Operand.tmp 72), type := 37, pos := "law.go:152", after := #[{ on := 16, ground := Ground.data }], guard := none }) (v := ?_) rfl (by kernel_rfl) (by kernel_rfl) (by kernel_rfl) (fun _ _ _ h => h) (Or.inl ⟨by rfl, ?_⟩) hHeld ?_
        rotate_left
        · (intro w2 hSw; go_simp; first | with_reducible rfl | skip)
        try simp only [Act.put, List.setIfInBounds_toArray, List.set_cons_succ, List.set_cons_zero]
        refine wpAnyH_take (i := 18) (oi := { dst := some 73, op := Op.extract (Operand.tmp 55) 0, type := 22, pos := "law.go:152", after := #[{ on := 17, ground := Ground.data }], guard := none }) (v := ?_) rfl (by kernel_rfl) (by kernel_rfl) (by kernel_rfl) (fun _ _ _ h => h) (Or.inl ⟨by rfl, ?_⟩) hHeld ?_
        rotate_left
        · (intro w2 hSw; go_simp; first | with_reducible rfl | skip)
        try simp only [Act.put, List.setIfInBounds_toArray, List.set_cons_succ, List.set_cons_zero]
        refine wpAnyH_take (i := 19) (oi := { dst := some 74, op := Op.extract (Operand.tmp 55) 1, type := 24, pos := "law.go:152", after := #[{ on := 17, ground := Ground.data }, { on := 20, ground := Ground.gcOnly Departure.lateStores }], guard := none }) (v := ?_) rfl (by kernel_rfl) (by kernel_rfl) (by kernel_rfl) (fun _ _ _ h => h) (Or.inl ⟨by rfl, ?_⟩) hHeld ?_
        rotate_left
        · (intro w2 hSw; go_simp; first | with_reducible rfl | skip)
        try simp only [Act.put, List.setIfInBounds_toArray, List.set_cons_succ, List.set_cons_zero]
        refine wpAnyH_ready (rs := [20]) (by kernel_rfl) (by simp) ?_
        refine AllReadyH.cons (o := _) rfl (fun K hK => ?_) AllReadyH.nil
        go_simp
        refine hK.out _ _ HB3.out (fun hHeld => ?_)
        clear hK K
        try simp only [Act.put, List.setIfInBounds_toArray, List.set_cons_succ, List.set_cons_zero]
        refine wpAnyH_ready (rs := [21]) (by kernel_rfl) (by simp) ?_
        refine AllReadyH.cons (o := _) rfl (fun K hK => ?_) AllReadyH.nil
        go_simp
        refine hK.out _ _ HB3.out (fun hHeld => ?_)
        clear hK K
        try simp only [Act.put, List.setIfInBounds_toArray, List.set_cons_succ, List.set_cons_zero]
        refine wpAnyH_done (by kernel_rfl) ?_ _
        clear hHeld
        have HKP2 : Hid (Keeps s (if cd = 0 ∨ cd = 10 then 1 else 0) (s.send d.to d.bs d.now)) := hid (by rw [HCD.out]; exact HKP.out)
        by_cases hc0 : cd = 0
        · have hcb : (cd == 0) = true := by rw [hc0]; rfl
          go_wp2_with fail
          exact HJOIN.out _ w3 _ Af nf cf (in0 + 1) _ _ _ _ _ _ _ _ _ _ _ _ _ _ _ _ _ _ _ _ _ _ _ _ _ _ _ _ _ _ _ _ _ _ _ _ _ _ _ _ _ _ _ _ _ _ _ _ _ _ _ _ _ _ _ _ _ _ _ _ _ _ _ _ _ _ _ _ _ _ _ _ _ _ _ _ _ _ _ _ _ _ _ _ _ _ _ _ _ _ _ _ _ _ _ _ _ _ _ _ _ _ _ H3.out HLS.out HNF.out.symm (by rw [HNF.out]; exact HLN.out) HF3.out (fun x hx => by have := HKP.out.frm x hx; rw [HMAC.out] at this; exact this) (by rw [HKP.out.mac]; exact HMAC.out) (by omega) (by have h := HKP2.out.sum; rw [if_pos (.inl hc0)] at h; omega)
        · have hcb : (cd == 0) = false := by simpa using hc0
          by_cases hc1 : cd = 10
          · have hcb1 : (cd == 10) = true := by rw [hc1]; rfl
            go_wp2_with fail
            exact HJOIN.out _ w3 _ Af nf cf (in0 + 1) _ _ _ _ _ _ _ _ _ _ _ _ _ _ _ _ _ _ _ _ _ _ _ _ _ _ _ _ _ _ _ _ _ _ _ _ _ _ _ _ _ _ _ _ _ _ _ _ _ _ _ _ _ _ _ _ _ _ _ _ _ _ _ _ _ _ _ _ _ _ _ _ _ _ _ _ _ _ _ _ _ _ _ _ _ _ _ _ _ _ _ _ _ _ _ _ _ _ _ _ _ _ _ H3.out HLS.out HNF.out.symm (by rw [HNF.out]; exact HLN.out) HF3.out (fun x hx => by have := HKP.out.frm x hx; rw [HMAC.out] at this; exact this) (by rw [HKP.out.mac]; exact HMAC.out) (by omega) (by have h := HKP2.out.sum; rw [if_pos (.inr hc1)] at h; omega)
          · have hcb1 : (cd == 10) = false := by simpa using hc1
            go_wp2_with fail
            exact HJOIN.out _ w3 _ Af nf cf in0 _ _ _ _ _ _ _ _ _ _ _ _ _ _ _ _ _ _ _ _ _ _ _ _ _ _ _ _ _ _ _ _ _ _ _ _ _ _ _ _ _ _ _ _ _ _ _ _ _ _ _ _ _ _ _ _ _ _ _ _ _ _ _ _ _ _ _ _ _ _ _ _ _ _ _ _ _ _ _ _ _ _ _ _ _ _ _ _ _ _ _ _ _ _ _ _ _ _ _ _ _ _ _ H3.out HLS.out HNF.out.symm (by rw [HNF.out]; exact HLN.out) HF3.out (fun x hx => by have := HKP.out.frm x hx; rw [HMAC.out] at this; exact this) (by rw [HKP.out.mac]; exact HMAC.out) (by omega) (by have h := HKP2.out.sum; rw [if_neg (fun h => h.elim hc0 hc1)] at h; omega)
      · have hkb : (d.k == 0) = false := by simpa using hk0
        by_cases hk1 : d.k = 1
        · have hkb1 : (d.k == 1) = true := by rw [hk1]; rfl
          go_wp2_with fail
          clear k0 k1 k2 k8
          refine wp_region_held_drew (S := fun w2 => Below W.heap.size W w2) (by kernel_rfl) (HBE.out.drew) (fun hHeld => ?_)
          have HJ := hid (HJ.out.below (Below.refl _ _).drew)
          have HBE := hid (HBE.out.drew)
          generalize wr.drew = wd at *
          refine wpAnyH_take (i := 0) (oi := { dst := some 86, op := Op.move (Operand.tmp 5), type := 23, pos := "law.go:157", after := #[], guard := none }) (v := ?_) rfl (by kernel_rfl) (by kernel_rfl) (by kernel_rfl) (fun _ _ _ h => h) (Or.inl ⟨by rfl, ?_⟩) hHeld ?_
          rotate_left
          · (intro w2 hSw; obtain ⟨k0, k1, k2, k8⟩ := (HDA.out.below hSw).cellsOf; go_simp; first | with_reducible rfl | skip)
          try simp only [Act.put, List.setIfInBounds_toArray, List.set_cons_succ, List.set_cons_zero]
          refine wpAnyH_take (i := 1) (oi := { dst := some 87, op := Op.move (Operand.tmp 1), type := 44, pos := "law.go:157", after := #[], guard := none }) (v := ?_) rfl (by kernel_rfl) (by kernel_rfl) (by kernel_rfl) (fun _ _ _ h => h) (Or.inl ⟨by rfl, ?_⟩) hHeld ?_
          rotate_left
          · (intro w2 hSw; obtain ⟨k0, k1, k2, k8⟩ := (HDA.out.below hSw).cellsOf; go_simp; first | with_reducible rfl | skip)
          try simp only [Act.put, List.setIfInBounds_toArray, List.set_cons_succ, List.set_cons_zero]
          refine wpAnyH_take (i := 2) (oi := { dst := some 88, op := Op.move (Operand.tmp 9), type := 3, pos := "law.go:157", after := #[], guard := none }) (v := ?_) rfl (by kernel_rfl) (by kernel_rfl) (by kernel_rfl) (fun _ _ _ h => h) (Or.inl ⟨by rfl, ?_⟩) hHeld ?_
          rotate_left
          · (intro w2 hSw; obtain ⟨k0, k1, k2, k8⟩ := (HDA.out.below hSw).cellsOf; go_simp; first | with_reducible rfl | skip)
          try simp only [Act.put, List.setIfInBounds_toArray, List.set_cons_succ, List.set_cons_zero]
          refine wpAnyH_take (i := 3) (oi := { dst := some 89, op := Op.indexAddr 44 (Operand.tmp 87) (Operand.tmp 88), type := 0, pos := "law.go:157", after := #[{ on := 1, ground := Ground.data }, { on := 2, ground := Ground.data }], guard := none }) (v := ?_) rfl (by kernel_rfl) (by kernel_rfl) (by kernel_rfl) (fun _ _ _ h => h) (Or.inl ⟨by rfl, ?_⟩) hHeld ?_
          rotate_left
          · (intro w2 hSw; obtain ⟨k0, k1, k2, k8⟩ := (HDA.out.below hSw).cellsOf; go_simp; first | with_reducible rfl | skip)
          try simp only [Act.put, List.setIfInBounds_toArray, List.set_cons_succ, List.set_cons_zero]
          refine wpAnyH_take (i := 4) (oi := { dst := some 90, op := Op.fieldAddr 46 (Operand.tmp 89) 3, type := 0, pos := "law.go:157", after := #[{ on := 3, ground := Ground.data }], guard := none }) (v := ?_) rfl (by kernel_rfl) (by kernel_rfl) (by kernel_rfl) (fun _ _ _ h => h) (Or.inl ⟨by rfl, ?_⟩) hHeld ?_
          rotate_left
          · (intro w2 hSw; obtain ⟨k0, k1, k2, k8⟩ := (HDA.out.below hSw).cellsOf; go_simp; first | with_reducible rfl | skip)
          try simp only [Act.put, List.setIfInBounds_toArray, List.set_cons_succ, List.set_cons_zero]
          refine wpAnyH_take (i := 5) (oi := { dst := some 91, op := Op.load 40 (Operand.tmp 90), type := 40, pos := "law.go:157", after := #[{ on := 4, ground := Ground.data }], guard := none }) (v := .agg #[.int .i64 d.op, .int .u64 d.fm, .int .u32 d.fi, .int .u64 d.tm, .int .u32 d.ti]) rfl (by kernel_rfl) (by kernel_rfl) (by kernel_rfl) (fun _ _ _ h => h) (yieldsIf_load_mid (by rfl) 40 (.tmp 90) rfl b1 (o1 + j * 9 + 3) rfl [.int .i64 d.op, .int .u64 d.fm, .int .u32 d.fi, .int .u64 d.tm, .int .u32 d.ti] _ (fun w2 hSw => (HDA.out.below hSw).arp) Try.underlying40 rfl (by kernel_rfl)) hHeld ?_
          try simp only [Act.put, List.setIfInBounds_toArray, List.set_cons_succ, List.set_cons_zero]
          refine wpAnyH_take (i := 6) (oi := { dst := some 92, op := Op.move (Operand.tmp 1), type := 44, pos := "law.go:157", after := #[], guard := none }) (v := ?_) rfl (by kernel_rfl) (by kernel_rfl) (by kernel_rfl) (fun _ _ _ h => h) (Or.inl ⟨by rfl, ?_⟩) hHeld ?_
          rotate_left
          · (intro w2 hSw; obtain ⟨k0, k1, k2, k8⟩ := (HDA.out.below hSw).cellsOf; go_simp; first | with_reducible rfl | skip)
          try simp only [Act.put, List.setIfInBounds_toArray, List.set_cons_succ, List.set_cons_zero]
          refine wpAnyH_take (i := 7) (oi := { dst := some 93, op := Op.move (Operand.tmp 9), type := 3, pos := "law.go:157", after := #[], guard := none }) (v := ?_) rfl (by kernel_rfl) (by kernel_rfl) (by kernel_rfl) (fun _ _ _ h => h) (Or.inl ⟨by rfl, ?_⟩) hHeld ?_
          rotate_left
          · (intro w2 hSw; obtain ⟨k0, k1, k2, k8⟩ := (HDA.out.below hSw).cellsOf; go_simp; first | with_reducible rfl | skip)
          try simp only [Act.put, List.setIfInBounds_toArray, List.set_cons_succ, List.set_cons_zero]
          refine wpAnyH_take (i := 8) (oi := { dst := some 94, op := Op.indexAddr 44 (Operand.tmp 92) (Operand.tmp 93), type := 0, pos := "law.go:157", after := #[{ on := 6, ground := Ground.data }, { on := 7, ground := Ground.data }], guard := none }) (v := ?_) rfl (by kernel_rfl) (by kernel_rfl) (by kernel_rfl) (fun _ _ _ h => h) (Or.inl ⟨by rfl, ?_⟩) hHeld ?_
          rotate_left
          · (intro w2 hSw; obtain ⟨k0, k1, k2, k8⟩ := (HDA.out.below hSw).cellsOf; go_simp; first | with_reducible rfl | skip)
          try simp only [Act.put, List.setIfInBounds_toArray, List.set_cons_succ, List.set_cons_zero]
          refine wpAnyH_take (i := 9) (oi := { dst := some 95, op := Op.fieldAddr 46 (Operand.tmp 94) 4, type := 0, pos := "law.go:157", after := #[{ on := 8, ground := Ground.data }], guard := none }) (v := ?_) rfl (by kernel_rfl) (by kernel_rfl) (by kernel_rfl) (fun _ _ _ h => h) (Or.inl ⟨by rfl, ?_⟩) hHeld ?_
          rotate_left
          · (intro w2 hSw; obtain ⟨k0, k1, k2, k8⟩ := (HDA.out.below hSw).cellsOf; go_simp; first | with_reducible rfl | skip)
          try simp only [Act.put, List.setIfInBounds_toArray, List.set_cons_succ, List.set_cons_zero]
          refine wpAnyH_take (i := 10) (oi := { dst := some 96, op := Op.load 3 (Operand.tmp 95), type := 3, pos := "law.go:157", after := #[{ on := 9, ground := Ground.data }], guard := none }) (v := ?_) rfl (by kernel_rfl) (by kernel_rfl) (by kernel_rfl) (fun _ _ _ h => h) (Or.inl ⟨by rfl, ?_⟩) hHeld ?_
          rotate_left
          · (intro w2 hSw; obtain ⟨k0, k1, k2, k8⟩ := (HDA.out.below hSw).cellsOf; go_simp; first | with_reducible rfl | skip)
          try simp only [Act.put, List.setIfInBounds_toArray, List.set_cons_succ, List.set_cons_zero]
          refine wpAnyH_ready (rs := [11]) (by kernel_rfl) (by simp) ?_
          refine AllReadyH.cons (o := _) rfl (fun K hK => ?_) AllReadyH.nil
          go_simp
          go_at_call 13
          have HLS := hid (lose_take s ⟨d.op, d.fm, d.fi, d.tm, d.ti⟩ d.now)
          have HKP := hid (keeps_take HJ.out.ok ⟨d.op, d.fm, d.fi, d.tm, d.ti⟩ d.now)
          have HLN := hid (len_take HJ.out.ok ⟨d.op, d.fm, d.fi, d.tm, d.ti⟩ d.now)
          refine Calls.mono (HJ.out.take d.op d.fm d.fi d.tm d.ti d.now HDA.out.ok.fm.1 HDA.out.ok.fi) ?_
          rintro e w3 ⟨v, rfl, h3, hf3⟩
          obtain ⟨Af, cf, rfl⟩ := hf3.form
          obtain ⟨nf, hnf⟩ : ∃ m, m = (s.take ⟨d.op, d.fm, d.fi, d.tm, d.ti⟩ d.now).2.1.length := ⟨_, rfl⟩
          rw [← hnf] at hf3 ⊢
          have HNF := hid hnf
          have H3 := hid h3
          have HF3 := hid (hf3.sub (T' := fun _ => True) (fun _ _ => trivial))
          obtain ⟨cd, hcd⟩ : ∃ m, m = (s.take ⟨d.op, d.fm, d.fi, d.tm, d.ti⟩ d.now).2.2 := ⟨_, rfl⟩
          rw [← hcd]
          have HB3 : Hid (Below W.heap.size W w3) := hid (by obtain ⟨S, M, _, h2⟩ := h3; exact h2.bel)
          have HCD := hid hcd
          refine hK.out _ _ HB3.out (fun hHeld => ?_)
          clear hK K h3 hf3 HLO HJ hcd hnf
          try simp only [Act.put, List.setIfInBounds_toArray, List.set_cons_succ, List.set_cons_zero]
          refine wpAnyH_take (i := 12) (oi := { dst := some 85, op := Op.move (Operand.tmp 97), type := 37, pos := "law.go:157", after := #[{ on := 11, ground := Ground.data }], guard := none }) (v := ?_) rfl (by kernel_rfl) (by kernel_rfl) (by kernel_rfl) (fun _ _ _ h => h) (Or.inl ⟨by rfl, ?_⟩) hHeld ?_
          rotate_left
          · (intro w2 hSw; go_simp; first | with_reducible rfl | skip)
          try simp only [Act.put, List.setIfInBounds_toArray, List.set_cons_succ, List.set_cons_zero]
          refine wpAnyH_take (i := 13) (oi := { dst := some 98, op := Op.extract (Operand.tmp 85) 0, type := 22, pos := "law.go:157", after := #[{ on := 12, ground := Ground.data }], guard := none }) (v := ?_) rfl (by kernel_rfl) (by kernel_rfl) (by kernel_rfl) (fun _ _ _ h => h) (Or.inl ⟨by rfl, ?_⟩) hHeld ?_
          rotate_left
          · (intro w2 hSw; go_simp; first | with_reducible rfl | skip)
          try simp only [Act.put, List.setIfInBounds_toArray, List.set_cons_succ, List.set_cons_zero]
          refine wpAnyH_take (i := 14) (oi := { dst := some 99, op := Op.extract (Operand.tmp 85) 1, type := 24, pos := "law.go:157", after := #[{ on := 12, ground := Ground.data }, { on := 15, ground := Ground.gcOnly Departure.lateStores }], guard := none }) (v := ?_) rfl (by kernel_rfl) (by kernel_rfl) (by kernel_rfl) (fun _ _ _ h => h) (Or.inl ⟨by rfl, ?_⟩) hHeld ?_
          rotate_left
          · (intro w2 hSw; go_simp; first | with_reducible rfl | skip)
          try simp only [Act.put, List.setIfInBounds_toArray, List.set_cons_succ, List.set_cons_zero]
          refine wpAnyH_ready (rs := [15]) (by kernel_rfl) (by simp) ?_
          refine AllReadyH.cons (o := _) rfl (fun K hK => ?_) AllReadyH.nil
          go_simp
          refine hK.out _ _ HB3.out (fun hHeld => ?_)
          clear hK K
          try simp only [Act.put, List.setIfInBounds_toArray, List.set_cons_succ, List.set_cons_zero]
          refine wpAnyH_done (by kernel_rfl) ?_ _
          clear hHeld
          go_wp2_with fail
          exact HJOIN.out _ w3 _ Af nf cf in0 _ _ _ _ _ _ _ _ _ _ _ _ _ _ _ _ _ _ _ _ _ _ _ _ _ _ _ _ _ _ _ _ _ _ _ _ _ _ _ _ _ _ _ _ _ _ _ _ _ _ _ _ _ _ _ _ _ _ _ _ _ _ _ _ _ _ _ _ _ _ _ _ _ _ _ _ _ _ _ _ _ _ _ _ _ _ _ _ _ _ _ _ _ _ _ _ _ _ _ _ _ _ _ H3.out HLS.out HNF.out.symm (by rw [HNF.out]; exact HLN.out) HF3.out (fun x hx => by have := HKP.out.frm x hx; rw [HMAC.out] at this; exact this) (by rw [HKP.out.mac]; exact HMAC.out) (by omega) (by have h := HKP.out.sum; omega)
        · have hkb1 : (d.k == 1) = false := by simpa using hk1
          go_wp2_with (go_at_call 16; refine hold ?_)
          clear k0 k1 k2 k8
          refine hid ?_
          have HLS := hid (lose_tick s HJ.out.ok d.now)
          have HKP := hid (keeps_tick HJ.out.ok d.now)
          have HLN := hid (len_tick HJ.out.ok d.now)
          refine Calls.mono (HJ.out.tick d.now HLO.out) ?_
          rintro e w3 ⟨v, rfl, h3, hf3⟩
          obtain ⟨Af, cf, rfl⟩ := hf3.form
          have H3 := hid h3
          have HF3 := hid (hf3.sub (T' := fun _ => True) (fun _ _ => trivial))
          clear h3 hf3 HLO HJ
          go_wp2_with fail
          exact HJOIN.out _ w3 _ Af _ cf in0 _ _ _ _ _ _ _ _ _ _ _ _ _ _ _ _ _ _ _ _ _ _ _ _ _ _ _ _ _ _ _ _ _ _ _ _ _ _ _ _ _ _ _ _ _ _ _ _ _ _ _ _ _ _ _ _ _ _ _ _ _ _ _ _ _ _ _ _ _ _ _ _ _ _ _ _ _ _ _ _ _ _ _ _ _ _ _ _ _ _ _ _ _ _ _ _ _ _ _ _ _ _ _ H3.out HLS.out rfl HLN.out HF3.out (fun x hx => by have := HKP.out.frm x hx; rw [HMAC.out] at this; exact this) (by rw [HKP.out.mac]; exact HMAC.out) (by omega) (by have := HKP.out.sum; omega)
    · by_cases hml2 : j < l
      · have hx1 : (j : Int) < (l : Int) := by omega
        have hx2 : ¬ (j : Int) < 300 := by omega
        go_wp2_with (go_at_call 15; refine hold ?_)
        refine hid ?_
        refine Calls.mono (live_calls wr) ?_
        rintro e w5 ⟨rfl, hb5⟩
        have H5 := hid (HJ.out.below hb5)
        clear hb5 HJ
        go_wp2
        go_ret
        obtain ⟨S, M, _, h2⟩ := H5.out
        exact ⟨rfl, h2.bel⟩
      · have hx1 : ¬ (j : Int) < (l : Int) := by omega
        go_wp2_with (go_at_call 15; refine hold ?_)
        refine hid ?_
        refine Calls.mono (live_calls wr) ?_
        rintro e w5 ⟨rfl, hb5⟩
        have H5 := hid (HJ.out.below hb5)
        clear hb5 HJ
        go_wp2
        go_ret
        obtain ⟨S, M, _, h2⟩ := H5.out
        exact ⟨rfl, h2.bel⟩
end Go.Proofs.Ytebfoigbiekeiaa
