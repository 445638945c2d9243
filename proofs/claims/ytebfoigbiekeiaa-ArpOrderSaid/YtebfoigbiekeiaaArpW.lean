/-
  LAYER 9, WALKS: the law ArpOrder.
-/
import Derived.Test.YtebfoigbiekeiaaArpV
import Derived.BigQuiet
set_option linter.unusedVariables false
set_option linter.unusedSimpArgs false
namespace Go.Proofs.Ytebfoigbiekeiaa
open Go Go.RowKit

/-- How many bodies a call may lose. -/
def Lose (s : Ar) (f : Ar × List (List Int) × Int) : Prop := s.lost ≤ f.1.lost ∧ f.1.lost ≤ s.lost + 40
theorem lose_send (s : Ar) (to : Int) (xs : List Int) (now : Int) : Lose s (s.send to xs now) := by
  have h1 := (room_facts (s.at now)).2.2.2
  have h2 : (s.at now).lost = s.lost := rfl
  unfold Lose Ar.send
  split
  · simp only; omega
  · unfold Ar.send2
    split
    · simp only; omega
    · split
      · split
        · simp only; omega
        · split <;> (simp only; omega)
      · split <;> (simp only; omega)
theorem lose_take (s : Ar) (a : Q) (now : Int) : Lose s (s.take a now) := by
  have h1 := (room_facts (s.at now)).2.2.2
  have h2 : (s.at now).lost = s.lost := rfl
  unfold Lose Ar.take
  split
  · simp only; omega
  · unfold Ar.take2
    split
    · simp only; omega
    · split
      · simp only; omega
      · split
        · split <;> (simp only; omega)
        · simp only; omega
theorem lose_tick (s : Ar) (h : s.Ok) (now : Int) : Lose s (s.tick now) := by
  have h1 := tickL_lost now s.m (fun p hp => (h.en p hp).2.2.2.2.2.2.1)
  have h2 := h.few
  unfold Lose Ar.tick
  split
  · constructor <;> (simp only; omega)
  · constructor <;> (simp only; omega)
theorem rise_at {α : Type} {m : List (Int × α)} (h : Rising m) (i : Nat) (hi : i + 1 < m.length) : (m[i]'(by omega)).1 < (m[i + 1]'hi).1 :=
  List.pairwise_iff_getElem.1 h i (i + 1) (by omega) hi (by omega)
/-- n rows of bytes. -/
def RdBB (w : World) (A : Option Addr) (n : Nat) : Prop := ∀ j, j < n → ∃ (b o : Nat) (bs : List Int) (Aj : Option Addr) (cj : Nat), A = some ⟨b, o, none⟩ ∧ b < w.heap.size ∧ w.cell? ⟨b, o + j, none⟩ = some (.slice Aj bs.length cj) ∧ Rd w .u8 Aj bs ∧ (Aj = none → cj = 0) ∧ Bytes bs
theorem Ord.mk' {W w : World} {g b : Nat} {s : Ar} {S : Nat → Prop} {M : List (Int × Value)} (hc : CSt S w g b M s) (hk : Kpt W w g b) :
    Ord W (w.alloc (.cells #[.slice none 0 0] 29)) g b w.heap.size s (.slice none 0 0) (.slice none 0 0) [] [] := by
  have hb : Below w.heap.size w (w.alloc (.cells #[.slice none 0 0] 29)) := (Below.refl _ _).alloc (Nat.le_refl _) _
  exact ⟨⟨S, M, hc.below hb, fun h => by have := hc.sl _ h; omega, fun q hq => (by cases hq), fun q hq => (by cases hq)⟩, hk.below hb, by have := hc.lt; omega, by have := hc.map.lt; omega, hk.bel.size, Cell.new w _ _, OwnV.nil _ _ _, OwnV.nil _ _ _, fun q hq => (by cases hq), fun q hq => (by cases hq), .inl rfl⟩
set_option maxHeartbeats 12800000 in
set_option maxRecDepth 100000 in
theorem ArpOrder_calls (W : World) (at_ : Int) (hat : 0 ≤ at_ ∧ at_ < 256) (A : Option Addr) (l c : Nat) (hD : RdBB W A l) :
    Calls Try.prog 3 #[.slice A l c, .int .u8 at_] W fun e w' => e = .returned (.bool true) ∧ Below W.heap.size W w' := by
  have HD := hid hD; have HAT := hid hat
  clear hD hat
  go_enter Try.func3, Try.ntmps3
  go_wp2_with (go_at_call 10; refine hold ?_)
  refine hid ?_
  refine Calls.mono (cnew_calls 5 1 (by decide) (by decide) (by decide) W) ?_
  rintro e w1 ⟨g, b, rfl, hg, hb, hc, hbl⟩
  have HO := hid (Ord.mk' (W := W) hc ⟨hbl, hg, hb⟩)
  have HG := hid hg; have HBG := hid hb
  clear hc hbl hg hb
  go_wp2_with fail
  obtain ⟨gq, hgq⟩ : ∃ q, q = w1.heap.size := ⟨_, rfl⟩
  rw [← hgq] at HO ⊢
  generalize w1.alloc (.cells #[.slice none 0 0] 29) = w2 at *
  clear hgq
  go_loopw [7, 10] (fun sn i w' => ∃ (j : Nat) (s : Ar) (vg : Value) (sent got : List (List Int)), j ≤ l ∧ j ≤ 30 ∧ i = .int .i64 j ∧ Ord W w' g b gq s sn vg sent got ∧ sent = got ++ WW s ∧ s.ip = 1 ∧ s.last ≤ j ∧ 0 ≤ s.lost ∧ s.lost ≤ 80 * j ∧ sent.length ≤ j ∧ s.mac = 5) (fun _ i _ => 30 - (intOf i).toNat)
  case atStart => exact ⟨0, newA 5 1, _, [], [], by omega, by omega, rfl, HO.out, rfl, rfl, by show (0 : Int) ≤ 0; omega, by show (0 : Int) ≤ 0; omega, by show (0 : Int) ≤ 80 * 0; omega, by simp, rfl⟩
  case round =>
    obtain ⟨j, s, vg, sent, got, hjl, hj3, rfl, hor, hsent, hip, hla, hl0, hl1, hsl, hmac⟩ := hrel
    have HO := hid hor; have HSE := hid hsent; have HIP := hid hip; have HMAC := hid hmac
    have hv := hor.snt.rd
    obtain ⟨As, cs, rfl, _, hrs, hzs⟩ := hv
    rw [List.length_map] at HO ⊢
    obtain ⟨ns, hns⟩ : ∃ n, n = sent.length := ⟨_, rfl⟩
    rw [← hns] at HO hsl ⊢
    have HNS := hid hns
    clear hor hsent hip hmac hrs hzs hns
    have hj0 : (0 : Int) ≤ (j : Int) := by omega
    have hat := HAT.out
    by_cases hlt : j < l ∧ j < 30
    · have hx1 : (j : Int) < (l : Int) := by omega
      have hx2 : (j : Int) < 30 := by omega
      obtain ⟨b1, o1, bs, Aj, cj, rfl, hbl, hcl, hrd, hnil, hby⟩ := HD.out j hlt.1
      have HBL := hid hbl; have HCL := hid hcl; have HRD := hid hrd; have HNIL := hid hnil; have HBY := hid hby
      clear hbl hcl hrd hnil hby
      go_wp2_with (with_reducible refine hold_op (o := ⟨some 43, _, _, _, _, _⟩) ?_)
      rename_i K1 hK1 K0 hK0
      have HJOIN : Hid (∀ (s2 : Ar) (vg2 : Value) (got2 : List (List Int)) (w3 : World) (x11 x12 x13 x14 x37 x38 x43 x44 x45 x46 x47 x48 x49 x50 x51 x52 x53 x54 x55 x56 x57 x58 x59 x60 x61 x62 x63 x64 x65 x66 x67 x68 x69 x70 x71 x72 x73 x74 x75 x76 : Value), Ord W w3 g b gq s2 (.slice As ns cs) vg2 sent got2 → sent = got2 ++ WW s2 → s2.ip = 1 → s2.last ≤ j → s2.mac = 5 → s.lost ≤ s2.lost ∧ s2.lost ≤ s.lost + 40 → K1 { tmps := #[Value.slice (some { block := b1, off := o1 }) l c, Value.int IntKind.u8 at_, undef, undef, Value.bool false, Value.pointer (some { block := g, off := 0 }), Value.int IntKind.i64 0, Value.slice As ns cs, Value.pointer (some { block := gq, off := 0 }), Value.func (Fn.func 11) #[] #[Value.pointer (some { block := gq, off := 0 })], Value.int IntKind.i64 ↑j, x11, x12, x13, x14, undef, undef, undef, Value.tuple #[Value.pointer (some { block := g, off := 0 }), Value.int IntKind.i64 0], Value.tuple #[Value.pointer (some { block := g, off := 0 }), Value.int IntKind.i64 0], Value.pointer (some { block := g, off := 0 }), Value.int IntKind.i64 0, Value.int IntKind.i64 0, Value.bool false, Value.bool false, Value.pointer (some { block := g, off := 0 }), Value.bool false, Value.bool false, Value.func (Fn.func 11) #[] #[Value.pointer (some { block := gq, off := 0 })], Value.int IntKind.i64 ↑j, Value.slice (some { block := b1, off := o1 }) l c, Value.int IntKind.i64 ↑l, Value.bool true, Value.bool true, Value.int IntKind.i64 ↑j, Value.bool true, Value.bool true, x37, x38, Value.int IntKind.i64 ↑j, Value.int IntKind.u8 at_, Value.int IntKind.i64 at_, Value.int IntKind.i64 (at_ % 30), x43, x44, x45, x46, x47, x48, x49, x50, x51, x52, x53, x54, x55, x56, x57, x58, x59, x60, x61, x62, x63, x64, x65, x66, x67, x68, x69, x70, x71, x72, x73, x74, x75, x76, undef, undef, undef, undef, undef, undef, undef, undef, undef, undef, undef, undef, undef, undef, undef, undef, undef, undef, undef, undef, undef, undef, undef, undef, undef, undef, undef, undef, undef, undef], defers := [] } w3) := by
        refine hid ?_
        intro s2 vg2 got2 w3 x11 x12 x13 x14 x37 x38 x43 x44 x45 x46 x47 x48 x49 x50 x51 x52 x53 x54 x55 x56 x57 x58 x59 x60 x61 x62 x63 x64 x65 x66 x67 x68 x69 x70 x71 x72 x73 x74 x75 x76 h3 hse2 hip2 hla2 hmac2 hls
        have H3 := hid h3; have HSE2 := hid hse2; have HIP2 := hid hip2; have HM2 := hid hmac2
        clear h3 hse2 hip2 hmac2 hK0 HO
        refine hK1 _ _ ?_
        have c1 : w3.cell? ⟨b1, o1 + j, none⟩ = some (.slice Aj bs.length cj) := (H3.out.kpt.bel.cell (p := ⟨b1, o1 + j, none⟩) HBL.out).trans HCL.out
        have hgl : got2.length ≤ 400 := by
          have h1 := congrArg List.length HSE2.out
          simp only [List.length_append] at h1
          have h2 := HNS.out
          omega
        obtain ⟨nb, hnb⟩ : ∃ n, n = bs.length := ⟨_, rfl⟩
        rw [← hnb] at c1
        have HNB := hid hnb
        clear hnb
        go_wp2_with (go_at_call 14; refine hold ?_)
        refine hid ?_
        obtain ⟨S, M, hc, hx⟩ := H3.out.ex
        have HOS := hid (order_send hc.ok (xs := bs) (now := (j : Int)) HBY.out (by omega) hla2)
        have HKP := hid (show Keeps s2 (if (s2.send 2 bs j).2.2 = 0 ∨ (s2.send 2 bs j).2.2 = 10 then 1 else 0) (s2.send 2 bs j) from keeps_send hc.ok (to := 2) (now := (j : Int)) HBY.out)
        have HLN := hid (len_send s2 2 bs (j : Int))
        have HLS := hid (lose_send s2 2 bs (j : Int))
        have HCA := hid (send_calls S g b M s2 2 j (by decide) Aj nb cj bs HNB.out.symm HBY.out w3 hc (HRD.out.below H3.out.kpt.bel) HNIL.out (fun h0 q o e => by
          obtain ⟨b', o', e', hl'⟩ := HRD.out.form 0 (by omega)
          rw [e'] at e
          injection e with e
          injection e with e1 e2
          have := HG.out
          have := HBG.out
          omega) (by omega))
        unfold Lose at HLS
        generalize s2.send 2 bs (j : Int) = f at *
        obtain ⟨s3, F3, cd⟩ := f
        simp only at HOS HLN HLS
        have HFR := hid HKP.out.frm
        have HMC := hid HKP.out.mac
        simp only at HFR HMC
        clear HKP
        refine Calls.mono HCA.out ?_
        intro e w4 hd
        obtain ⟨v, rfl, ho4, hf4⟩ := H3.out.done hx hd
        simp only at ho4 hf4 ⊢
        obtain ⟨Af, cf, rfl⟩ := hf4.form
        obtain ⟨nf, hnf⟩ : ∃ n, n = F3.length := ⟨_, rfl⟩
        rw [← hnf] at hf4 HLN ⊢
        have HNF := hid hnf
        have HO4 := hid ho4; have HF4 := hid hf4
        have HW4 := hid (ho4.kpt.bel)
        clear hd ho4 hf4 hc hx c1 H3 HCA hnf
        by_cases hc0 : cd = 0
        · have hcb : (cd == 0) = true := by rw [hc0]; rfl
          have c2 : w4.cell? ⟨b1, o1 + j, none⟩ = some (.slice Aj nb cj) := by rw [HNB.out]; exact (HW4.out.cell (p := ⟨b1, o1 + j, none⟩) HBL.out).trans HCL.out
          have hcv := conv_str (P := Try.prog) Try.underlying31 Try.underlying5 Try.underlying9 nb cj HNB.out.symm (HRD.out.below HW4.out)
          go_wp2_with (at_builtin; refine hold ?_)
          have hbe : Below w4.heap.size w4 (w4.alloc (.cells #[sv bs] 9)) := (Below.refl _ _).alloc (Nat.le_refl _) _
          have hle : OwnV (w4.alloc (.cells #[sv bs] 9)) 0 9 (.slice (some ⟨w4.heap.size, 0, none⟩) 1 1) [sv bs] := OwnV.lit w4 9 0 (Nat.zero_le _) [_] #[_] 1 rfl rfl (by simp [maxLen])
          obtain ⟨Al, cl, hlv, hx1', hrl, hx2'⟩ := hle.rd
          injection hlv with hl1' hl2' hl3'
          subst hl1'
          have HO5 := hid (HO4.out.below hbe); have HF5 := hid (HF4.out.below hbe)
          change Hid (wpList _ _ _ _ _ (w4.alloc (.cells #[sv bs] 9)))
          generalize w4.alloc (.cells #[sv bs] 9) = w5 at *
          refine hid ?_
          refine wpList_appV rfl _ _ 29 9 (.string ⟨#[]⟩) rfl 16 rfl elemS W.heap.size (.slice As ns cs) (sent.map sv) rfl HO5.out.snt (some ⟨w4.heap.size, 0, none⟩) 1 1 [sv bs] rfl rfl (by simp) hrl (by simp [sv, Value.oneCell']) (by have := HNS.out; rw [List.length_map]; omega) (by have := HNS.out; rw [List.length_map]; unfold maxLen; omega) HO5.out.kpt.bel.size ?_
          intro v6 w6 ho6 hg6 hat6
          have HO6 := hid (HO5.out.send ho6 hg6 hat6)
          have HF6 := hid (HF5.out.keptR HO5.out.snt hg6)
          clear hbe hle hl2' hl3' hx1' hx2' hrl ho6 hg6 hat6 c2 hcv HO4 HF4 HO5 HF5 HW4
          go_wp2_with (go_at_call 11; refine hold ?_)
          refine hid ?_
          refine Calls.mono (take1_calls W w6 g b gq s3 v6 vg2 (sent ++ [bs]) got2 HO6.out _ Af cf nf F3 HNF.out.symm HF6.out HLN.out (fun x hx => by have := HFR.out x hx; rw [HM2.out] at this; exact this) hgl) ?_
          rintro e w8 ⟨rfl, vg8, ho8⟩
          have HO8 := hid ho8
          clear ho8 HO6 HF6
          go_wp2
          refine And.intro ?_ ?_
          · (repeat apply Exists.intro)
            refine And.intro ?_ rfl
            exact ⟨j + 1, s3, vg8, _, _, by omega, by omega, by go_num, HO8.out, by
              rcases HOS.out.1 with ⟨_, h2⟩ | ⟨h1, _⟩
              · rw [List.append_assoc, h2, ← List.append_assoc, ← HSE2.out]
              · exact absurd hc0 h1, HOS.out.2.1.trans HIP2.out, by rw [HOS.out.2.2]; omega, by have := HLS.out; omega, by have := HLS.out; omega, by have := HNS.out; simp only [List.length_append, List.length_singleton]; omega, by rw [HMC.out]; exact HM2.out⟩
          · simp [intOf]; omega
        · have hcb : (cd == 0) = false := by simpa using hc0
          go_wp2_with (go_at_call 11; refine hold ?_)
          refine hid ?_
          refine Calls.mono (take1_calls W w4 g b gq s3 (.slice As ns cs) vg2 sent got2 HO4.out _ Af cf nf F3 HNF.out.symm HF4.out HLN.out (fun x hx => by have := HFR.out x hx; rw [HM2.out] at this; exact this) hgl) ?_
          rintro e w8 ⟨rfl, vg8, ho8⟩
          have HO8 := hid ho8
          clear ho8 HO4 HF4
          go_wp2
          refine And.intro ?_ ?_
          · (repeat apply Exists.intro)
            refine And.intro ?_ rfl
            exact ⟨j + 1, s3, vg8, _, _, by omega, by omega, by go_num, HO8.out, by
              rcases HOS.out.1 with ⟨h1, _⟩ | ⟨_, h1, h2⟩
              · exact absurd h1 hc0
              · rw [h1, h2, List.append_nil]; exact HSE2.out, HOS.out.2.1.trans HIP2.out, by rw [HOS.out.2.2]; omega, by have := HLS.out; omega, by have := HLS.out; omega, by have := HNS.out; omega, by rw [HMC.out]; exact HM2.out⟩
          · simp [intOf]; omega
      clear hK1
      refine hid ?_
      by_cases hij : (j : Int) = at_ % 30
      · have hij1 : ((j : Int) == at_ % 30) = true := by rw [hij]; simp
        clear hij
        go_wp2_with (go_at_call 13; refine hold ?_)
        refine hid ?_
        obtain ⟨S, M, hc, hx⟩ := HO.out.ex
        have HOT := hid (order_take hc.ok HIP.out (now := (j : Int)) (by omega) hla)
        have HKP := hid (keeps_take hc.ok ⟨2, 6, 2, 5, 1⟩ (j : Int))
        have HLN := hid (len_take hc.ok ⟨2, 6, 2, 5, 1⟩ (j : Int))
        have HLS := hid (lose_take s ⟨2, 6, 2, 5, 1⟩ (j : Int))
        have HCA := hid (take_calls S g b M s 2 6 2 5 1 j (by decide) (by decide) wr hc)
        unfold Lose at HLS
        generalize s.take ⟨2, 6, 2, 5, 1⟩ (j : Int) = f at *
        obtain ⟨s3, F3, cd3⟩ := f
        simp only at HOT HLN HLS
        have HFR := hid HKP.out.frm
        have HMC := hid HKP.out.mac
        simp only at HFR HMC
        clear HKP
        refine Calls.mono HCA.out ?_
        intro e w3 hd
        obtain ⟨v, rfl, ho3, hf3⟩ := HO.out.done hx hd
        simp only at ho3 hf3 ⊢
        obtain ⟨Af, cf, rfl⟩ := hf3.form
        obtain ⟨nf, hnf⟩ : ∃ n, n = F3.length := ⟨_, rfl⟩
        rw [← hnf] at hf3 HLN ⊢
        have HNF := hid hnf
        have HO3 := hid ho3; have HF3 := hid hf3
        have hgl : got.length ≤ 400 := by
          have h1 := congrArg List.length HSE.out
          simp only [List.length_append] at h1
          have h2 := HNS.out
          omega
        clear hd ho3 hf3 hc hx hij1 HCA hnf
        go_wp2_with (go_at_call 11; refine hold ?_)
        refine hid ?_
        refine Calls.mono (take1_calls W w3 g b gq s3 (.slice As ns cs) vg sent got HO3.out _ Af cf nf F3 HNF.out.symm HF3.out HLN.out (fun x hx => by have := HFR.out x hx; rw [HMAC.out] at this; exact this) hgl) ?_
        rintro e w4 ⟨rfl, vg4, ho4⟩
        have HO4 := hid ho4
        clear ho4 HO3 HF3
        go_wp2_with fail
        exact HJOIN.out s3 vg4 _ w4 _ _ _ _ _ _ _ _ _ _ _ _ _ _ _ _ _ _ _ _ _ _ _ _ _ _ _ _ _ _ _ _ _ _ _ _ _ _ _ _ HO4.out (by rw [HSE.out, HOT.out.1, HOT.out.2.1, List.append_nil]) HOT.out.2.2.1 (by rw [HOT.out.2.2.2]; omega) (by rw [HMC.out]; exact HMAC.out) HLS.out
      · have hij1 : ((j : Int) == at_ % 30) = false := by simpa using hij
        clear hij
        go_wp2_with fail
        exact HJOIN.out s vg got wr _ _ _ _ _ _ _ _ _ _ _ _ _ _ _ _ _ _ _ _ _ _ _ _ _ _ _ _ _ _ _ _ _ _ _ _ _ _ _ _ HO.out HSE.out HIP.out hla HMAC.out ⟨by omega, by omega⟩
    · by_cases hml2 : j < l
      · have hx1 : (j : Int) < (l : Int) := by omega
        have hx2 : ¬ (j : Int) < 30 := by omega
        go_wp2_with (go_at_call 13; refine hold ?_)
        refine hid ?_
        obtain ⟨S, M, hc, hx⟩ := HO.out.ex
        have HOT := hid (order_take hc.ok HIP.out (now := 31) (by omega) (by omega))
        have HKP := hid (keeps_take hc.ok ⟨2, 6, 2, 5, 1⟩ 31)
        have HLN := hid (len_take hc.ok ⟨2, 6, 2, 5, 1⟩ 31)
        have HCA := hid (take_calls S g b M s 2 6 2 5 1 31 (by decide) (by decide) wr hc)
        generalize s.take ⟨2, 6, 2, 5, 1⟩ 31 = f at *
        obtain ⟨s3, F3, cd3⟩ := f
        simp only at HOT HLN
        have HFR := hid HKP.out.frm
        simp only at HFR
        clear HKP
        refine Calls.mono HCA.out ?_
        intro e w3 hd
        obtain ⟨v, rfl, ho3, hf3⟩ := HO.out.done hx hd
        simp only at ho3 hf3 ⊢
        obtain ⟨Af, cf, rfl⟩ := hf3.form
        obtain ⟨nf, hnf⟩ : ∃ n, n = F3.length := ⟨_, rfl⟩
        rw [← hnf] at hf3 HLN ⊢
        have HNF := hid hnf
        have HO3 := hid ho3; have HF3 := hid hf3
        have hgl : got.length ≤ 400 := by
          have h1 := congrArg List.length HSE.out
          simp only [List.length_append] at h1
          have h2 := HNS.out
          omega
        clear hd ho3 hf3 hc hx HCA hnf
        go_wp2_with (go_at_call 11; refine hold ?_)
        refine hid ?_
        refine Calls.mono (take1_calls W w3 g b gq s3 (.slice As ns cs) vg sent got HO3.out _ Af cf nf F3 HNF.out.symm HF3.out HLN.out (fun x hx => by have := HFR.out x hx; rw [HMAC.out] at this; exact this) hgl) ?_
        rintro e w4 ⟨rfl, vg4, ho4⟩
        rw [HOT.out.1, ← HSE.out] at ho4
        obtain ⟨Ag, cg, rfl, _, hrg, hzg⟩ := ho4.gts.rd
        obtain ⟨As2, cs2, hvs, _, hrs, hzs⟩ := ho4.snt.rd
        injection hvs with v1 v2 v3
        subst v1; subst v3
        have c0 := ho4.cell.cell
        rw [List.length_map, ← HNS.out] at c0
        have HO4 := hid ho4; have HRG := hid hrg; have HZG := hid hzg; have HRS := hid hrs; have HZS := hid hzs
        clear ho4 HO3 HF3 hrg hzg hrs hzs v2
        go_wp2_with fail
        go_loopw [17] (fun i w' => ∃ k : Nat, k ≤ ns ∧ i = .int .i64 k ∧ Below w4.heap.size w4 w') (fun i _ => ns - (intOf i).toNat)
        case atStart => exact ⟨0, by omega, rfl, Below.refl _ _⟩
        case round =>
          obtain ⟨k, hk, rfl, hbk⟩ := hrel
          have HBK := hid hbk
          clear hbk
          have hk0' : (0 : Int) ≤ (k : Int) := by omega
          by_cases hkl : k < ns
          · have hk1' : (k : Int) < (ns : Int) := by omega
            have hkm : k < (sent.map sv).length := by have := HNS.out; rw [List.length_map]; omega
            obtain ⟨bg, og, rfl, hlg, hcg⟩ := HRG.out.at_ k hkm
            obtain ⟨bz, oz, rfl, hlz, hcz⟩ := HRS.out.at_ k hkm
            obtain ⟨_, rfl⟩ := HZG.out bg og rfl
            obtain ⟨_, rfl⟩ := HZS.out bz oz rfl
            rw [Nat.zero_add] at hcg hcz
            have y1 := (HBK.out.cell (p := ⟨bg, k, none⟩) hlg).trans hcg
            have y2 := (HBK.out.cell (p := ⟨bz, k, none⟩) hlz).trans hcz
            have y0 := (HBK.out.cell (p := ⟨gq, 0, none⟩) HO4.out.cell.lt).trans c0
            obtain ⟨st, hst⟩ : ∃ st, (sent.map sv)[k]'hkm = .string st := by
              rw [List.getElem_map]
              exact ⟨_, rfl⟩
            rw [hst] at y1 y2
            clear hcg hcz hst hlg hlz c0
            go_wp2_with fail
            go_quiet (fail)
            have HBD := hid (below_drewN HBK.out nq)
            clear HBK y0 y1 y2
            go_wp2
            go_roundw
            case rel => exact ⟨k + 1, by omega, by go_num, HBD.out⟩
            case measure => simp [intOf]; omega
          · obtain rfl : k = ns := by omega
            have hk1' : ¬ (k : Int) < (k : Int) := by omega
            clear c0
            go_wp2_with (go_at_call 15; refine hold ?_)
            refine hid ?_
            refine Calls.mono (live_calls wr) ?_
            rintro e w5 ⟨rfl, hb5⟩
            go_wp2
            go_ret
            exact ⟨rfl, below_then (below_then HO4.out.kpt.bel HBK.out) hb5⟩
      · have hx1 : ¬ (j : Int) < (l : Int) := by omega
        go_wp2_with (go_at_call 13; refine hold ?_)
        refine hid ?_
        obtain ⟨S, M, hc, hx⟩ := HO.out.ex
        have HOT := hid (order_take hc.ok HIP.out (now := 31) (by omega) (by omega))
        have HKP := hid (keeps_take hc.ok ⟨2, 6, 2, 5, 1⟩ 31)
        have HLN := hid (len_take hc.ok ⟨2, 6, 2, 5, 1⟩ 31)
        have HCA := hid (take_calls S g b M s 2 6 2 5 1 31 (by decide) (by decide) wr hc)
        generalize s.take ⟨2, 6, 2, 5, 1⟩ 31 = f at *
        obtain ⟨s3, F3, cd3⟩ := f
        simp only at HOT HLN
        have HFR := hid HKP.out.frm
        simp only at HFR
        clear HKP
        refine Calls.mono HCA.out ?_
        intro e w3 hd
        obtain ⟨v, rfl, ho3, hf3⟩ := HO.out.done hx hd
        simp only at ho3 hf3 ⊢
        obtain ⟨Af, cf, rfl⟩ := hf3.form
        obtain ⟨nf, hnf⟩ : ∃ n, n = F3.length := ⟨_, rfl⟩
        rw [← hnf] at hf3 HLN ⊢
        have HNF := hid hnf
        have HO3 := hid ho3; have HF3 := hid hf3
        have hgl : got.length ≤ 400 := by
          have h1 := congrArg List.length HSE.out
          simp only [List.length_append] at h1
          have h2 := HNS.out
          omega
        clear hd ho3 hf3 hc hx HCA hnf
        go_wp2_with (go_at_call 11; refine hold ?_)
        refine hid ?_
        refine Calls.mono (take1_calls W w3 g b gq s3 (.slice As ns cs) vg sent got HO3.out _ Af cf nf F3 HNF.out.symm HF3.out HLN.out (fun x hx => by have := HFR.out x hx; rw [HMAC.out] at this; exact this) hgl) ?_
        rintro e w4 ⟨rfl, vg4, ho4⟩
        rw [HOT.out.1, ← HSE.out] at ho4
        obtain ⟨Ag, cg, rfl, _, hrg, hzg⟩ := ho4.gts.rd
        obtain ⟨As2, cs2, hvs, _, hrs, hzs⟩ := ho4.snt.rd
        injection hvs with v1 v2 v3
        subst v1; subst v3
        have c0 := ho4.cell.cell
        rw [List.length_map, ← HNS.out] at c0
        have HO4 := hid ho4; have HRG := hid hrg; have HZG := hid hzg; have HRS := hid hrs; have HZS := hid hzs
        clear ho4 HO3 HF3 hrg hzg hrs hzs v2
        go_wp2_with fail
        go_loopw [17] (fun i w' => ∃ k : Nat, k ≤ ns ∧ i = .int .i64 k ∧ Below w4.heap.size w4 w') (fun i _ => ns - (intOf i).toNat)
        case atStart => exact ⟨0, by omega, rfl, Below.refl _ _⟩
        case round =>
          obtain ⟨k, hk, rfl, hbk⟩ := hrel
          have HBK := hid hbk
          clear hbk
          have hk0' : (0 : Int) ≤ (k : Int) := by omega
          by_cases hkl : k < ns
          · have hk1' : (k : Int) < (ns : Int) := by omega
            have hkm : k < (sent.map sv).length := by have := HNS.out; rw [List.length_map]; omega
            obtain ⟨bg, og, rfl, hlg, hcg⟩ := HRG.out.at_ k hkm
            obtain ⟨bz, oz, rfl, hlz, hcz⟩ := HRS.out.at_ k hkm
            obtain ⟨_, rfl⟩ := HZG.out bg og rfl
            obtain ⟨_, rfl⟩ := HZS.out bz oz rfl
            rw [Nat.zero_add] at hcg hcz
            have y1 := (HBK.out.cell (p := ⟨bg, k, none⟩) hlg).trans hcg
            have y2 := (HBK.out.cell (p := ⟨bz, k, none⟩) hlz).trans hcz
            have y0 := (HBK.out.cell (p := ⟨gq, 0, none⟩) HO4.out.cell.lt).trans c0
            obtain ⟨st, hst⟩ : ∃ st, (sent.map sv)[k]'hkm = .string st := by
              rw [List.getElem_map]
              exact ⟨_, rfl⟩
            rw [hst] at y1 y2
            clear hcg hcz hst hlg hlz c0
            go_wp2_with fail
            go_quiet (fail)
            have HBD := hid (below_drewN HBK.out nq)
            clear HBK y0 y1 y2
            go_wp2
            go_roundw
            case rel => exact ⟨k + 1, by omega, by go_num, HBD.out⟩
            case measure => simp [intOf]; omega
          · obtain rfl : k = ns := by omega
            have hk1' : ¬ (k : Int) < (k : Int) := by omega
            clear c0
            go_wp2_with (go_at_call 15; refine hold ?_)
            refine hid ?_
            refine Calls.mono (live_calls wr) ?_
            rintro e w5 ⟨rfl, hb5⟩
            go_wp2
            go_ret
            exact ⟨rfl, below_then (below_then HO4.out.kpt.bel HBK.out) hb5⟩
end Go.Proofs.Ytebfoigbiekeiaa
