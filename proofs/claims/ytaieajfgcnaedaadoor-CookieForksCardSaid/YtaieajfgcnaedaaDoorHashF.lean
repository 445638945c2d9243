/-
  LAYER 5, WALKS: hash.Sum, Same.
-/
import Derived.Test.YtaieajfgcnaedaaDoorHashE
set_option linter.unusedVariables false
set_option linter.unusedSimpArgs false
namespace Go.Proofs.YtaieajfgcnaedaaDoor
open Go.RowKit

theorem Rd.under {w : World} {k : IntKind} {A : Option Addr} {xs : List Int} (h : Rd w k A xs) (hp : 0 < xs.length) {b o : Nat} (e : A = some ⟨b, o, none⟩) : b < w.heap.size := by
  obtain ⟨b', o', e', hl⟩ := h.form 0 hp
  rw [e] at e'
  injection e' with e'; injection e' with e1 e2; subst e1; exact hl
theorem sha_size (m : List Int) : (((sha m).map (Value.int .u8)).toArray).size = 32 := by simp [sha_len]
theorem sha_one (m : List Int) : (((sha m).map (Value.int .u8)).toArray).all (·.oneCell') = true := by simp [Value.oneCell', List.all_map]
/-- The sum as a value. -/
def shaV (m : List Int) : Array Value := ((sha m).map (Value.int .u8)).toArray
set_option maxHeartbeats 1600000 in
theorem sum_calls (c n : Nat) (A : Option Addr) (ys : List Int) (hn : ys.length = n) (w : World) (hT : Tab w) (hR : Rd w .u8 A ys) (hA : A = none → c = 0) (hb : Bytes ys) (hm : n ≤ 140737488354000) :
    Calls Tryd.prog 15 #[.slice A n c] w fun e w' => e = .returned (.agg (shaV ys)) ∧ Below w.heap.size w w' := by
  have HT := hid hT; have HR := hid hR; have HA := hid hA; have HB := hid hb; have HN := hid hn
  clear hT hR hA hb hn
  go_enter Tryd.func15, Tryd.ntmps15
  go_wp2_with (go_at_call 33; refine hold ?_)
  have hO0 : (w.alloc (.cells #[Value.int IntKind.u8 0, Value.int IntKind.u8 0, Value.int IntKind.u8 0, Value.int IntKind.u8 0, Value.int IntKind.u8 0, Value.int IntKind.u8 0, Value.int IntKind.u8 0, Value.int IntKind.u8 0, Value.int IntKind.u8 0, Value.int IntKind.u8 0, Value.int IntKind.u8 0, Value.int IntKind.u8 0, Value.int IntKind.u8 0, Value.int IntKind.u8 0, Value.int IntKind.u8 0, Value.int IntKind.u8 0, Value.int IntKind.u8 0, Value.int IntKind.u8 0, Value.int IntKind.u8 0, Value.int IntKind.u8 0, Value.int IntKind.u8 0, Value.int IntKind.u8 0, Value.int IntKind.u8 0, Value.int IntKind.u8 0, Value.int IntKind.u8 0, Value.int IntKind.u8 0, Value.int IntKind.u8 0, Value.int IntKind.u8 0, Value.int IntKind.u8 0, Value.int IntKind.u8 0, Value.int IntKind.u8 0, Value.int IntKind.u8 0] 24)).heap[w.heap.size]? = some (.cells #[Value.int IntKind.u8 0, Value.int IntKind.u8 0, Value.int IntKind.u8 0, Value.int IntKind.u8 0, Value.int IntKind.u8 0, Value.int IntKind.u8 0, Value.int IntKind.u8 0, Value.int IntKind.u8 0, Value.int IntKind.u8 0, Value.int IntKind.u8 0, Value.int IntKind.u8 0, Value.int IntKind.u8 0, Value.int IntKind.u8 0, Value.int IntKind.u8 0, Value.int IntKind.u8 0, Value.int IntKind.u8 0, Value.int IntKind.u8 0, Value.int IntKind.u8 0, Value.int IntKind.u8 0, Value.int IntKind.u8 0, Value.int IntKind.u8 0, Value.int IntKind.u8 0, Value.int IntKind.u8 0, Value.int IntKind.u8 0, Value.int IntKind.u8 0, Value.int IntKind.u8 0, Value.int IntKind.u8 0, Value.int IntKind.u8 0, Value.int IntKind.u8 0, Value.int IntKind.u8 0, Value.int IntKind.u8 0, Value.int IntKind.u8 0] 24 (0, 0)) := heap_alloc_new _ _
  have hB0 : Below w.heap.size w (w.alloc (.cells #[Value.int IntKind.u8 0, Value.int IntKind.u8 0, Value.int IntKind.u8 0, Value.int IntKind.u8 0, Value.int IntKind.u8 0, Value.int IntKind.u8 0, Value.int IntKind.u8 0, Value.int IntKind.u8 0, Value.int IntKind.u8 0, Value.int IntKind.u8 0, Value.int IntKind.u8 0, Value.int IntKind.u8 0, Value.int IntKind.u8 0, Value.int IntKind.u8 0, Value.int IntKind.u8 0, Value.int IntKind.u8 0, Value.int IntKind.u8 0, Value.int IntKind.u8 0, Value.int IntKind.u8 0, Value.int IntKind.u8 0, Value.int IntKind.u8 0, Value.int IntKind.u8 0, Value.int IntKind.u8 0, Value.int IntKind.u8 0, Value.int IntKind.u8 0, Value.int IntKind.u8 0, Value.int IntKind.u8 0, Value.int IntKind.u8 0, Value.int IntKind.u8 0, Value.int IntKind.u8 0, Value.int IntKind.u8 0, Value.int IntKind.u8 0] 24)) := (Below.refl _ _).alloc (Nat.le_refl _) _
  have HO0 := hid hO0; have HB0 := hid hB0
  clear hO0 hB0
  generalize w.alloc (.cells #[Value.int IntKind.u8 0, Value.int IntKind.u8 0, Value.int IntKind.u8 0, Value.int IntKind.u8 0, Value.int IntKind.u8 0, Value.int IntKind.u8 0, Value.int IntKind.u8 0, Value.int IntKind.u8 0, Value.int IntKind.u8 0, Value.int IntKind.u8 0, Value.int IntKind.u8 0, Value.int IntKind.u8 0, Value.int IntKind.u8 0, Value.int IntKind.u8 0, Value.int IntKind.u8 0, Value.int IntKind.u8 0, Value.int IntKind.u8 0, Value.int IntKind.u8 0, Value.int IntKind.u8 0, Value.int IntKind.u8 0, Value.int IntKind.u8 0, Value.int IntKind.u8 0, Value.int IntKind.u8 0, Value.int IntKind.u8 0, Value.int IntKind.u8 0, Value.int IntKind.u8 0, Value.int IntKind.u8 0, Value.int IntKind.u8 0, Value.int IntKind.u8 0, Value.int IntKind.u8 0, Value.int IntKind.u8 0, Value.int IntKind.u8 0] 24) = w1 at *
  have hl0 := lt_of_block HO0.out
  refine hid ?_
  refine Calls.mono (new_calls w1) ?_
  rintro e w2 ⟨rfl, hI2, hB2⟩
  have HI2 := hid hI2; have HB2 := hid hB2
  clear hI2 hB2
  go_wp2_with (go_at_call 20; refine hold ?_)
  refine hid ?_
  have hT2 := (HT.out.below HB0.out).below HB2.out
  have hR2 := (HR.out.below HB0.out).below HB2.out
  refine Calls.mono (write_calls w1.heap.size c n A [] ys HN.out w2 hT2 (St.new HI2.out) (by have := hT2.1; omega) hR2 HA.out (fun hp b o e => by have := HR.out.under (by rw [HN.out]; exact hp) e; omega) HB.out (by simp; omega)) ?_
  rintro e w3 ⟨rfl, hS3, hG3⟩
  rw [List.nil_append] at hS3
  have hB3 : Below w1.heap.size w1 w3 := HB2.out.grown hG3 HB2.out.size (fun k hk => by injection hk with hk; omega)
  have HS3 := hid hS3; have HB3 := hid hB3
  have HT3 := hid (((HT.out.below HB0.out).below hB3))
  clear hS3 hG3 hB3 hT2 hR2
  go_wp2_with (go_at_call 21; refine hold ?_)
  refine hid ?_
  refine Calls.mono (hsum_calls w1.heap.size ys w3 HT3.out HS3.out (by rw [HN.out]; exact hm)) ?_
  rintro e w4 ⟨rfl, hB4⟩
  have HO4 : Hid (w4.heap[w.heap.size]? = _) := hid ((hB4.block _ (Nat.lt_of_lt_of_le hl0 HB3.out.size)).trans ((HB3.out.block _ hl0).trans HO0.out))
  have HB4 : Hid (Below w.heap.size w w4) := hid (below_then HB0.out (below_then HB3.out hB4))
  clear hB4
  obtain ⟨R, hR⟩ : ∃ R, R = ((sha ys).map (Value.int .u8)).toArray := ⟨_, rfl⟩
  rw [← hR]
  have HRR : Box (R = shaV ys) := ⟨hR⟩
  have HHS : Hid (R.size = 32) := hid (by rw [hR]; exact sha_size _)
  have HHO : Hid (R.all (·.oneCell') = true) := hid (by rw [hR]; exact sha_one _)
  clear hR
  go_wp2_with (with_reducible refine hold_op (o := ⟨none, _, _, _, _, _⟩) ?_)
  refine hid ?_
  refine wpList_store_row rfl 24 (.tmp 2) (.tmp 9) rfl w.heap.size R rfl rfl 24 _ HO4.out (by rw [HHS.out]; kernel_rfl) HHS.out.symm HHO.out ?_
  have HO5 := hid (setRow_heap w4 w.heap.size _ R 24 _ HO4.out)
  have HB5 := hid (below_setRow HB4.out (Nat.le_refl _) R)
  clear HO4 HB4
  generalize w4.setRow w.heap.size R = w5 at *
  go_wp2
  refine bodyPost_ret (v := .agg R) ?_ rfl ⟨by rw [HRR.out], HB5.out⟩
  exact results_cell_row (p := 2) rfl _ w5 w.heap.size 24 R (0, 0) _ rfl HO5.out Tryd.underlying24 rfl (by rw [HHS.out]; kernel_rfl)

theorem or_xor_zero (x a b : Int) (hx0 : 0 ≤ x) (hx1 : x < 256) (ha0 : 0 ≤ a) (ha1 : a < 256) (hb0 : 0 ≤ b) (hb1 : b < 256) :
    ∃ y, bits .or .u8 x (bits .xor .u8 a b) = y ∧ 0 ≤ y ∧ y < 256 ∧ (y = 0 ↔ x = 0 ∧ a = b) := by
  obtain ⟨x, rfl⟩ := Int.eq_ofNat_of_zero_le hx0
  obtain ⟨a, rfl⟩ := Int.eq_ofNat_of_zero_le ha0
  obtain ⟨b, rfl⟩ := Int.eq_ofNat_of_zero_le hb0
  have wrap8 : ∀ B : BitVec 8, IntKind.u8.wrap (B.toNat : Int) = (B.toNat : Int) := fun B => by
    have := B.isLt
    rw [IntKind.wrap_u8]; omega
  have e1 : bits .xor .u8 (a : Int) (b : Int) = ((BitVec.ofNat 8 a ^^^ BitVec.ofNat 8 b).toNat : Int) := by
    simp only [bits, IntKind.bits, BitVec.ofInt_natCast]
    exact wrap8 _
  have e2 : bits .or .u8 (x : Int) ((BitVec.ofNat 8 a ^^^ BitVec.ofNat 8 b).toNat : Int) = ((BitVec.ofNat 8 x ||| (BitVec.ofNat 8 a ^^^ BitVec.ofNat 8 b)).toNat : Int) := by
    simp only [bits, IntKind.bits]
    rw [BitVec.ofInt_natCast, BitVec.ofInt_natCast, BitVec.ofNat_toNat, BitVec.setWidth_eq]
    exact wrap8 _
  refine ⟨_, rfl, ?_⟩
  rw [e1, e2]
  have hlt := (BitVec.ofNat 8 x ||| (BitVec.ofNat 8 a ^^^ BitVec.ofNat 8 b)).isLt
  refine ⟨by omega, by omega, ?_⟩
  have key : (BitVec.ofNat 8 x ||| (BitVec.ofNat 8 a ^^^ BitVec.ofNat 8 b)) = 0#8 ↔ BitVec.ofNat 8 x = 0#8 ∧ BitVec.ofNat 8 a = BitVec.ofNat 8 b := by
    rw [BitVec.or_eq_zero_iff, BitVec.xor_eq_zero_iff]
  have t : ∀ n : Nat, n < 256 → ∀ k : Nat, k < 256 → (BitVec.ofNat 8 n = BitVec.ofNat 8 k ↔ n = k) := fun n hn k hk => by
    constructor
    · intro h
      have := congrArg BitVec.toNat h
      simpa [Nat.mod_eq_of_lt hn, Nat.mod_eq_of_lt hk] using this
    · rintro rfl; rfl
  have k1 : ((BitVec.ofNat 8 x ||| (BitVec.ofNat 8 a ^^^ BitVec.ofNat 8 b)).toNat : Int) = 0 ↔ (BitVec.ofNat 8 x ||| (BitVec.ofNat 8 a ^^^ BitVec.ofNat 8 b)) = 0#8 := by
    constructor
    · intro h
      apply BitVec.eq_of_toNat_eq
      simp only [BitVec.toNat_ofNat]
      omega
    · intro h; rw [h]; rfl
  rw [k1, key, t x (by omega) 0 (by omega), t a (by omega) b (by omega)]
  omega
set_option maxHeartbeats 1600000 in
theorem same_calls (c n d k : Nat) (A B : Option Addr) (xs ys : List Int) (hn : xs.length = n) (hk : ys.length = k) (w : World) (hX : Rd w .u8 A xs) (hY : Rd w .u8 B ys) (hbx : Bytes xs) (hby : Bytes ys) :
    Calls Tryd.prog 19 #[.slice A n c, .slice B k d] w fun e w' => e = .returned (.bool (decide (xs = ys))) ∧ Drawn w w' := by
  have hnl := hX.len
  have hkl := hY.len
  rw [hn] at hnl; rw [hk] at hkl
  have HX := hid hX; have HY := hid hY; have HBX := hid hbx; have HBY := hid hby; have HN := hid hn; have HK := hid hk
  clear hX hY hbx hby hn hk
  by_cases hnk : n = k
  · subst hnk
    go_enter Tryd.func19, Tryd.ntmps19
    go_wp2
    go_loopw [5, 14] (fun s5 i w' => ∃ (j : Nat) (x : Int), j ≤ n ∧ s5 = .int .u8 x ∧ i = .int .i64 j ∧ 0 ≤ x ∧ x < 256 ∧ (x = 0 ↔ xs.take j = ys.take j) ∧ Drawn w w') (fun _ i _ => n - (intOf i).toNat)
    case atStart => exact ⟨0, 0, by omega, rfl, rfl, by omega, by omega, by simp, Drawn.refl _⟩
    case round =>
      obtain ⟨j, x, hj, rfl, rfl, hx0, hx1, hx2, hD⟩ := hrel
      have HD := hid hD; have HX2 := hid hx2
      clear hD hx2
      by_cases hlt : j < n
      · obtain ⟨b1, o1, rfl, _⟩ := HX.out.form j (by rw [HN.out]; exact hlt)
        obtain ⟨b2, o2, rfl, _⟩ := HY.out.form j (by rw [HK.out]; exact hlt)
        have c1 := (HX.out.below HD.out.below).cell j (by rw [HN.out]; exact hlt)
        have c2 := (HY.out.below HD.out.below).cell j (by rw [HK.out]; exact hlt)
        have hlt' : (j : Int) < (n : Int) := by omega
        have hj0 : (0 : Int) ≤ (j : Int) := by omega
        have ha := HBX.out.at_ j
        have hb := HBY.out.at_ j
        have HS : Hid (xs.take (j + 1) = ys.take (j + 1) ↔ xs.take j = ys.take j ∧ xs.getD j 0 = ys.getD j 0) := hid (by
          rw [List.take_succ_eq_append_getElem (by rw [HN.out]; exact hlt), List.take_succ_eq_append_getElem (by rw [HK.out]; exact hlt)]
          have l1 : (xs.take j).length = (ys.take j).length := by rw [List.length_take, List.length_take, HN.out, HK.out]
          have g1 : xs.getD j 0 = xs[j]'(by rw [HN.out]; exact hlt) := by simp [List.getD_eq_getElem?_getD, HN.out, hlt]
          have g2 : ys.getD j 0 = ys[j]'(by rw [HK.out]; exact hlt) := by simp [List.getD_eq_getElem?_getD, HK.out, hlt]
          rw [g1, g2]
          constructor
          · intro h
            obtain ⟨h1, h2⟩ := List.append_inj h l1
            exact ⟨h1, by injection h2⟩
          · rintro ⟨h1, h2⟩
            rw [h1, h2])
        obtain ⟨y, hy, hy0, hy1, hy2⟩ := or_xor_zero x (xs.getD j 0) (ys.getD j 0) hx0 hx1 ha.1 ha.2 hb.1 hb.2
        have HY2 : Hid (y = 0 ↔ xs.take (j + 1) = ys.take (j + 1)) := hid (by rw [hy2, HS.out, HX2.out])
        clear hy2 HS
        generalize xs.getD j 0 = p at *
        generalize ys.getD j 0 = q at *
        go_wp2
        go_quiet (fail)
        go_wp2
        go_roundw
        case rel => exact ⟨j + 1, y, by omega, by first | rfl | rw [hy], by go_num, hy0, hy1, HY2.out, HD.out.more _⟩
        case measure => simp [intOf]; omega
      · obtain rfl : j = n := by omega
        have HF : Hid (x = 0 ↔ xs = ys) := hid (by
          have := HX2.out
          rw [List.take_of_length_le (Nat.le_of_eq HN.out), List.take_of_length_le (Nat.le_of_eq HK.out)] at this
          exact this)
        clear hlt hj HX2
        by_cases hx : x = 0
        · have HEQ : Hid (xs = ys) := hid (HF.out.1 hx)
          clear HF
          subst hx
          go_wp2
          go_ret
          exact ⟨by rw [decide_eq_true HEQ.out]; rfl, HD.out⟩
        · have hx' : (x == 0) = false := by simpa using hx
          go_wp2
          go_ret
          exact ⟨by rw [decide_eq_false (fun h => hx (HF.out.2 h))]; rfl, HD.out⟩
  · have hne : ¬ (n : Int) = (k : Int) := by omega
    have HNE : Hid (¬ xs = ys) := hid (fun h => hnk (by rw [← HN.out, ← HK.out, h]))
    go_enter Tryd.func19, Tryd.ntmps19
    have hne' : ((n : Int) != (k : Int)) = true := bne_iff_ne.2 hne
    go_wp2
    go_ret
    exact ⟨by rw [decide_eq_false HNE.out]; rfl, Drawn.refl _⟩
end Go.Proofs.YtaieajfgcnaedaaDoor
