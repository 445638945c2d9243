/-
  LAYER 6, WALKS: cookie.New, may, lay.
-/
import Derived.Test.YtaieajfgcnaedaaDoorCookA
set_option linter.unusedVariables false
set_option linter.unusedSimpArgs false
namespace Go.Proofs.YtaieajfgcnaedaaDoor
open Go.RowKit

/-- Block g is keys. -/
structure KSt (w : World) (g : Nat) (sec frm : List Int) (two : Bool) : Prop where
  ex : ∃ A n c A' n' c', w.heap[g]? = some (.cells #[.slice A n c, .slice A' n' c', .bool two] 78 (0, 0)) ∧ sec.length = n ∧ frm.length = n' ∧ Rd w .u8 A sec ∧ Rd w .u8 A' frm ∧ (A = none → c = 0) ∧ (A' = none → c' = 0)
  bs : Bytes sec
  bf : Bytes frm
  ls : sec.length ≤ 140737488351232
  lf : frm.length ≤ 140737488351232
theorem KSt.below {w w' : World} {g : Nat} {sec frm : List Int} {two : Bool} (h : KSt w g sec frm two) (hb : Below w.heap.size w w') : KSt w' g sec frm two := by
  obtain ⟨A, n, c, A', n', c', h1, h2, h3, h4, h5, h6, h7⟩ := h.ex
  exact ⟨⟨A, n, c, A', n', c', (hb.block _ (lt_of_block h1)).trans h1, h2, h3, h4.below hb, h5.below hb, h6, h7⟩, h.bs, h.bf, h.ls, h.lf⟩
theorem KSt.lt {w : World} {g : Nat} {sec frm : List Int} {two : Bool} (h : KSt w g sec frm two) : g < w.heap.size := by
  obtain ⟨A, n, c, A', n', c', h1, _⟩ := h.ex
  exact lt_of_block h1
set_option maxHeartbeats 1600000 in
theorem cnew_calls (c n : Nat) (A : Option Addr) (xs : List Int) (hn : xs.length = n) (w : World) (hR : Rd w .u8 A xs) (hA : A = none → c = 0) (hb : Bytes xs) (hl : n ≤ 140737488351232) :
    Calls Tryd.prog 23 #[.slice A n c] w fun e w' => ∃ g, e = .returned (.pointer (some ⟨g, 0, none⟩)) ∧ w.heap.size ≤ g ∧ KSt w' g xs [] false ∧ Below w.heap.size w w' := by
  have HR := hid hR; have HA := hid hA; have HB := hid hb; have HN := hid hn
  clear hR hA hb hn
  go_enter Tryd.func23, Tryd.ntmps23
  go_wp2_with (go_at_call 38; refine hold ?_)
  refine hid ?_
  refine Calls.mono (clone_calls c n A xs HN.out w HR.out HA.out hl) ?_
  rintro e w1 ⟨v, rfl, ho, hb⟩
  obtain ⟨A1, c1, rfl, hA1, hR1, hb1⟩ := ho.rd (by rw [HN.out]; omega)
  rw [HN.out]
  have HR1 := hid hR1; have HA1 := hid hA1; have HB1 := hid hb
  clear ho hR1 hA1 hb1 hb
  go_wp2
  go_ret
  have hBa : Below w1.heap.size w1 (w1.alloc (.cells #[.slice A1 n c1, .slice none 0 0, .bool false] 78)) := (Below.refl _ _).alloc (Nat.le_refl _) _
  exact ⟨_, rfl, HB1.out.size, ⟨⟨A1, n, c1, none, 0, 0, heap_alloc_new _ _, HN.out, rfl, HR1.out.below hBa, Rd.nil _ _ _, HA1.out, fun _ => rfl⟩, HB.out, Bytes.nil, by rw [HN.out]; exact hl, by simp⟩, below_then HB1.out hBa⟩
set_option maxHeartbeats 1600000 in
theorem may_calls (c : Ck) (w : World) : Calls Tryd.prog 41 #[.agg c.cells] w fun e w' => e = .returned (.bool (decide c.may)) ∧ Below w.heap.size w w' := by
  obtain ⟨made, life, port, pport, tag, ptag, tsn, ptsn, room, outs, ins, addr, other⟩ := c
  unfold Ck.cells Ck.may
  simp only
  go_enter Tryd.func41, Tryd.ntmps41
  by_cases h1 : 0 ≤ made
  · by_cases h2 : made ≤ 1099511627776
    · by_cases h3 : 0 ≤ life
      · by_cases h4 : life ≤ 600
        · go_wp2
          go_ret
          exact ⟨ret_bool (decide_eq_true ⟨h1, h2, h3, h4⟩).symm, (Below.refl _ _).alloc (Nat.le_refl _) _⟩
        · go_wp2
          go_ret
          exact ⟨ret_bool (by simp; omega), (Below.refl _ _).alloc (Nat.le_refl _) _⟩
      · go_wp2
        go_ret
        exact ⟨ret_bool (by simp; omega), (Below.refl _ _).alloc (Nat.le_refl _) _⟩
    · go_wp2
      go_ret
      exact ⟨ret_bool (by simp; omega), (Below.refl _ _).alloc (Nat.le_refl _) _⟩
  · go_wp2
    go_ret
    exact ⟨ret_bool (decide_eq_false (fun h => by omega)).symm, (Below.refl _ _).alloc (Nat.le_refl _) _⟩
def layAll (n : Nat) (vs : List Int) : List Int := vs.flatMap fun v => be v n
theorem layAll_snoc (n : Nat) (vs : List Int) (v : Int) : layAll n (vs ++ [v]) = layAll n vs ++ be v n := by simp [layAll]
theorem layAll_len (n : Nat) (vs : List Int) : (layAll n vs).length = n * vs.length := by
  induction vs with
  | nil => simp [layAll]
  | cons v vs ih =>
    have : layAll n (v :: vs) = be v n ++ layAll n vs := by simp [layAll]
    rw [this, List.length_append, be_length, ih, List.length_cons, Nat.mul_succ]; omega
set_option maxHeartbeats 3200000 in
theorem lay_calls (B n k gl : Nat) (v : Value) (xs vs : List Int) (hk : vs.length = k) (w : World) (hO : Own w B 5 .u8 v xs) (hB : B ≤ w.heap.size) (hR : Rd w .u64 (some ⟨gl, 0, none⟩) vs) (hn1 : 1 ≤ n) (hn8 : n ≤ 8) (hv : ∀ x ∈ vs, 0 ≤ x ∧ x < 18446744073709551616 ∧ (n < 8 → x < 256 ^ n)) (hx : xs.length ≤ 1000) (hk2 : k ≤ 20) (hgl : v.ownBlock ≠ some gl) :
    Calls Tryd.prog 42 #[v, .int .i64 n, .slice (some ⟨gl, 0, none⟩) k k] w fun e w' => ∃ v', e = .returned v' ∧ Own w' B 5 .u8 v' (xs ++ layAll n vs) ∧ Below B w w' := by
  have HO := hid hO; have HR := hid hR; have HK := hid hk; have HV : Box (∀ x ∈ vs, 0 ≤ x ∧ x < 18446744073709551616 ∧ (n < 8 → x < 256 ^ n)) := ⟨hv⟩; have HGL := hid hgl
  clear hO hR hk hv hgl
  obtain ⟨A0, c0, rfl, hA0, hR0, hb0⟩ := HO.out.rd (by omega)
  clear hA0 hR0 hb0
  go_enter Tryd.func42, Tryd.ntmps42
  go_wp2
  go_loopw [0, 13] (fun s0 i w' => ∃ j : Nat, j ≤ k ∧ i = .int .i64 j ∧ Own w' B 5 .u8 s0 (xs ++ layAll n (vs.take j)) ∧ s0.ownBlock ≠ some gl ∧ Rd w' .u64 (some ⟨gl, 0, none⟩) vs ∧ Below B w w') (fun _ i _ => k - (intOf i).toNat)
  case atStart => exact ⟨0, by omega, rfl, by simpa [layAll] using HO.out, HGL.out, HR.out, Below.refl _ _⟩
  case round =>
    obtain ⟨j, hj, rfl, ho, hgl, hrd, hbl⟩ := hrel
    have HO2 := hid ho; have HGL2 := hid hgl; have HR2 := hid hrd; have HBL := hid hbl
    clear ho hgl hrd hbl HO HGL HR
    by_cases hlt : j < k
    · have hj0 : (0 : Int) ≤ (j : Int) := by omega
      have hj1 : (j : Int) < (k : Int) := by omega
      have hjl : j < vs.length := by rw [HK.out]; exact hlt
      have cx : wr.cell? ⟨gl, j, none⟩ = some (.int .u64 (vs.getD j 0)) := by have := HR2.out.cell j hjl; rw [Nat.zero_add] at this; exact this
      have hv := HV.out (vs.getD j 0) (by simp [List.getD_eq_getElem?_getD, hjl])
      have HX : Box (layAll n (vs.take j) ++ be (vs.getD j 0) n = layAll n (vs.take (j + 1))) := ⟨by
        rw [List.take_succ_eq_append_getElem hjl, layAll_snoc]
        simp [List.getD_eq_getElem?_getD, hjl]⟩
      have hll : (layAll n (vs.take j)).length ≤ 160 := by
        rw [layAll_len, List.length_take]
        have h1 : n * min j vs.length ≤ 8 * min j vs.length := Nat.mul_le_mul_right _ hn8
        omega
      have HLL := hid hll
      obtain ⟨X, hX⟩ : ∃ X, X = vs.getD j 0 := ⟨_, rfl⟩
      rw [← hX] at cx hv HX
      have HVX := hid hv
      clear hX hv hjl hll
      have hle : (xs ++ layAll n (vs.take j)).length ≤ 1160 := by rw [List.length_append]; have := HLL.out; omega
      obtain ⟨A1, c1, rfl, hA1, hR1, hb1⟩ := HO2.out.rd (by omega)
      obtain ⟨L0, hL0⟩ : ∃ L0, L0 = (xs ++ layAll n (vs.take j)).length := ⟨_, rfl⟩
      rw [← hL0] at HO2 HGL2 hle ⊢
      have HLE := hid hle; have HL0 := hid hL0
      clear hA1 hR1 hb1 hle hL0
      have hglr := HR2.out.under (by rw [HK.out]; omega) rfl
      go_wp2_with (go_at_call 40; refine hold ?_)
      refine hid ?_
      refine Calls.mono (bytes_calls X n HVX.out.1 HVX.out.2.1 hn1 hn8 HVX.out.2.2 wr) ?_
      rintro e w2 ⟨ge, ce, rfl, ho2, hb2⟩
      have HE := hid (ho2.rd' (by rw [be_length]; omega)); have HB2 := hid hb2
      have HO3 := hid (HO2.out.below hb2)
      have HR3 := hid (HR2.out.below hb2)
      clear ho2 hb2 cx HO2 HR2
      go_wp2_with (at_builtin; refine hold ?_)
      refine hid ?_
      refine wpList_app2 rfl _ _ 22 5 .u8 1 rfl elemB B (.slice A1 L0 c1) (xs ++ layAll n (vs.take j)) rfl HO3.out (some ⟨ge, 0, none⟩) ce n (be X n) rfl (be_length _ _) (fun h => by simp at h) HE.out (by have := HLE.out; have := HL0.out; omega) (by have := HLE.out; have := HL0.out; unfold maxLen; omega) (by have := HBL.out.size; have := HB2.out.size; omega) ?_
      intro v3 w3 ho3 hg3 hat3
      rw [List.append_assoc, HX.out] at ho3
      have hb3 : Below B w w3 := (HBL.out.trans (HB2.out.mono (by have := HBL.out.size; omega))).grown hg3 (by have := HBL.out.size; have := HB2.out.size; omega) (fun q hq => (HO3.out.lt q hq).1)
      have hr3 := HR3.out.kept hg3 (fun b o e h => by injection e with e; injection e with e1 e2; subst e1; exact HGL2.out h.symm)
      have hg3' : v3.ownBlock ≠ some gl := fun h => by
        rcases hat3 gl h with h1 | h1
        · exact HGL2.out h1
        · have := HB2.out.size; omega
      have HO4 := hid ho3; have HB4 := hid hb3; have HR4 := hid hr3; have HG4 := hid hg3'
      clear ho3 hg3 hat3 hb3 hr3 hg3' HO3 HR3 HE HBL HB2 HVX
      go_wp2
      go_roundw
      case rel => exact ⟨j + 1, by omega, by go_num, HO4.out, HG4.out, HR4.out, HB4.out⟩
      case measure => simp [intOf]; omega
    · obtain rfl : j = k := by omega
      have hfull : vs.take j = vs := List.take_of_length_le (by rw [HK.out]; exact Nat.le_refl _)
      have HF := hid hfull
      clear hfull
      go_wp2
      go_ret
      refine ⟨_, rfl, ?_, HBL.out⟩
      rw [← HF.out]
      exact HO2.out
end Go.Proofs.YtaieajfgcnaedaaDoor
