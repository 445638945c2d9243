/-
  THE REFERENCE OF LAYER 1, WALKS: Bytes, Lay.
-/
import Derived.Test.YtaieajfgcnaedaaDoorCookK
set_option linter.unusedVariables false
set_option linter.unusedSimpArgs false
namespace Go.Proofs.YtaieajfgcnaedaaDoor
open Go.RowKit

/-- A number's bytes, of which the last k stand. -/
def rbTo (v : Int) (n k : Nat) : List Int := (List.range n).map fun i => if n - k ≤ i then v / 256 ^ (n - 1 - i) % 256 else 0
theorem rbTo_len (v : Int) (n k : Nat) : (rbTo v n k).length = n := by simp [rbTo]
theorem rbTo_zero (v : Int) (n : Nat) : rbTo v n 0 = List.replicate n 0 := by
  apply List.ext_getElem
  · simp [rbTo]
  · intro i h1 h2
    have hi : i < n := by simpa [rbTo] using h1
    have : ¬ n ≤ i := by omega
    simp [rbTo, this]
theorem rbTo_all (v : Int) (n : Nat) : rbTo v n n = be v n := by
  unfold rbTo be
  apply List.map_congr_left
  intro i _
  simp
theorem rbTo_succ (v : Int) (n k : Nat) (h : k < n) : (rbTo v n k).set (n - 1 - k) (v / 256 ^ k % 256) = rbTo v n (k + 1) := by
  apply List.ext_getElem
  · simp [rbTo]
  · intro i h1 h2
    have hi : i < n := by simpa [rbTo] using h2
    simp only [rbTo, List.getElem_set, List.getElem_map, List.getElem_range]
    by_cases he : n - 1 - k = i
    · rw [if_pos he, if_pos (by omega), show n - 1 - i = k by omega]
    · rw [if_neg he]
      by_cases h3 : n - k ≤ i
      · rw [if_pos h3, if_pos (by omega)]
      · rw [if_neg h3, if_neg (by omega)]
theorem div_step (v : Int) (k : Nat) : v / 256 ^ k / 256 = v / 256 ^ (k + 1) := by
  rw [Int.ediv_ediv_of_nonneg (Int.pow_nonneg (by omega)), ← Int.pow_succ]
set_option maxHeartbeats 3200000 in
theorem rbytes_calls (v : Int) (n : Nat) (h0 : 0 ≤ v) (h1 : v < 18446744073709551616) (hn1 : 1 ≤ n) (hn8 : n ≤ 8) (hv : v < 256 ^ n) (w : World) :
    Calls Tryd.prog 57 #[.int .u64 v, .int .i64 n] w fun e w' => ∃ g c, e = .returned (.tuple #[.slice (some ⟨g, 0, none⟩) n c, .int .i64 0]) ∧ Own w' w.heap.size 5 .u8 (.slice (some ⟨g, 0, none⟩) n c) (be v n) ∧ Below w.heap.size w w' ∧ w.heap.size ≤ g := by
  have HB0 := hid (rbTo_zero v n)
  have HBA := hid (rbTo_all v n)
  have HV := hid (show v / 256 ^ n = 0 from Int.ediv_eq_zero_of_lt h0 hv)
  clear hv
  have a1 : (1 : Int) ≤ (n : Int) := by omega
  have a8 : (n : Int) ≤ 8 := by omega
  go_enter Tryd.func57, Tryd.ntmps57
  go_wp2_with (at_make; refine hold ?_)
  refine hid ?_
  refine wpList_mk rfl _ _ 22 5 .u8 1 rfl elemB w.heap.size .i64 .i64 n n n rfl rfl rfl rfl (by omega) (by simp [maxLen]; omega) (Nat.le_refl _) ?_
  intro w1 ho1 hb1
  rw [← HB0.out] at ho1
  go_wp2_with fail
  go_loopw [0, 7] (fun x i wr => ∃ k : Nat, k ≤ n ∧ x = .int .u64 (v / 256 ^ k) ∧ i = .int .i64 ((n : Int) - 1 - k) ∧ Own wr w.heap.size 5 .u8 (.slice (some ⟨w.heap.size, 0, none⟩) n n) (rbTo v n k) ∧ Below w.heap.size w wr) (fun _ i _ => (intOf i + 1).toNat)
  case atStart => exact ⟨0, Nat.zero_le _, by simp, by simp, ho1, hb1⟩
  case round =>
    obtain ⟨k, hk, rfl, rfl, ho2, hb2⟩ := hrel
    have HO := hid ho2; have HB := hid hb2
    clear ho2 hb2 ho1 hb1
    by_cases hlt : k < n
    · obtain ⟨j, hj⟩ : ∃ j : Nat, j = n - 1 - k := ⟨_, rfl⟩
      have e : (n : Int) - 1 - (k : Int) = (j : Int) := by omega
      rw [e]
      have hjl : j < (rbTo v n k).length := by rw [rbTo_len]; omega
      have hcu := HO.out.cell j hjl
      have hfz := HO.out.free j
      have hst := HO.out.set j hjl (v / 256 ^ k % 256)
      rw [hj, rbTo_succ v n k hlt, ← hj] at hst
      have hdv := div_step v k
      obtain ⟨X, hX⟩ : ∃ X, X = v / 256 ^ k := ⟨_, rfl⟩
      rw [← hX] at hst hdv ⊢
      have hX0 : 0 ≤ X := by rw [hX]; exact Int.ediv_nonneg h0 (Int.pow_nonneg (by omega))
      have hX1 : X ≤ v := by rw [hX]; exact Int.ediv_le_self _ h0
      have HST := hid hst; have HDV := hid hdv
      have HB2 := hid (below_set HB.out w.heap.size j (.int .u8 (X % 256)) (Nat.le_refl _))
      have HJ := hid hj; have HK := hid hlt
      clear hst hdv hX hj e hjl HB HO
      generalize (rbTo v n k).getD j 0 = u at *
      have j0 : (0 : Int) ≤ (j : Int) := by omega
      have j1 : (j : Int) < (n : Int) := by have := HJ.out; have := HK.out; omega
      go_wp2_with fail
      go_roundw
      case rel =>
        have hj := HJ.out
        have hk := HK.out
        exact ⟨k + 1, by omega, by rw [HDV.out], by rw [show (j : Int) - 1 = (n : Int) - 1 - ((k + 1 : Nat) : Int) by omega], HST.out, HB2.out⟩
      case measure => simp [intOf]
    · obtain rfl : k = n := by omega
      rw [HBA.out] at HO
      rw [HV.out]
      have e : (k : Int) - 1 - (k : Int) = -1 := by omega
      rw [e]
      go_wp2
      go_ret2
      exact ⟨_, _, rfl, HO.out, HB.out, Nat.le_refl _⟩
set_option maxHeartbeats 1600000 in
theorem rlay_calls (B : Nat) (b : Value) (xs : List Int) (v : Int) (n : Nat) (h0 : 0 ≤ v) (h1 : v < 18446744073709551616) (hn1 : 1 ≤ n) (hn8 : n ≤ 8) (hv : v < 256 ^ n) (w : World) (hO : Own w B 5 .u8 b xs) (hB : B ≤ w.heap.size) (hx : xs.length ≤ 1000) :
    Calls Tryd.prog 55 #[b, .int .u64 v, .int .i64 n] w fun e w' => ∃ b', e = .returned b' ∧ Own w' B 5 .u8 b' (xs ++ be v n) ∧ Below B w w' := by
  have HO := hid hO
  clear hO
  obtain ⟨A0, c0, rfl, hA0, hR0, hb0⟩ := HO.out.rd (by omega)
  clear hA0 hR0 hb0
  go_enter Tryd.func55, Tryd.ntmps55
  go_wp2_with (go_at_call 57; refine hold ?_)
  refine hid ?_
  refine Calls.mono (rbytes_calls v n h0 h1 hn1 hn8 hv w) ?_
  rintro e w1 ⟨g, c, rfl, ho, hb, hg⟩
  have HE := hid (ho.rd' (by rw [be_length]; omega)); have HO1 := hid (HO.out.below hb); have HB := hid (hb.mono hB)
  have HS := hid hb.size
  clear ho hb HO
  go_wp2_with (at_builtin; refine hold ?_)
  refine hid ?_
  refine wpList_app2 rfl _ _ 22 5 .u8 1 rfl elemB B (.slice A0 xs.length c0) xs rfl HO1.out (some ⟨g, 0, none⟩) c n (be v n) rfl (be_length _ _) (fun h => by simp at h) HE.out (by omega) (by unfold maxLen; omega) (by have := HS.out; omega) ?_
  intro v3 w3 ho3 hg3 hat3
  have hb3 : Below B w w3 := HB.out.grown hg3 (by have := HS.out; omega) (fun q hq => (HO1.out.lt q hq).1)
  have HO3 := hid ho3; have HB3 := hid hb3
  clear ho3 hg3 hat3 hb3
  go_wp2
  go_ret
  exact ⟨_, rfl, HO3.out, HB3.out⟩
theorem u64_in (n : Int) (h : 0 ≤ n ∧ n < 18446744073709551616) : IntKind.u64.wrap n = n := by rw [IntKind.wrap_u64]; omega
set_option maxHeartbeats 12800000 in
set_option maxRecDepth 100000 in
theorem rplain_calls (ck : Ck) (hm : ck.may) (hok : ck.Ok) (w : World) :
    Calls Tryd.prog 53 #[.agg ck.cells] w fun e w' => ∃ b, e = .returned b ∧ Own w' w.heap.size 5 .u8 b ck.plain ∧ Below w.heap.size w w' := by
  have hpl : ck.plain = (((((((((((((([] ++ be ck.made 8) ++ be ck.life 4) ++ be ck.port 2) ++ be ck.pport 2) ++ be ck.tag 4) ++ be ck.ptag 4) ++ be ck.tsn 4) ++ be ck.ptsn 4) ++ be ck.room 4) ++ be ck.outs 2) ++ be ck.ins 2) ++ be ck.addr 4) ++ be ck.other 4) ++ be 0 4) := by simp [Ck.plain, List.append_assoc]
  have HPL := hid hpl
  obtain ⟨m1, m2, m3, m4⟩ := hm
  obtain ⟨o1, o2, o3, o4, o5, o6, o7, o8, o9, o10, o11⟩ := hok
  have hr0 : 0 ≤ ck.made ∧ ck.made < 18446744073709551616 := ⟨by omega, by omega⟩
  have hr1 : 0 ≤ ck.life ∧ ck.life < 4294967296 := ⟨by omega, by omega⟩
  have hr2 : 0 ≤ ck.port ∧ ck.port < 65536 := ⟨by omega, by omega⟩
  have hr3 : 0 ≤ ck.pport ∧ ck.pport < 65536 := ⟨by omega, by omega⟩
  have hr4 : 0 ≤ ck.tag ∧ ck.tag < 4294967296 := ⟨by omega, by omega⟩
  have hr5 : 0 ≤ ck.ptag ∧ ck.ptag < 4294967296 := ⟨by omega, by omega⟩
  have hr6 : 0 ≤ ck.tsn ∧ ck.tsn < 4294967296 := ⟨by omega, by omega⟩
  have hr7 : 0 ≤ ck.ptsn ∧ ck.ptsn < 4294967296 := ⟨by omega, by omega⟩
  have hr8 : 0 ≤ ck.room ∧ ck.room < 4294967296 := ⟨by omega, by omega⟩
  have hr9 : 0 ≤ ck.outs ∧ ck.outs < 65536 := ⟨by omega, by omega⟩
  have hr10 : 0 ≤ ck.ins ∧ ck.ins < 65536 := ⟨by omega, by omega⟩
  have hr11 : 0 ≤ ck.addr ∧ ck.addr < 4294967296 := ⟨by omega, by omega⟩
  have hr12 : 0 ≤ ck.other ∧ ck.other < 4294967296 := ⟨by omega, by omega⟩
  have p8 : (256 : Int) ^ 8 = 18446744073709551616 := rfl
  have p4 : (256 : Int) ^ 4 = 4294967296 := rfl
  have p2 : (256 : Int) ^ 2 = 65536 := rfl
  have HQ0 := hid (show 0 ≤ ck.made ∧ ck.made < 18446744073709551616 ∧ ck.made < 256 ^ 8 from ⟨hr0.1, by omega, by rw [p8]; exact hr0.2⟩)
  have HQ1 := hid (show 0 ≤ ck.life ∧ ck.life < 18446744073709551616 ∧ ck.life < 256 ^ 4 from ⟨hr1.1, by omega, by rw [p4]; exact hr1.2⟩)
  have HQ2 := hid (show 0 ≤ ck.port ∧ ck.port < 18446744073709551616 ∧ ck.port < 256 ^ 2 from ⟨hr2.1, by omega, by rw [p2]; exact hr2.2⟩)
  have HQ3 := hid (show 0 ≤ ck.pport ∧ ck.pport < 18446744073709551616 ∧ ck.pport < 256 ^ 2 from ⟨hr3.1, by omega, by rw [p2]; exact hr3.2⟩)
  have HQ4 := hid (show 0 ≤ ck.tag ∧ ck.tag < 18446744073709551616 ∧ ck.tag < 256 ^ 4 from ⟨hr4.1, by omega, by rw [p4]; exact hr4.2⟩)
  have HQ5 := hid (show 0 ≤ ck.ptag ∧ ck.ptag < 18446744073709551616 ∧ ck.ptag < 256 ^ 4 from ⟨hr5.1, by omega, by rw [p4]; exact hr5.2⟩)
  have HQ6 := hid (show 0 ≤ ck.tsn ∧ ck.tsn < 18446744073709551616 ∧ ck.tsn < 256 ^ 4 from ⟨hr6.1, by omega, by rw [p4]; exact hr6.2⟩)
  have HQ7 := hid (show 0 ≤ ck.ptsn ∧ ck.ptsn < 18446744073709551616 ∧ ck.ptsn < 256 ^ 4 from ⟨hr7.1, by omega, by rw [p4]; exact hr7.2⟩)
  have HQ8 := hid (show 0 ≤ ck.room ∧ ck.room < 18446744073709551616 ∧ ck.room < 256 ^ 4 from ⟨hr8.1, by omega, by rw [p4]; exact hr8.2⟩)
  have HQ9 := hid (show 0 ≤ ck.outs ∧ ck.outs < 18446744073709551616 ∧ ck.outs < 256 ^ 2 from ⟨hr9.1, by omega, by rw [p2]; exact hr9.2⟩)
  have HQ10 := hid (show 0 ≤ ck.ins ∧ ck.ins < 18446744073709551616 ∧ ck.ins < 256 ^ 2 from ⟨hr10.1, by omega, by rw [p2]; exact hr10.2⟩)
  have HQ11 := hid (show 0 ≤ ck.addr ∧ ck.addr < 18446744073709551616 ∧ ck.addr < 256 ^ 4 from ⟨hr11.1, by omega, by rw [p4]; exact hr11.2⟩)
  have HQ12 := hid (show 0 ≤ ck.other ∧ ck.other < 18446744073709551616 ∧ ck.other < 256 ^ 4 from ⟨hr12.1, by omega, by rw [p4]; exact hr12.2⟩)
  clear m1 m2 m3 m4 o1 o2 o3 o4 o5 o6 o7 o8 o9 o10 o11 p8 p4 p2 hpl hr0 hr1 hr2 hr3 hr4 hr5 hr6 hr7 hr8 hr9 hr10 hr11 hr12
  obtain ⟨R, hR⟩ : ∃ R, R = ck.cells := ⟨_, rfl⟩
  rw [← hR]
  have HR := hid hR; clear hR
  go_enter Tryd.func53, Tryd.ntmps53
  have hE : (w.alloc (.cells R 40)).heap[w.heap.size]? = some (.cells R 40 (0, 0)) := heap_alloc_new _ _
  have hB : Below w.heap.size w (w.alloc (.cells R 40)) := (Below.refl _ _).alloc (Nat.le_refl _) _
  have hS : (w.alloc (.cells R 40)).heap.size = w.heap.size + 1 := by simp
  have x0 : (w.alloc (.cells R 40)).cell? ⟨w.heap.size, 0, none⟩ = some (.int .i64 ck.made) := cellOf hE (by rw [HR.out]; rfl)
  have HE := hid hE; have HA := hid hB; have HS := hid hS
  clear hE hB hS
  go_wp2_with (go_at_call 55; refine hold ?_)
  refine hid ?_
  generalize w.alloc (.cells R 40) = w0 at *
  clear x0
  have G0 := hid (Below.refl w0.heap.size w0)
  have HO0 := hid (Own.nil w0 w0.heap.size 5 .u8)
  have hle0 : w0.heap.size ≤ w0.heap.size := Nat.le_refl _
  rw [u64_in ck.made ⟨HQ0.out.1, HQ0.out.2.1⟩]
  refine Calls.mono (rlay_calls w0.heap.size (.slice none 0 0) [] ck.made 8 HQ0.out.1 HQ0.out.2.1 (by omega) (by omega) HQ0.out.2.2 _ HO0.out G0.out.size (by simp [be_length])) ?_
  rintro e w1 ⟨b1, rfl, ho, hb⟩
  have HO1 := hid ho; have G1 := hid (G0.out.trans hb)
  clear ho hb HO0 G0
  have x1 : w1.cell? ⟨w.heap.size, 1, none⟩ = some (.int .i64 ck.life) := cellOf ((G1.out.block _ (lt_of_block HE.out)).trans HE.out) (by rw [HR.out]; rfl)
  go_wp2_with (go_at_call 55; refine hold ?_)
  refine hid ?_
  clear x1
  rw [u64_in ck.life ⟨HQ1.out.1, HQ1.out.2.1⟩]
  refine Calls.mono (rlay_calls w0.heap.size (b1) ([] ++ be ck.made 8) ck.life 4 HQ1.out.1 HQ1.out.2.1 (by omega) (by omega) HQ1.out.2.2 _ HO1.out G1.out.size (by simp [be_length])) ?_
  rintro e w2 ⟨b2, rfl, ho, hb⟩
  have HO2 := hid ho; have G2 := hid (G1.out.trans hb)
  clear ho hb HO1 G1
  have x2 : w2.cell? ⟨w.heap.size, 2, none⟩ = some (.int .u16 ck.port) := cellOf ((G2.out.block _ (lt_of_block HE.out)).trans HE.out) (by rw [HR.out]; rfl)
  go_wp2_with (go_at_call 55; refine hold ?_)
  refine hid ?_
  clear x2
  try rw [u64_in ck.port ⟨HQ2.out.1, HQ2.out.2.1⟩]
  refine Calls.mono (rlay_calls w0.heap.size (b2) (([] ++ be ck.made 8) ++ be ck.life 4) ck.port 2 HQ2.out.1 HQ2.out.2.1 (by omega) (by omega) HQ2.out.2.2 _ HO2.out G2.out.size (by simp [be_length])) ?_
  rintro e w3 ⟨b3, rfl, ho, hb⟩
  have HO3 := hid ho; have G3 := hid (G2.out.trans hb)
  clear ho hb HO2 G2
  have x3 : w3.cell? ⟨w.heap.size, 3, none⟩ = some (.int .u16 ck.pport) := cellOf ((G3.out.block _ (lt_of_block HE.out)).trans HE.out) (by rw [HR.out]; rfl)
  go_wp2_with (go_at_call 55; refine hold ?_)
  refine hid ?_
  clear x3
  try rw [u64_in ck.pport ⟨HQ3.out.1, HQ3.out.2.1⟩]
  refine Calls.mono (rlay_calls w0.heap.size (b3) ((([] ++ be ck.made 8) ++ be ck.life 4) ++ be ck.port 2) ck.pport 2 HQ3.out.1 HQ3.out.2.1 (by omega) (by omega) HQ3.out.2.2 _ HO3.out G3.out.size (by simp [be_length])) ?_
  rintro e w4 ⟨b4, rfl, ho, hb⟩
  have HO4 := hid ho; have G4 := hid (G3.out.trans hb)
  clear ho hb HO3 G3
  have x4 : w4.cell? ⟨w.heap.size, 4, none⟩ = some (.int .u32 ck.tag) := cellOf ((G4.out.block _ (lt_of_block HE.out)).trans HE.out) (by rw [HR.out]; rfl)
  go_wp2_with (go_at_call 55; refine hold ?_)
  refine hid ?_
  clear x4
  try rw [u64_in ck.tag ⟨HQ4.out.1, HQ4.out.2.1⟩]
  refine Calls.mono (rlay_calls w0.heap.size (b4) (((([] ++ be ck.made 8) ++ be ck.life 4) ++ be ck.port 2) ++ be ck.pport 2) ck.tag 4 HQ4.out.1 HQ4.out.2.1 (by omega) (by omega) HQ4.out.2.2 _ HO4.out G4.out.size (by simp [be_length])) ?_
  rintro e w5 ⟨b5, rfl, ho, hb⟩
  have HO5 := hid ho; have G5 := hid (G4.out.trans hb)
  clear ho hb HO4 G4
  have x5 : w5.cell? ⟨w.heap.size, 5, none⟩ = some (.int .u32 ck.ptag) := cellOf ((G5.out.block _ (lt_of_block HE.out)).trans HE.out) (by rw [HR.out]; rfl)
  go_wp2_with (go_at_call 55; refine hold ?_)
  refine hid ?_
  clear x5
  try rw [u64_in ck.ptag ⟨HQ5.out.1, HQ5.out.2.1⟩]
  refine Calls.mono (rlay_calls w0.heap.size (b5) ((((([] ++ be ck.made 8) ++ be ck.life 4) ++ be ck.port 2) ++ be ck.pport 2) ++ be ck.tag 4) ck.ptag 4 HQ5.out.1 HQ5.out.2.1 (by omega) (by omega) HQ5.out.2.2 _ HO5.out G5.out.size (by simp [be_length])) ?_
  rintro e w6 ⟨b6, rfl, ho, hb⟩
  have HO6 := hid ho; have G6 := hid (G5.out.trans hb)
  clear ho hb HO5 G5
  have x6 : w6.cell? ⟨w.heap.size, 6, none⟩ = some (.int .u32 ck.tsn) := cellOf ((G6.out.block _ (lt_of_block HE.out)).trans HE.out) (by rw [HR.out]; rfl)
  go_wp2_with (go_at_call 55; refine hold ?_)
  refine hid ?_
  clear x6
  try rw [u64_in ck.tsn ⟨HQ6.out.1, HQ6.out.2.1⟩]
  refine Calls.mono (rlay_calls w0.heap.size (b6) (((((([] ++ be ck.made 8) ++ be ck.life 4) ++ be ck.port 2) ++ be ck.pport 2) ++ be ck.tag 4) ++ be ck.ptag 4) ck.tsn 4 HQ6.out.1 HQ6.out.2.1 (by omega) (by omega) HQ6.out.2.2 _ HO6.out G6.out.size (by simp [be_length])) ?_
  rintro e w7 ⟨b7, rfl, ho, hb⟩
  have HO7 := hid ho; have G7 := hid (G6.out.trans hb)
  clear ho hb HO6 G6
  have x7 : w7.cell? ⟨w.heap.size, 7, none⟩ = some (.int .u32 ck.ptsn) := cellOf ((G7.out.block _ (lt_of_block HE.out)).trans HE.out) (by rw [HR.out]; rfl)
  go_wp2_with (go_at_call 55; refine hold ?_)
  refine hid ?_
  clear x7
  try rw [u64_in ck.ptsn ⟨HQ7.out.1, HQ7.out.2.1⟩]
  refine Calls.mono (rlay_calls w0.heap.size (b7) ((((((([] ++ be ck.made 8) ++ be ck.life 4) ++ be ck.port 2) ++ be ck.pport 2) ++ be ck.tag 4) ++ be ck.ptag 4) ++ be ck.tsn 4) ck.ptsn 4 HQ7.out.1 HQ7.out.2.1 (by omega) (by omega) HQ7.out.2.2 _ HO7.out G7.out.size (by simp [be_length])) ?_
  rintro e w8 ⟨b8, rfl, ho, hb⟩
  have HO8 := hid ho; have G8 := hid (G7.out.trans hb)
  clear ho hb HO7 G7
  have x8 : w8.cell? ⟨w.heap.size, 8, none⟩ = some (.int .u32 ck.room) := cellOf ((G8.out.block _ (lt_of_block HE.out)).trans HE.out) (by rw [HR.out]; rfl)
  go_wp2_with (go_at_call 55; refine hold ?_)
  refine hid ?_
  clear x8
  try rw [u64_in ck.room ⟨HQ8.out.1, HQ8.out.2.1⟩]
  refine Calls.mono (rlay_calls w0.heap.size (b8) (((((((([] ++ be ck.made 8) ++ be ck.life 4) ++ be ck.port 2) ++ be ck.pport 2) ++ be ck.tag 4) ++ be ck.ptag 4) ++ be ck.tsn 4) ++ be ck.ptsn 4) ck.room 4 HQ8.out.1 HQ8.out.2.1 (by omega) (by omega) HQ8.out.2.2 _ HO8.out G8.out.size (by simp [be_length])) ?_
  rintro e w9 ⟨b9, rfl, ho, hb⟩
  have HO9 := hid ho; have G9 := hid (G8.out.trans hb)
  clear ho hb HO8 G8
  have x9 : w9.cell? ⟨w.heap.size, 9, none⟩ = some (.int .u16 ck.outs) := cellOf ((G9.out.block _ (lt_of_block HE.out)).trans HE.out) (by rw [HR.out]; rfl)
  go_wp2_with (go_at_call 55; refine hold ?_)
  refine hid ?_
  clear x9
  try rw [u64_in ck.outs ⟨HQ9.out.1, HQ9.out.2.1⟩]
  refine Calls.mono (rlay_calls w0.heap.size (b9) ((((((((([] ++ be ck.made 8) ++ be ck.life 4) ++ be ck.port 2) ++ be ck.pport 2) ++ be ck.tag 4) ++ be ck.ptag 4) ++ be ck.tsn 4) ++ be ck.ptsn 4) ++ be ck.room 4) ck.outs 2 HQ9.out.1 HQ9.out.2.1 (by omega) (by omega) HQ9.out.2.2 _ HO9.out G9.out.size (by simp [be_length])) ?_
  rintro e w10 ⟨b10, rfl, ho, hb⟩
  have HO10 := hid ho; have G10 := hid (G9.out.trans hb)
  clear ho hb HO9 G9
  have x10 : w10.cell? ⟨w.heap.size, 10, none⟩ = some (.int .u16 ck.ins) := cellOf ((G10.out.block _ (lt_of_block HE.out)).trans HE.out) (by rw [HR.out]; rfl)
  go_wp2_with (go_at_call 55; refine hold ?_)
  refine hid ?_
  clear x10
  try rw [u64_in ck.ins ⟨HQ10.out.1, HQ10.out.2.1⟩]
  refine Calls.mono (rlay_calls w0.heap.size (b10) (((((((((([] ++ be ck.made 8) ++ be ck.life 4) ++ be ck.port 2) ++ be ck.pport 2) ++ be ck.tag 4) ++ be ck.ptag 4) ++ be ck.tsn 4) ++ be ck.ptsn 4) ++ be ck.room 4) ++ be ck.outs 2) ck.ins 2 HQ10.out.1 HQ10.out.2.1 (by omega) (by omega) HQ10.out.2.2 _ HO10.out G10.out.size (by simp [be_length])) ?_
  rintro e w11 ⟨b11, rfl, ho, hb⟩
  have HO11 := hid ho; have G11 := hid (G10.out.trans hb)
  clear ho hb HO10 G10
  have x11 : w11.cell? ⟨w.heap.size, 11, none⟩ = some (.int .u32 ck.addr) := cellOf ((G11.out.block _ (lt_of_block HE.out)).trans HE.out) (by rw [HR.out]; rfl)
  go_wp2_with (go_at_call 55; refine hold ?_)
  refine hid ?_
  clear x11
  try rw [u64_in ck.addr ⟨HQ11.out.1, HQ11.out.2.1⟩]
  refine Calls.mono (rlay_calls w0.heap.size (b11) ((((((((((([] ++ be ck.made 8) ++ be ck.life 4) ++ be ck.port 2) ++ be ck.pport 2) ++ be ck.tag 4) ++ be ck.ptag 4) ++ be ck.tsn 4) ++ be ck.ptsn 4) ++ be ck.room 4) ++ be ck.outs 2) ++ be ck.ins 2) ck.addr 4 HQ11.out.1 HQ11.out.2.1 (by omega) (by omega) HQ11.out.2.2 _ HO11.out G11.out.size (by simp [be_length])) ?_
  rintro e w12 ⟨b12, rfl, ho, hb⟩
  have HO12 := hid ho; have G12 := hid (G11.out.trans hb)
  clear ho hb HO11 G11
  have x12 : w12.cell? ⟨w.heap.size, 12, none⟩ = some (.int .u32 ck.other) := cellOf ((G12.out.block _ (lt_of_block HE.out)).trans HE.out) (by rw [HR.out]; rfl)
  go_wp2_with (go_at_call 55; refine hold ?_)
  refine hid ?_
  clear x12
  try rw [u64_in ck.other ⟨HQ12.out.1, HQ12.out.2.1⟩]
  refine Calls.mono (rlay_calls w0.heap.size (b12) (((((((((((([] ++ be ck.made 8) ++ be ck.life 4) ++ be ck.port 2) ++ be ck.pport 2) ++ be ck.tag 4) ++ be ck.ptag 4) ++ be ck.tsn 4) ++ be ck.ptsn 4) ++ be ck.room 4) ++ be ck.outs 2) ++ be ck.ins 2) ++ be ck.addr 4) ck.other 4 HQ12.out.1 HQ12.out.2.1 (by omega) (by omega) HQ12.out.2.2 _ HO12.out G12.out.size (by simp [be_length])) ?_
  rintro e w13 ⟨b13, rfl, ho, hb⟩
  have HO13 := hid ho; have G13 := hid (G12.out.trans hb)
  clear ho hb HO12 G12
  go_wp2_with (go_at_call 55; refine hold ?_)
  refine hid ?_
  refine Calls.mono (rlay_calls w0.heap.size (b13) ((((((((((((([] ++ be ck.made 8) ++ be ck.life 4) ++ be ck.port 2) ++ be ck.pport 2) ++ be ck.tag 4) ++ be ck.ptag 4) ++ be ck.tsn 4) ++ be ck.ptsn 4) ++ be ck.room 4) ++ be ck.outs 2) ++ be ck.ins 2) ++ be ck.addr 4) ++ be ck.other 4) 0 4 (by omega) (by omega) (by omega) (by omega) (by decide) _ HO13.out G13.out.size (by simp [be_length])) ?_
  rintro e w14 ⟨b14, rfl, ho, hb⟩
  have HO14 := hid ho; have G14 := hid (G13.out.trans hb)
  clear ho hb HO13 G13
  go_wp2
  go_ret
  refine ⟨_, rfl, ?_, HA.out.trans (G14.out.mono (by have := HS.out; omega))⟩
  rw [HPL.out]
  exact own_low HO14.out (by have := HS.out; omega)
end Go.Proofs.YtaieajfgcnaedaaDoor
