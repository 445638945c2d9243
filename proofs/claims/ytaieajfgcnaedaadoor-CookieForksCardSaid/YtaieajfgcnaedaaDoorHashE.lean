/-
  LAYER 5, WALKS: (*hash.Hash).Sum, hash.Sum.
-/
import Derived.Test.YtaieajfgcnaedaaDoorHashD
set_option linter.unusedVariables false
set_option linter.unusedSimpArgs false
namespace Go.Proofs.YtaieajfgcnaedaaDoor
open Go.RowKit

theorem elemW : Elem Tryd.prog 67 38 .u32 4 := Elem.mk' Tryd.underlying67 (by kernel_rfl)
theorem be_word (x : W32) : be (uw x) 4 = wordBytes x := by
  unfold be wordBytes uw
  have h := x.isLt
  simp only [List.range_succ, List.range_zero, List.map_append, List.map_cons, List.map_nil, List.nil_append, List.cons_append, BitVec.toNat_ushiftRight, Nat.shiftRight_eq_div_pow]
  simp
theorem be_len (n : Nat) : be (n : Int) 8 = be8 n := by
  unfold be be8
  apply List.map_congr_left
  intro i hi
  simp
theorem be_bytes (v : Int) (n : Nat) : Bytes (be v n) := by
  intro x hx
  obtain ⟨i, _, rfl⟩ := List.mem_map.1 hx
  omega
theorem uw_lt (x : W32) : 0 ≤ uw x ∧ uw x < 4294967296 := by
  have := x.isLt
  unfold uw; omega
theorem Own.rd' {w : World} {base : Nat} {e : TypeId} {k : IntKind} {A : Option Addr} {n c : Nat} {xs : List Int} (h : Own w base e k (.slice A n c) xs) (hl : xs.length ≤ 140737488355328) : Rd w k A xs := by
  obtain ⟨A', c', he, _, hR, _⟩ := h.rd hl
  injection he with e1 e2 e3
  subst e1; exact hR
theorem padLen_lt (n : Nat) : padLen n < 64 := Nat.mod_lt _ (by decide)
theorem be_length (v : Int) (n : Nat) : (be v n).length = n := by simp [be]
theorem bytes_step (V : V8) (k : Nat) (h : k < 8) : splice ((V.bytes.take (4 * k) ++ List.replicate (32 - 4 * k) 0).map (Value.int .u8)) (4 * k) ((wordBytes (V.list.getD k 0)).map (Value.int .u8)) = (V.bytes.take (4 * (k + 1)) ++ List.replicate (32 - 4 * (k + 1)) 0).map (Value.int .u8) := by
  rcases (show k = 0 ∨ k = 1 ∨ k = 2 ∨ k = 3 ∨ k = 4 ∨ k = 5 ∨ k = 6 ∨ k = 7 by omega) with rfl | rfl | rfl | rfl | rfl | rfl | rfl | rfl <;> rfl
theorem V8.bytes_bytes (V : V8) : Bytes V.bytes := by
  have : ∀ x, Bytes (wordBytes x) := fun x y hy => by
    obtain ⟨n, hn, rfl⟩ := List.mem_map.1 hy
    simp at hn
    omega
  exact ((((((((this _).append (this _)).append (this _)).append (this _)).append (this _)).append (this _)).append (this _)).append (this _))
/-- An element of an array by value. -/
theorem run_ix {P : Program} {t e : TypeId} {n : Nat} {i : TypeInfo} {k : IntKind} (h : P.underlying t = some (.array n e)) (hi : P.info? e = some i) (hs : i.size = 1) (hk : P.underlying e = some (.int k)) (cs : Array Value) (j : Nat) (hj : j < n) (v : Value) (hv : cs[j]? = some v) (w : World) :
    (Instr.index t (.agg cs) (.int .i64 (j : Int))).run P w = .ok v w := by
  have h1 : ¬ n ≤ j := by omega
  simp [Instr.index, asIntOf, run_underlying h, h1, hj, part, isAgg, run_underlying hk, sizeOf, typeInfo, hi, hs, hv]
theorem sha_len (m : List Int) : (sha m).length = 32 := rfl
theorem sha_bytes (m : List Int) : Bytes (sha m) := V8.bytes_bytes _
set_option maxHeartbeats 6400000 in
set_option maxRecDepth 100000 in
theorem hsum_calls (g : Nat) (m : List Int) (w : World) (hT : Tab w) (hS : St w g m) (hm : m.length ≤ 140737488354000) :
    Calls Tryd.prog 21 #[.pointer (some ⟨g, 0, none⟩)] w fun e w' => e = .returned (.agg ((sha m).map (Value.int .u8)).toArray) ∧ Below w.heap.size w w' := by
  have HT := hid hT; have HS := hid hS; clear hT hS
  have hgl := HS.out.lt
  have hg0 := HT.out.1
  go_enter Tryd.func21, Tryd.ntmps21
  go_wp2_with (go_at_call 22; refine hold ?_)
  have hO0 : (w.alloc (.cells #[Value.int IntKind.u8 0, Value.int IntKind.u8 0, Value.int IntKind.u8 0, Value.int IntKind.u8 0, Value.int IntKind.u8 0, Value.int IntKind.u8 0, Value.int IntKind.u8 0, Value.int IntKind.u8 0, Value.int IntKind.u8 0, Value.int IntKind.u8 0, Value.int IntKind.u8 0, Value.int IntKind.u8 0, Value.int IntKind.u8 0, Value.int IntKind.u8 0, Value.int IntKind.u8 0, Value.int IntKind.u8 0, Value.int IntKind.u8 0, Value.int IntKind.u8 0, Value.int IntKind.u8 0, Value.int IntKind.u8 0, Value.int IntKind.u8 0, Value.int IntKind.u8 0, Value.int IntKind.u8 0, Value.int IntKind.u8 0, Value.int IntKind.u8 0, Value.int IntKind.u8 0, Value.int IntKind.u8 0, Value.int IntKind.u8 0, Value.int IntKind.u8 0, Value.int IntKind.u8 0, Value.int IntKind.u8 0, Value.int IntKind.u8 0] 24)).heap[w.heap.size]? = some (.cells (((hInit.bytes.take (4 * 0) ++ List.replicate (32 - 4 * 0) 0).map (Value.int .u8)).toArray) 24 (0, 0)) := heap_alloc_new _ _
  have hB0 : Below w.heap.size w (w.alloc (.cells #[Value.int IntKind.u8 0, Value.int IntKind.u8 0, Value.int IntKind.u8 0, Value.int IntKind.u8 0, Value.int IntKind.u8 0, Value.int IntKind.u8 0, Value.int IntKind.u8 0, Value.int IntKind.u8 0, Value.int IntKind.u8 0, Value.int IntKind.u8 0, Value.int IntKind.u8 0, Value.int IntKind.u8 0, Value.int IntKind.u8 0, Value.int IntKind.u8 0, Value.int IntKind.u8 0, Value.int IntKind.u8 0, Value.int IntKind.u8 0, Value.int IntKind.u8 0, Value.int IntKind.u8 0, Value.int IntKind.u8 0, Value.int IntKind.u8 0, Value.int IntKind.u8 0, Value.int IntKind.u8 0, Value.int IntKind.u8 0, Value.int IntKind.u8 0, Value.int IntKind.u8 0, Value.int IntKind.u8 0, Value.int IntKind.u8 0, Value.int IntKind.u8 0, Value.int IntKind.u8 0, Value.int IntKind.u8 0, Value.int IntKind.u8 0] 24)) := (Below.refl _ _).alloc (Nat.le_refl _) _
  have HO0 := hid hO0; have HB0 := hid hB0
  clear hO0 hB0
  generalize w.alloc (.cells #[Value.int IntKind.u8 0, Value.int IntKind.u8 0, Value.int IntKind.u8 0, Value.int IntKind.u8 0, Value.int IntKind.u8 0, Value.int IntKind.u8 0, Value.int IntKind.u8 0, Value.int IntKind.u8 0, Value.int IntKind.u8 0, Value.int IntKind.u8 0, Value.int IntKind.u8 0, Value.int IntKind.u8 0, Value.int IntKind.u8 0, Value.int IntKind.u8 0, Value.int IntKind.u8 0, Value.int IntKind.u8 0, Value.int IntKind.u8 0, Value.int IntKind.u8 0, Value.int IntKind.u8 0, Value.int IntKind.u8 0, Value.int IntKind.u8 0, Value.int IntKind.u8 0, Value.int IntKind.u8 0, Value.int IntKind.u8 0, Value.int IntKind.u8 0, Value.int IntKind.u8 0, Value.int IntKind.u8 0, Value.int IntKind.u8 0, Value.int IntKind.u8 0, Value.int IntKind.u8 0, Value.int IntKind.u8 0, Value.int IntKind.u8 0] 24) = w1 at *
  have hl0 := lt_of_block HO0.out
  have HS1 := hid (HS.out.below HB0.out)
  have HT1 := hid (HT.out.below HB0.out)
  refine hid ?_
  refine Calls.mono (fork_calls g m w1 HS1.out) ?_
  rintro e w2 ⟨f, rfl, hf, hSf, hB2⟩
  have HS2 := hid (HS1.out.below hB2)
  have HT2 := hid (HT1.out.below hB2)
  have HSf := hid hSf; have HB2 := hid hB2
  clear hSf hB2
  obtain ⟨A, c, h1, h2, h3, h4⟩ := HS2.out.ex
  have hlen := (absorb_rest m.length hInit m (Nat.le_refl _))
  have hl64 := hlen.1
  have hmod := hlen.2.1
  clear hlen
  have HI2 := hid h1
  clear h1 h2 h3 h4
  generalize (absorb hInit m).2.length = rl at *
  generalize (absorb hInit m).1 = v at *
  have y9 : w2.cell? ⟨g, 9, none⟩ = some (.int .u64 m.length) := cellOf HI2.out rfl
  have e8 : IntKind.u64.wrap (8 * (m.length : Int)) = 8 * (m.length : Int) := by rw [IntKind.wrap_u64]; omega
  go_wp2_with (go_at_call 40; refine hold ?_)
  refine hid ?_
  refine Calls.mono (bytes_calls (8 * (m.length : Int)) 8 (by omega) (by omega) (by omega) (by omega) (by omega) w2) ?_
  rintro e w3 ⟨ge, ce, rfl, ho3, hB3⟩
  have HO3 := hid ho3; have HB3 := hid hB3
  have HI3 := hid (HI2.out.below hB3)
  have y8 : w3.cell? ⟨g, 8, none⟩ = some (.slice A rl c) := cellOf HI3.out rfl
  clear ho3 hB3 y9 e8
  have hp : ((119 - (rl : Int)).tmod 64) = (padLen m.length : Int) := by rw [Int.tmod_eq_emod_of_nonneg (by omega)]; unfold padLen; rw [← hmod]; omega
  have hp2 : IntKind.i64.wrap (119 - (rl : Int)) = 119 - (rl : Int) := IntWalk.i64_in _ (by omega)
  go_wp2_with (at_builtin; refine hold ?_)
  refine hid ?_
  clear hp hp2 y8 HI3 HI2 hmod hl64
  have hpl := padLen_lt m.length
  have HP : Box (padding m.length = [128] ++ List.replicate (padLen m.length) 0 ++ be (8 * (m.length : Int)) 8) := ⟨by
    have := be_len (8 * m.length)
    rw [Int.natCast_mul] at this
    unfold padding
    rw [← this]; rfl⟩
  obtain ⟨pl, hpe⟩ : ∃ pl, pl = padLen m.length := ⟨_, rfl⟩
  rw [← hpe] at hpl ⊢ HP
  clear hpe
  refine wpList_app0 rfl (.tmp 33) (.tmp 34) 22 3 5 .u8 .i64 .i64 1 rfl elemB (by kernel_rfl) w3.heap.size (.slice (some ⟨w3.heap.size, 0, none⟩) 1 1) [128] rfl (Own.lit w3 5 .u8 w3.heap.size (Nat.le_refl _) [128] #[.int .u8 128] 1 rfl rfl (by simp [maxLen])) pl rfl (by simp; omega) (by simp [maxLen]; omega) (by simp) ?_
  intro v4 w4 ho4 hg4 hat4
  have hB4 : Below w3.heap.size w3 w4 := below_own ((Below.refl _ _).alloc (Nat.le_refl _) _) hg4 (fun q hq => Nat.le_of_eq (Option.some.inj hq))
  have HO4 := hid ho4; have HB4 := hid hB4
  clear ho4 hg4 hat4 hB4
  go_wp2_with (at_builtin; refine hold ?_)
  refine hid ?_
  have hRe : Rd w4 .u8 (some ⟨ge, 0, none⟩) (be (8 * (m.length : Int)) 8) := (HO3.out.rd' (by rw [be_length]; omega)).below HB4.out
  refine wpList_app2 rfl _ _ 22 5 .u8 1 rfl elemB w3.heap.size v4 ([128] ++ List.replicate pl 0) rfl HO4.out (some ⟨ge, 0, none⟩) ce 8 (be (8 * (m.length : Int)) 8) rfl (be_length _ _) (fun h => by simp at h) hRe (by simp; omega) (by simp [maxLen]; omega) HB4.out.size ?_
  intro v5 w5 ho5 hg5 hat5
  have hB5 : Below w3.heap.size w3 w5 := below_own HB4.out hg5 (fun q hq => (HO4.out.lt q hq).1)
  rw [← HP.out] at ho5
  have hPL : (padding m.length).length = pl + 9 := by rw [HP.out]; simp [be_length]
  obtain ⟨A5, c5, rfl, hA5, hR5, hb5⟩ := ho5.rd (by omega)
  rw [hPL]
  have hPB : Bytes (padding m.length) := by
    rw [HP.out]
    refine Bytes.append (Bytes.append (Bytes.cons (by omega) (by omega) Bytes.nil) (fun x hx => ?_)) (be_bytes _ _)
    rw [List.eq_of_mem_replicate hx]; omega
  have HA5 := hid hA5; have HR5 := hid hR5; have HB5 := hid hb5; have HPB := hid hPB; have HPL := hid hPL; have HBB := hid (hB5 : Below w3.heap.size w3 w5)
  have HSf5 := hid ((HSf.out.below HB3.out).below hB5)
  have HT5 := hid ((HT2.out.below HB3.out).below hB5)
  clear hA5 hR5 hb5 hPB hPL ho5 hg5 hat5 hRe hB5 HO4 HB4 HO3
  go_wp2_with (go_at_call 20; refine hold ?_)
  refine hid ?_
  have hs1 := HB0.out.size
  have hs2 := HB2.out.size
  have hs3 := HB3.out.size
  have hfl := HSf.out.lt
  refine Calls.mono (write_calls f c5 (pl + 9) A5 m (padding m.length) HPL.out w5 HT5.out HSf5.out (by omega) HR5.out HA5.out (fun _ b o e => by have := (HB5.out b o e).1; omega) HPB.out (by omega)) ?_
  rintro e w6 ⟨rfl, hSf6, hG6⟩
  have HSf6 := hid hSf6; have HG6 := hid hG6
  clear hSf6 hG6
  have hB6 : Below w1.heap.size w1 w6 := ((HB2.out.trans (HB3.out.mono hs2)).trans (HBB.out.mono (by omega))).grown HG6.out (by have := HBB.out.size; omega) (fun k hk => by injection hk with hk; omega)
  have HO6 := hid ((hB6.block _ hl0).trans HO0.out)
  have HB6 := hid hB6
  clear hB6
  obtain ⟨Ax, cx, hx1, hx2, hx3, hx4⟩ := HSf6.out.ex
  have HV : Box (sha m = (absorb hInit (m ++ padding m.length)).1.bytes) := ⟨rfl⟩
  generalize (absorb hInit (m ++ padding m.length)).1 = V at *
  have HI6 := hid hx1
  clear hx1 hx2 hx3 hx4
  have x0 : w6.cell? ⟨f, 0, none⟩ = some (.int .u32 (uw V.a)) := cellOf HI6.out rfl
  have x1 : w6.cell? ⟨f, 1, none⟩ = some (.int .u32 (uw V.b)) := cellOf HI6.out rfl
  have x2 : w6.cell? ⟨f, 2, none⟩ = some (.int .u32 (uw V.c)) := cellOf HI6.out rfl
  have x3 : w6.cell? ⟨f, 3, none⟩ = some (.int .u32 (uw V.d)) := cellOf HI6.out rfl
  have x4 : w6.cell? ⟨f, 4, none⟩ = some (.int .u32 (uw V.e)) := cellOf HI6.out rfl
  have x5 : w6.cell? ⟨f, 5, none⟩ = some (.int .u32 (uw V.f)) := cellOf HI6.out rfl
  have x6 : w6.cell? ⟨f, 6, none⟩ = some (.int .u32 (uw V.g)) := cellOf HI6.out rfl
  have x7 : w6.cell? ⟨f, 7, none⟩ = some (.int .u32 (uw V.h)) := cellOf HI6.out rfl
  go_wp2_with fail
  clear x0 x1 x2 x3 x4 x5 x6 x7
  go_loopw [43] (fun i w' => ∃ k : Nat, k ≤ 8 ∧ i = .int .i64 k ∧ w'.heap[w.heap.size]? = some (.cells (((V.bytes.take (4 * k) ++ List.replicate (32 - 4 * k) 0).map (Value.int .u8)).toArray) 24 (0, 0)) ∧ Below w.heap.size w w') (fun i _ => 8 - (intOf i).toNat)
  case atStart => exact ⟨0, by omega, rfl, HO6.out, below_then HB0.out HB6.out⟩
  case round =>
    obtain ⟨k, hk, rfl, hO, hB⟩ := hrel
    have HO := hid hO; have HB := hid hB
    clear hO hB HO6 HB6 HI6 HSf6 HG6 HSf5 HT5 HBB HB5 HA5 HR5 HPB HPL HP HSf HB2 HB3 HS2 HT2 HT1 HS1 HO0 HB0
    by_cases hlt : k < 8
    · have hk0 : (0 : Int) ≤ (k : Int) := by omega
      have hk8 : (k : Int) < 8 := by omega
      obtain ⟨X, hX⟩ : ∃ X, X = V.list.getD k 0 := ⟨_, rfl⟩
      have hix : ∀ w' : World, (Instr.index 72 (.agg #[.int .u32 (uw V.a), .int .u32 (uw V.b), .int .u32 (uw V.c), .int .u32 (uw V.d), .int .u32 (uw V.e), .int .u32 (uw V.f), .int .u32 (uw V.g), .int .u32 (uw V.h)]) (.int .i64 (k : Int))).run Tryd.prog w' = .ok (.int .u32 (uw X)) w' := fun w' => by
        obtain ⟨i, hi, _, hs, _⟩ := elemW.2
        exact run_ix Tryd.underlying72 hi hs (k := .u32) (by kernel_rfl) _ k hlt _ (by rw [hX]; exact V8.cells_get V k hlt) w'
      have HX : Box (X = V.list.getD k 0) := ⟨hX⟩
      clear hX
      have hX0 := (uw_lt X).1
      have hX1 := (uw_lt X).2
      have hX2 : IntKind.u64.wrap (uw X) = uw X := by rw [IntKind.wrap_u64]; omega
      clear hX0 hX1
      go_wp2_with (go_at_call 40; refine hold ?_)
      refine hid ?_
      refine Calls.mono (bytes_calls (uw X) 4 (uw_lt X).1 (by have := (uw_lt X).2; omega) (by omega) (by omega) (fun _ => by have := (uw_lt X).2; rw [show (256 : Int) ^ 4 = 4294967296 from rfl]; exact this) wr) ?_
      rintro e w2 ⟨gb, cb, rfl, ho, hb⟩
      rw [be_word] at ho
      have HRb := hid (ho.rd' (by show 4 ≤ _; omega))
      have HO2 := hid ((hb.block _ (lt_of_block HO.out)).trans HO.out)
      have HB2 := hid (HB.out.trans (hb.mono HB.out.size))
      clear ho hb hix hX2
      have e4 : IntKind.i64.wrap (4 * (k : Int)) = 4 * (k : Int) := IntWalk.i64_in _ (by omega)
      have e5 : (4 * (k : Int)).toNat = 4 * k := by omega
      have q0 : (0 : Int) ≤ 4 * (k : Int) := by omega
      have q1 : 4 * (k : Int) ≤ 32 := by omega
      have q2 : ¬ 32 = 4 * k := by omega
      go_wp2_with (with_reducible refine hold_op (o := ⟨some 57, _, _, _, _, _⟩) ?_)
      refine hid ?_
      refine wpList_copy_splice rfl (.tmp 55) (.tmp 56) 22 22 rfl 5 elemB.1 (by kernel_rfl) (some ⟨w.heap.size, 4 * k, none⟩) (some ⟨gb, 0, none⟩) (32 - 4 * k) (32 - 4 * k) 4 cb ?_ rfl w.heap.size (4 * k) ((V.bytes.take (4 * k) ++ List.replicate (32 - 4 * k) 0).map (Value.int .u8)) 24 HO2.out ((wordBytes X).map (Value.int .u8)) ?_ (fun _ => ⟨rfl, _, rfl, ?_⟩) ?_ ?_ w.heap.size w HB2.out (Nat.le_refl _) ?_
      · rfl
      · show 4 = Nat.min 4 (32 - 4 * k)
        exact (Nat.min_eq_left (show 4 ≤ 32 - 4 * k by omega)).symm
      · intro j u hj
        have hwl : (wordBytes X).length = 4 := rfl
        rw [WideShapes.add_plain]
        rcases Nat.lt_or_ge j 4 with hl | hl
        · rw [HRb.out.cell j (by rw [hwl]; exact hl)]
          simp [List.getElem?_map, List.getElem?_eq_getElem (show j < (wordBytes X).length by rw [hwl]; exact hl)] at hj
          rw [← hj]; simp [List.getD_eq_getElem?_getD, hwl, hl]
        · rw [List.getElem?_eq_none (by rw [List.length_map, hwl]; exact hl)] at hj
          cases hj
      · rw [List.length_map, List.length_map, List.length_append, List.length_replicate, List.length_take]
        show 4 * k + 4 ≤ min (4 * k) 32 + (32 - 4 * k)
        omega
      · intro u hu
        obtain ⟨y, _, rfl⟩ := List.mem_map.1 hu
        rfl
      intro w7 HG7 hB7
      have HB7 := hid hB7
      clear hB7
      go_wp2
      go_roundw
      case rel =>
        refine ⟨k + 1, by omega, by go_num, ?_, HB7.out⟩
        rw [HG7.out, HX.out, bytes_step V k hlt]
      case measure => simp [intOf]; omega
    · obtain rfl : k = 8 := by omega
      clear hlt hk
      have HO8 : Hid (wr.heap[w.heap.size]? = some (.cells (((sha m).map (Value.int .u8)).toArray) 24 (0, 0))) := hid (by rw [HV.out]; exact HO.out)
      have hsz : (((sha m).map (Value.int .u8)).toArray).size = 32 := by simp [sha_len]
      have hone : (((sha m).map (Value.int .u8)).toArray).all (·.oneCell') = true := by simp [Value.oneCell', List.all_map]
      have HHS := hid hsz; have HHO := hid hone
      clear hsz hone HO
      obtain ⟨R, hR⟩ : ∃ R, R = ((sha m).map (Value.int .u8)).toArray := ⟨_, rfl⟩
      rw [← hR] at HO8 HHS HHO
      have HRR : Box (R = ((sha m).map (Value.int .u8)).toArray) := ⟨hR⟩
      clear hR
      go_wp2_with (with_reducible refine hold_op (o := ⟨some 59, _, _, _, _, _⟩) ?_)
      refine hid ?_
      refine wpList_load_row rfl 24 (.tmp 2) rfl w.heap.size rfl 24 R (0, 0) _ HO8.out Tryd.underlying24 rfl (by rw [HHS.out]; kernel_rfl) ?_
      refine wpList_store_row rfl 24 (.tmp 2) (.tmp 59) rfl w.heap.size R rfl rfl 24 R HO8.out (by rw [HHS.out]; kernel_rfl) rfl HHO.out ?_
      rw [setRow_self wr w.heap.size R 24 (0, 0) HO8.out]
      go_wp2
      refine bodyPost_ret (v := .agg R) ?_ rfl ⟨by rw [HRR.out], HB.out⟩
      exact results_cell_row (p := 2) rfl _ wr w.heap.size 24 R (0, 0) _ rfl HO8.out Tryd.underlying24 rfl (by rw [HHS.out]; kernel_rfl)
end Go.Proofs.YtaieajfgcnaedaaDoor
