/-
  WALKS of layer 2: Stamp, Stamped.
-/
import Derived.Test.YteepfkolibeekaaSumsE
import Derived.Test.YteepfkolibeekaaOctB
import Derived.Test.YteepfkolibeekaaCopy
set_option linter.unusedVariables false
set_option linter.unusedSimpArgs false
namespace Go.Proofs.Yteepfkolibeekaa
open Go.RowKit

/-- A number's four bytes, the lowest first. -/
def le4 (v : Int) : List Int := [v % 256, v / 256 % 256, v / 65536 % 256, v / 16777216 % 256]
/-- The packet with its sum. -/
def zeroed (xs : List Int) : List Int := splice xs 8 [0, 0, 0, 0]
def stamp (xs : List Int) : List Int := splice xs 8 (le4 (crc (zeroed xs)))
theorem be4 (v : Int) (h0 : 0 ≤ v) : be v 4 = [v / 16777216 % 256, v / 65536 % 256, v / 256 % 256, v % 256] := by
  show [v / 256 ^ 3 % 256, v / 256 ^ 2 % 256, v / 256 ^ 1 % 256, v / 256 ^ 0 % 256] = _
  simp
theorem crc_range (xs : List Int) : 0 ≤ crc xs ∧ crc xs < 4294967296 := by
  unfold crc
  have := (crcV xs).isLt
  omega
theorem splice_len {xs ys : List Int} {off : Nat} (h : off + ys.length ≤ xs.length) : (splice xs off ys).length = xs.length := by simp [splice]; omega
theorem splice_twice {xs ys zs : List Int} {off : Nat} (h : off + ys.length ≤ xs.length) (he : zs.length = ys.length) : splice (splice xs off ys) off zs = splice xs off zs := by
  unfold splice
  have h1 : (xs.take off).length = off := by simp; omega
  rw [List.take_left' h1, List.drop_append, h1]
  have : (xs.take off).drop (off + zs.length) = [] := List.drop_eq_nil_of_le (by rw [h1]; omega)
  rw [this, List.nil_append, show off + zs.length - off = ys.length from by omega, List.drop_left, he]
theorem bytes_splice {xs ys : List Int} (h : Bytes xs) (k : Bytes ys) (off : Nat) : Bytes (splice xs off ys) := by
  unfold splice
  exact (h.sub fun y hy => List.mem_of_mem_take hy).append (k.append (h.sub fun y hy => List.mem_of_mem_drop hy))
theorem Own.cap {w : World} {base : Nat} {e : TypeId} {k : IntKind} {A : Option Addr} {n c : Nat} {xs : List Int} (h : Own w base e k (.slice A n c) xs) : n ≤ c := by
  rcases h.2 with ⟨h', h0⟩ | ⟨g', cap', cur, h', _, _, hc, _⟩
  · simp only [Value.slice.injEq] at h'
    omega
  · simp only [Value.slice.injEq] at h'
    omega

theorem crc_calls' (c n : Nat) (A : Option Addr) (xs : List Int) (hn : xs.length = n) (w : World) (hR : Rd w .u8 A xs) (hx : Bytes xs) :
    Calls Try.prog 13 #[.slice A n c] w fun e w' => e = .returned (.int .u32 (crc xs)) ∧ Below w.heap.size w w' := by subst hn; exact crc_calls c A xs w hR hx

set_option maxHeartbeats 1600000 in
theorem stamp_short (c n : Nat) (A : Option Addr) (h : n < 12) (w : World) :
    Calls Try.prog 19 #[.slice A n c] w fun e w' => e = .returned (.tuple #[.slice none 0 0, .int .i64 3]) ∧ w = w' := by
  go_enter Try.func19, Try.ntmps19
  go_wp2
  go_ret2
  exact ⟨rfl, rfl⟩

set_option maxHeartbeats 3200000 in
theorem stamp_calls (c n : Nat) (A : Option Addr) (xs : List Int) (hn : xs.length = n) (h12 : 12 ≤ n) (w : World) (hR : Rd w .u8 A xs) (hx : Bytes xs) (hA : A = none → c = 0) (hl : n ≤ 140737488351232) :
    Calls Try.prog 19 #[.slice A n c] w fun e w' => ∃ g c2, e = .returned (.tuple #[.slice (some ⟨g, 0, none⟩) n c2, .int .i64 0]) ∧ Own w' w.heap.size 5 .u8 (.slice (some ⟨g, 0, none⟩) n c2) (stamp xs) ∧ Below w.heap.size w w' := by
  have HR := hid hR; clear hR
  have HX := hid hx; clear hx
  have HN := hid hn; clear hn
  have HA := hid hA; clear hA
  have hn12 : ¬ ((n : Int) < 12) := by omega
  go_enter Try.func19, Try.ntmps19
  go_wp2_with fail
  refine (clone_calls c n A xs HN.out _ HR.out HA.out hl).mono ?_
  rintro e w1 ⟨v1, rfl, ho1, hb1⟩
  obtain ⟨A1, c1, rfl, _, hR1, hB1⟩ := ho1.rd (by rw [HN.out]; omega)
  obtain ⟨g1, o1, rfl, hg1⟩ := hR1.form 0 (by rw [HN.out]; omega)
  obtain ⟨hbg, rfl⟩ := hB1 g1 o1 rfl
  have hcap := ho1.cap
  rw [HN.out] at hcap
  have HN2 := HN.out
  rw [HN2] at ho1 ⊢
  have HO1 := hid ho1
  have HB1 := hid hb1
  clear hR1 hB1 ho1 hb1 HN2
  have hc8 : (8 : Int) ≤ (c1 : Int) := by omega
  have hc12 : (12 : Int) ≤ (c1 : Int) := by omega
  go_wp2_with (with_reducible refine hold_op (o := ⟨some 15, _, _, _, _, _⟩) ?_)
  refine hid ?_
  have hb2 : Below w1.heap.size w1 (w1.alloc (.cells #[.int .u8 0, .int .u8 0, .int .u8 0, .int .u8 0] 5)) := (Below.refl _ _).alloc (Nat.le_refl _) _
  refine wpList_cp rfl _ _ 22 5 .u8 1 elemB rfl w.heap.size g1 n c1 8 4 _ xs rfl (HO1.out.below hb2) (some ⟨w1.heap.size, 0, none⟩) 4 4 [0, 0, 0, 0] rfl rfl (Rd_new w1 .u8 5 (0, 0) _ _ rfl (by simp) _ _ (heap_alloc_new w1 _)) rfl (by omega) (by omega) ?_
  intro w2 ho2 hg2
  have hb3 := (below_then HB1.out hb2).grown hg2 (by have := HB1.out.size; simp; omega) (fun k hk => by have := Option.some.inj hk; omega)
  have hzl : (zeroed xs).length = n := by unfold zeroed; rw [splice_len (by rw [HN.out]; simp; omega), HN.out]
  have hzb : Bytes (zeroed xs) := bytes_splice HX.out (by unfold Bytes; decide) 8
  have hst : stamp xs = splice (zeroed xs) 8 (le4 (crc (zeroed xs))) := by
    unfold stamp
    conv => rhs; unfold zeroed
    exact (splice_twice (by rw [HN.out]; simp; omega) (by simp [le4])).symm
  have HST := hid hst; clear hst
  change Own w2 w.heap.size 5 .u8 (.slice (some ⟨g1, 0, none⟩) n c1) (zeroed xs) at ho2
  generalize zeroed xs = zs at *
  obtain ⟨A2, c2, e2, _, hR2, _⟩ := ho2.rd (by omega)
  injection e2 with e2 e2n e3
  clear e2n
  subst e2 e3
  clear hb2 hg2
  have HO2 := hid ho2; clear ho2
  have HZL := hid hzl; clear hzl
  have HZB := hid hzb; clear hzb
  have HR2 := hid hR2; clear hR2
  have HB3 := hid hb3; clear hb3
  go_wp2_with fail
  have hzl := HZL.out
  have hzb := HZB.out
  have hR2 := HR2.out
  have hb3 := HB3.out
  refine (crc_calls' c1 n (some ⟨g1, 0, none⟩) zs hzl _ hR2 hzb).mono ?_
  rintro e w3 ⟨rfl, hb4⟩
  have hcr := crc_range zs
  have HLE : Hid (be (crc zs) 4 = [crc zs / 16777216 % 256, crc zs / 65536 % 256, crc zs / 256 % 256, crc zs % 256]) := be4 _ hcr.1
  have HLE4 : Hid (le4 (crc zs) = [crc zs % 256, crc zs / 256 % 256, crc zs / 65536 % 256, crc zs / 16777216 % 256]) := rfl
  generalize crc zs = cv at *
  go_wp2_with fail
  refine (bytes_calls cv 4 hcr.1 (by omega) (by omega) (by omega) (fun _ => by omega) _).mono ?_
  rintro e w4 ⟨g4, c4, rfl, ho4, hb5⟩
  rw [HLE.out] at ho4
  have hle4 := (ho4.lt g4 rfl).1
  go_wp2_with fail
  refine (reverse4_calls g4 c4 _ _ _ _ _ _ ho4).mono ?_
  rintro e w5 ⟨rfl, ho5, hg5⟩
  rw [← HLE4.out] at ho5
  have hlt1 : g1 < w3.heap.size := by have := hb4.size; have := (HO2.out.lt g1 rfl).2; omega
  have HO5 := ((HO2.out.below hb4).below hb5).kept hg5 (.inr (by intro h; have h9 : g1 = g4 := Option.some.inj h; omega))
  have hb6 := (below_then (below_then hb3 hb4) hb5).grown hg5 (by have := hb3.size; have := hb4.size; have := hb5.size; omega) (fun k hk => by have := Option.some.inj hk; have := hb3.size; have := hb4.size; omega)
  obtain ⟨A5, c5, e5, _, hR5, _⟩ := ho5.rd (by simp [le4])
  injection e5 with e5 e5n e6
  clear e5n
  subst e5 e6
  have HO6 := hid HO5
  have HR5 := hid hR5
  have HB6 := hid hb6
  clear ho5 hg5 ho4 hb5 hb4 hb3 HO5 hR5 hb6 hR2
  go_wp2_with (with_reducible refine hold_op (o := ⟨some 28, _, _, _, _, _⟩) ?_)
  refine hid ?_
  refine wpList_cp rfl _ _ 22 5 .u8 1 elemB rfl w.heap.size g1 n c1 8 4 _ zs rfl HO6.out (some ⟨g4, 0, none⟩) 4 c4 (le4 cv) rfl rfl HR5.out rfl (by omega) (by omega) ?_
  intro w7 ho7 hg7
  rw [← HST.out] at ho7
  have hb7 := HB6.out.grown hg7 HB6.out.size (fun k hk => by have := Option.some.inj hk; omega)
  clear hg7
  go_wp2
  go_ret2
  exact ⟨g1, c1, rfl, ho7, hb7⟩
end Go.Proofs.Yteepfkolibeekaa
