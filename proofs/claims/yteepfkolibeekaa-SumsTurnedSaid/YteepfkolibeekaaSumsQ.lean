/-
  WALKS of layer 2: the reference's Stamp; Stamped; the law SumsStamps.
-/
import Derived.Test.YteepfkolibeekaaSumsS
import Derived.Test.YteepfkolibeekaaSumsC
import Derived.Test.YteepfkolibeekaaStr
set_option linter.unusedVariables false
set_option linter.unusedSimpArgs false
namespace Go.Proofs.Yteepfkolibeekaa
open Go.RowKit

theorem splice_set {xs ys : List Int} {off : Nat} (u : Int) (h : off + ys.length < xs.length) : (splice xs off ys).set (off + ys.length) u = splice xs off (ys ++ [u]) := by
  unfold splice
  have h1 : (xs.take off).length = off := by simp; omega
  rw [List.set_append_right _ _ (by rw [h1]; omega), h1, show off + ys.length - off = ys.length from by omega, List.set_append_right _ _ (Nat.le_refl _), Nat.sub_self]
  have h2 : xs.drop (off + ys.length) = xs[off + ys.length]'h :: xs.drop (off + ys.length + 1) := List.drop_eq_getElem_cons h
  rw [h2, List.set_cons_zero, List.length_append, List.append_assoc]
  rfl
theorem splice_nil (xs : List Int) (off : Nat) : splice xs off [] = xs := by simp [splice]
theorem le4_at (v : Int) (t : Nat) (h : t < 4) (h0 : 0 ≤ v) : (le4 v).take (t + 1) = (le4 v).take t ++ [v / 256 ^ t % 256] := by
  have e2 : v / 256 ^ 2 = v / 65536 := by rfl
  have e3 : v / 256 ^ 3 = v / 16777216 := by rfl
  rcases (show t = 0 ∨ t = 1 ∨ t = 2 ∨ t = 3 from by omega) with rfl | rfl | rfl | rfl <;> simp [le4]
theorem le4_len (v : Int) (t : Nat) (h : t ≤ 4) : ((le4 v).take t).length = t := by simp [le4]; omega
theorem div_pow (v : Int) (t : Nat) : v / 256 ^ t / 256 = v / 256 ^ (t + 1) := by
  rw [Int.pow_succ, Int.ediv_ediv_of_nonneg (by exact Int.pow_nonneg (by decide))]

theorem refcrc_calls' (c n : Nat) (A : Option Addr) (xs : List Int) (hn : xs.length = n) (w : World) (hR : Rd w .u8 A xs) (hx : Bytes xs) :
    Calls Try.prog 14 #[.slice A n c] w fun e w' => e = .returned (.int .u32 (crc xs)) ∧ Below w.heap.size w w' := by subst hn; exact refcrc_calls c A xs w hR hx

set_option maxHeartbeats 1600000 in
theorem refstamp_short (c n : Nat) (A : Option Addr) (h : n < 12) (w : World) :
    Calls Try.prog 20 #[.slice A n c] w fun e w' => e = .returned (.tuple #[.slice none 0 0, .int .i64 3]) ∧ w = w' := by
  go_enter Try.func20, Try.ntmps20
  go_wp2
  go_ret2
  exact ⟨rfl, rfl⟩

set_option maxHeartbeats 6400000 in
theorem refstamp_calls (c n : Nat) (A : Option Addr) (xs : List Int) (hn : xs.length = n) (h12 : 12 ≤ n) (w : World) (hR : Rd w .u8 A xs) (hx : Bytes xs) (hA : A = none → c = 0) (hl : n ≤ 140737488351232) :
    Calls Try.prog 20 #[.slice A n c] w fun e w' => ∃ g c2, e = .returned (.tuple #[.slice (some ⟨g, 0, none⟩) n c2, .int .i64 0]) ∧ Own w' w.heap.size 5 .u8 (.slice (some ⟨g, 0, none⟩) n c2) (stamp xs) ∧ Below w.heap.size w w' := by
  have HR := hid hR; clear hR
  have HX := hid hx; clear hx
  have HN := hid hn; clear hn
  have HA := hid hA; clear hA
  have hn12 : ¬ ((n : Int) < 12) := by omega
  go_enter Try.func20, Try.ntmps20
  go_wp2_with (at_builtin; refine hold ?_)
  refine hid ?_
  refine wpList_app rfl _ _ 22 5 .u8 1 rfl elemB w.heap.size _ [] rfl (Own.lit w 5 .u8 w.heap.size (Nat.le_refl _) [] #[] 0 rfl rfl (by decide)) A c n xs rfl HN.out HA.out (HR.out.below ((Below.refl _ _).alloc (Nat.le_refl _) _)) (by simp; omega) (by simp [maxLen]; omega) (by simp) ?_
  intro v1 w1 ho1 hg1
  have hb1 : Below w.heap.size w w1 := below_own ((Below.refl _ _).alloc (Nat.le_refl _) _) hg1 (fun g hg => Nat.le_of_eq (Option.some.inj hg))
  rw [List.nil_append] at ho1
  obtain ⟨A1, c1, rfl, _, hR1, hB1⟩ := ho1.rd (by rw [HN.out]; omega)
  obtain ⟨g1, o1, rfl, _⟩ := hR1.form 0 (by rw [HN.out]; omega)
  obtain ⟨hbg, rfl⟩ := hB1 g1 o1 rfl
  have HN2 := HN.out
  rw [HN2] at ho1 ⊢
  have HS0 : Hid (splice xs 8 [] = xs) := splice_nil xs 8
  have HO1 := hid ho1
  have HB1 := hid hb1
  clear hR1 hB1 ho1 hb1 HN2 hg1
  go_wp2_with fail
  go_loopw [5] (fun i wr => ∃ t : Nat, t ≤ 4 ∧ i = .int .i64 (8 + t : Nat) ∧ Own wr w.heap.size 5 .u8 (.slice (some ⟨g1, 0, none⟩) n c1) (splice xs 8 (List.replicate t 0)) ∧ Below w.heap.size w wr) (fun i _ => 12 - (intOf i).toNat)
  case atStart => exact ⟨0, by omega, rfl, by rw [show List.replicate 0 (0 : Int) = [] from rfl, HS0.out]; exact HO1.out, HB1.out⟩
  case round =>
    obtain ⟨t, ht, rfl, ho, hb⟩ := hrel
    by_cases hlt : t < 4
    · have hln : (splice xs 8 (List.replicate t (0 : Int))).length = n := by rw [splice_len (by rw [HN.out]; simp; omega), HN.out]
      have hcl := ho.cell (8 + t) (by omega)
      have hfr := ho.free (8 + t)
      have hst := ho.set (8 + t) (by omega) 0
      have hss := splice_set (xs := xs) (ys := List.replicate t 0) (off := 8) 0 (by rw [HN.out]; simp; omega)
      rw [List.length_replicate] at hss
      rw [hss, ← List.replicate_succ'] at hst
      have HST := hid hst
      have HB := hid (below_set hb g1 (8 + t) (.int .u8 0) hbg)
      generalize (splice xs 8 (List.replicate t (0 : Int))).getD (8 + t) 0 = y at *
      clear ho hb hst hss hln
      have ht0 : (0 : Int) ≤ 8 + (t : Int) := by omega
      have ht1 : 8 + (t : Int) < (n : Int) := by omega
      have ht2 : (8 + (t : Int)).toNat = 8 + t := by omega
      go_wp2
      go_roundw
      case rel => exact ⟨t + 1, by omega, by go_num, HST.out, HB.out⟩
      case measure => simp [intOf]; omega
    · have : t = 4 := by omega
      subst this
      have hzl : (zeroed xs).length = n := by unfold zeroed; rw [splice_len (by rw [HN.out]; simp; omega), HN.out]
      have hzb : Bytes (zeroed xs) := bytes_splice HX.out (by unfold Bytes; decide) 8
      have hst : stamp xs = splice (zeroed xs) 8 (le4 (crc (zeroed xs))) := by
        unfold stamp
        conv => rhs; unfold zeroed
        exact (splice_twice (by rw [HN.out]; simp; omega) (by simp [le4])).symm
      have HST := hid hst; clear hst
      change Own wr w.heap.size 5 .u8 (.slice (some ⟨g1, 0, none⟩) n c1) (zeroed xs) at ho
      generalize zeroed xs = zs at *
      obtain ⟨A2, c2, e2, _, hR2, _⟩ := ho.rd (by omega)
      injection e2 with e2 e2n e3
      clear e2n
      subst e2 e3
      have HO2 := hid ho; clear ho
      have HZL := hid hzl; clear hzl
      have HZB := hid hzb; clear hzb
      have HR2 := hid hR2; clear hR2
      have HB3 := hid hb; clear hb
      go_wp2_with fail
      refine (refcrc_calls' c1 n (some ⟨g1, 0, none⟩) zs HZL.out _ HR2.out HZB.out).mono ?_
      rintro e w3 ⟨rfl, hb4⟩
      have hcr := crc_range zs
      generalize crc zs = cv at *
      obtain ⟨hc0, hc1⟩ := hcr
      have HO3 := hid (HO2.out.below hb4)
      have HB4 := hid (below_then HB3.out hb4)
      have HS1 : Hid (splice zs 8 ((le4 cv).take 0) = zs) := splice_nil zs 8
      have HS4 : Hid ((le4 cv).take 4 = le4 cv) := rfl
      clear hb4
      go_wp2_with fail
      go_loopw [6, 7] (fun s i wr => ∃ t : Nat, t ≤ 4 ∧ i = .int .i64 (8 + t : Nat) ∧ s = .int .u32 (cv / 256 ^ t) ∧ Own wr w.heap.size 5 .u8 (.slice (some ⟨g1, 0, none⟩) n c1) (splice zs 8 ((le4 cv).take t)) ∧ Below w.heap.size w wr) (fun _ i _ => 12 - (intOf i).toNat)
      case atStart => exact ⟨0, by omega, rfl, by simp, by rw [HS1.out]; exact HO3.out, HB4.out⟩
      case round =>
        obtain ⟨t, ht, rfl, rfl, ho, hb⟩ := hrel
        by_cases hlt : t < 4
        · have hl4 := le4_len cv t ht
          have hln : (splice zs 8 ((le4 cv).take t)).length = n := by rw [splice_len (by rw [HZL.out, hl4]; omega), HZL.out]
          have hcl := ho.cell (8 + t) (by omega)
          have hfr := ho.free (8 + t)
          have hst := ho.set (8 + t) (by omega) (cv / 256 ^ t % 256)
          have hss := splice_set (xs := zs) (ys := (le4 cv).take t) (off := 8) (cv / 256 ^ t % 256) (by rw [HZL.out, hl4]; omega)
          rw [hl4] at hss
          rw [hss, ← le4_at cv t hlt hc0] at hst
          have HST2 := hid hst
          have HB := hid (below_set hb g1 (8 + t) (.int .u8 (cv / 256 ^ t % 256)) hbg)
          have HDP := hid (div_pow cv t)
          have hd0 : 0 ≤ cv / 256 ^ t := Int.ediv_nonneg hc0 (Int.pow_nonneg (by decide))
          have hd1 : cv / 256 ^ t < 4294967296 := Int.lt_of_le_of_lt (Int.ediv_le_self _ hc0) hc1
          generalize (splice zs 8 ((le4 cv).take t)).getD (8 + t) 0 = y at *
          generalize cv / 256 ^ t = dv at *
          clear ho hb hst hss hln hl4
          have ht0 : (0 : Int) ≤ 8 + (t : Int) := by omega
          have ht1 : 8 + (t : Int) < (n : Int) := by omega
          have ht2 : (8 + (t : Int)).toNat = 8 + t := by omega
          go_wp2
          go_roundw
          case rel => exact ⟨t + 1, by omega, by go_num, by rw [HDP.out], HST2.out, HB.out⟩
          case measure => simp [intOf]; omega
        · have : t = 4 := by omega
          subst this
          rw [HS4.out, ← HST.out] at ho
          go_wp2
          go_ret2
          exact ⟨g1, c1, rfl, ho, hb⟩
end Go.Proofs.Yteepfkolibeekaa
