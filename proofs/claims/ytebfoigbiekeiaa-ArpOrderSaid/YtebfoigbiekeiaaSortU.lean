/-
  slices.Sort of at most twelve words of 32 bits.
-/
import Derived.Test.YtebfoigbiekeiaaKeysV
import Derived.Test.YtebfoigbiekeiaaApp2
import Derived.BigRegion
import Derived.BigQuiet
import Derived.Deep.RegionHeld3
import Derived.IntWalk
set_option linter.unusedVariables false
set_option linter.unusedSimpArgs false
namespace Go.Proofs.Ytebfoigbiekeiaa
open Go.RowKit

theorem isNaN_calls (x : Int) (w : World) : Calls Try.prog 90 #[.int .u32 x] w fun e w' => e = .returned (.bool false) ∧ w = w' := by
  go_enter Try.func90, Try.ntmps90
  have h : (x == x) = true := beq_self_eq_true _
  go_wp2
  go_ret
  exact ⟨rfl, rfl⟩
theorem less_calls (x y : Int) (w : World) : Calls Try.prog 79 #[.int .u32 x, .int .u32 y] w fun e w' => e = .returned (.bool (decide (x < y))) ∧ w = w' := by
  go_enter Try.func79, Try.ntmps79
  go_wp2_with (go_at_call 90; refine Calls.mono (isNaN_calls x _) ?_; rintro e w1 ⟨rfl, rfl⟩)
  go_ret
  exact ⟨rfl, rfl⟩
theorem nil_or_last {α : Type} (l : List α) : l = [] ∨ ∃ L b, l = L ++ [b] := by
  rcases List.eq_nil_or_concat l with h | ⟨L, b, h⟩
  · exact .inl h
  · exact .inr ⟨L, b, by rw [h, List.concat_eq_append]⟩
/-- It rises, equals allowed. -/
def Rise (xs : List Int) : Prop := xs.Pairwise (· ≤ ·)
theorem getD_mid (P Q : List Int) (x : Int) : (P ++ x :: Q).getD P.length 0 = x := by simp [List.getD_eq_getElem?_getD]
theorem set_mid (P Q : List Int) (x u : Int) : (P ++ x :: Q).set P.length u = P ++ u :: Q := by simp
theorem swap_mid (P Q : List Int) (y x : Int) : ((P ++ y :: x :: Q).set (P.length + 1) y).set P.length x = P ++ x :: y :: Q := by
  have h : (P ++ y :: x :: Q) = (P ++ [y]) ++ x :: Q := by simp
  have hl : P.length + 1 = (P ++ [y]).length := by simp
  rw [h, hl, set_mid]
  rw [show (P ++ [y]) ++ y :: Q = P ++ y :: y :: Q by simp, set_mid]
theorem rise_mid {P Q : List Int} {x : Int} (h : Rise (P ++ Q)) (hl : ∀ y ∈ P, y ≤ x) (hr : ∀ y ∈ Q, x ≤ y) : Rise (P ++ x :: Q) := by
  unfold Rise at *
  rw [List.pairwise_append] at h ⊢
  refine ⟨h.1, List.pairwise_cons.2 ⟨hr, h.2.1⟩, fun a ha b hb => ?_⟩
  rcases List.mem_cons.1 hb with rfl | hb
  · exact hl a ha
  · exact h.2.2 a ha b hb
theorem rise_last {P : List Int} {y x : Int} (h : Rise (P ++ [y])) (hy : y ≤ x) : ∀ z ∈ P ++ [y], z ≤ x := by
  unfold Rise at h
  rw [List.pairwise_append] at h
  intro z hz
  rcases List.mem_append.1 hz with hz | hz
  · exact Int.le_trans (h.2.2 z hz y (by simp)) hy
  · rw [List.mem_singleton.1 hz]; exact hy
set_option maxHeartbeats 12800000 in
set_option maxRecDepth 100000 in
theorem insertion_calls (B g n c : Nat) (ys : List Int) (hn : ys.length = n) (hn1 : n ≤ 12) (w : World) (hO : Own w B 28 .u32 (.slice (some ⟨g, 0, none⟩) n c) ys) :
    Calls Try.prog 73 #[.slice (some ⟨g, 0, none⟩) n c, .int .i64 0, .int .i64 n] w fun e w' => (∃ v, e = .returned v) ∧ ∃ zs, zs.length = n ∧ zs.Perm ys ∧ Rise zs ∧ Own w' B 28 .u32 (.slice (some ⟨g, 0, none⟩) n c) zs ∧ w.grownBy w' (some g) := by
  have HO := hid hO; have HN := hid hn
  clear hO hn
  go_enter Try.func73, Try.ntmps73
  go_wp2_with fail
  go_loopw [6] (fun i w' => ∃ (k : Nat) (zs : List Int), 1 ≤ k ∧ (k ≤ n ∨ k = 1) ∧ i = .int .i64 k ∧ zs.length = n ∧ zs.Perm ys ∧ Rise (zs.take k) ∧ Own w' B 28 .u32 (.slice (some ⟨g, 0, none⟩) n c) zs ∧ w.grownBy w' (some g)) (fun i _ => 12 - (intOf i).toNat)
  case atStart =>
    refine ⟨1, ys, by omega, .inr rfl, rfl, HN.out, List.Perm.refl _, ?_, HO.out, World.grownBy.refl _ _⟩
    match ys with
    | [] => exact List.Pairwise.nil
    | y :: r => simp [Rise]
  case round =>
    obtain ⟨k, zs, hk1, hkn, rfl, hzl, hzp, hzr, hzo, hzg⟩ := hrel
    have HZL := hid hzl; have HZP := hid hzp; have HZR := hid hzr; have HZO := hid hzo; have HZG := hid hzg
    clear hzl hzp hzr hzo hzg HO
    by_cases hlt : k < n
    · have hk3 : (k : Int) < (n : Int) := by omega
      obtain ⟨wo, rfl⟩ : ∃ wo : World, wo = wr := ⟨_, rfl⟩
      obtain ⟨P0, x, Q0, hsplit, hP0⟩ : ∃ P x Q, zs = P ++ x :: Q ∧ P.length = k := ⟨zs.take k, zs[k]'(by rw [HZL.out]; exact hlt), zs.drop (k + 1), by rw [← List.drop_eq_getElem_cons, List.take_append_drop], by rw [List.length_take, HZL.out]; omega⟩
      have HR0 : Hid (Rise P0) := hid (by have := HZR.out; rw [hsplit, List.take_left' hP0] at this; exact this)
      have HSP := hid hsplit; have HP0 := hid hP0
      clear hsplit hP0
      go_wp2_with fail
      go_loopw [7] (fun jv w' => ∃ (P1 P2 : List Int), P1 ++ P2 = P0 ∧ jv = .int .i64 P1.length ∧ (∀ y ∈ P2, x < y) ∧ Own w' B 28 .u32 (.slice (some ⟨g, 0, none⟩) n c) (P1 ++ x :: (P2 ++ Q0)) ∧ w.grownBy w' (some g)) (fun jv _ => (intOf jv).toNat)
      case atStart => exact ⟨P0, [], by simp, by rw [HP0.out], fun y hy => by simp at hy, by rw [List.nil_append, ← HSP.out]; exact HZO.out, HZG.out⟩
      case round =>
        obtain ⟨P1, P2, hp12, rfl, hgt, hjo, hjg⟩ := hrel
        have HP12 := hid hp12; have HGT := hid hgt; have HJO := hid hjo; have HJG := hid hjg
        clear hp12 hgt hjo hjg
        have hpl : P1.length + P2.length = k := by rw [← HP0.out, ← HP12.out, List.length_append]
        have hn12 : n ≤ 12 := hn1
        rcases nil_or_last P1 with rfl | ⟨P3, y, rfl⟩
        · -- at the front
          have hdone : Hid (Rise (x :: P2)) := hid (by
            have h1 := HR0.out
            rw [← HP12.out] at h1
            exact rise_mid (P := []) h1 (fun y hy => by simp at hy) (fun y hy => Int.le_of_lt (HGT.out y hy)))
          have hj0 : ((([] : List Int).length : Nat) : Int) = 0 := rfl
          rw [hj0]
          go_wp2_with fail
          refine wp_region_held_drew (S := fun W => W = wr.drew) (by kernel_rfl) rfl (fun hHeld => ?_)
          refine wpAnyH_take (i := 0) (oi := { dst := some 16, op := Op.move (Operand.tmp 7), type := 3, pos := "zsortordered.go:14", after := #[], guard := none }) (v := ?_) rfl (by kernel_rfl) (by kernel_rfl) (by kernel_rfl) (fun _ _ _ h => h) (Or.inl ⟨by rfl, ?_⟩) hHeld ?_
          rotate_left
          · (intro w hSw; subst hSw; go_simp; try with_reducible rfl)
          try simp only [Act.put, List.setIfInBounds_toArray, List.set_cons_succ, List.set_cons_zero]
          refine wpAnyH_take (i := 1) (oi := { dst := some 17, op := Op.move (Operand.tmp 1), type := 3, pos := "zsortordered.go:14", after := #[], guard := none }) (v := ?_) rfl (by kernel_rfl) (by kernel_rfl) (by kernel_rfl) (fun _ _ _ h => h) (Or.inl ⟨by rfl, ?_⟩) hHeld ?_
          rotate_left
          · (intro w hSw; subst hSw; go_simp; try with_reducible rfl)
          try simp only [Act.put, List.setIfInBounds_toArray, List.set_cons_succ, List.set_cons_zero]
          refine wpAnyH_take (i := 2) (oi := { dst := some 18, op := Op.binOp BinOp.gtr 3 (Operand.tmp 16) (Operand.tmp 17) 3, type := 4, pos := "zsortordered.go:14", after := #[{ on := 0, ground := Ground.data }, { on := 1, ground := Ground.data }], guard := none }) (v := ?_) rfl (by kernel_rfl) (by kernel_rfl) (by kernel_rfl) (fun _ _ _ h => h) (Or.inl ⟨by rfl, ?_⟩) hHeld ?_
          rotate_left
          · (intro w hSw; subst hSw; go_simp; try with_reducible rfl)
          try simp only [Act.put, List.setIfInBounds_toArray, List.set_cons_succ, List.set_cons_zero]
          refine wpAnyH_take (i := 3) (oi := { dst := some 19, op := Op.move (Operand.tmp 18), type := 4, pos := "zsortordered.go:14", after := #[{ on := 2, ground := Ground.data }], guard := none }) (v := ?_) rfl (by kernel_rfl) (by kernel_rfl) (by kernel_rfl) (fun _ _ _ h => h) (Or.inl ⟨by rfl, ?_⟩) hHeld ?_
          rotate_left
          · (intro w hSw; subst hSw; go_simp; try with_reducible rfl)
          try simp only [Act.put, List.setIfInBounds_toArray, List.set_cons_succ, List.set_cons_zero]
          refine wpAnyH_take (i := 4) (oi := { dst := some 20, op := Op.move (Operand.tmp 0), type := 84, pos := "zsortordered.go:14", after := #[{ on := 3, ground := Ground.guard }], guard := some (3, true) }) (v := undef) rfl (by kernel_rfl) (by kernel_rfl) (by kernel_rfl) (fun _ _ _ h => h) (Or.inr ⟨by rfl, rfl⟩) hHeld ?_
          try simp only [Act.put, List.setIfInBounds_toArray, List.set_cons_succ, List.set_cons_zero]
          refine wpAnyH_take (i := 5) (oi := { dst := some 21, op := Op.move (Operand.tmp 7), type := 3, pos := "zsortordered.go:14", after := #[{ on := 3, ground := Ground.guard }], guard := some (3, true) }) (v := undef) rfl (by kernel_rfl) (by kernel_rfl) (by kernel_rfl) (fun _ _ _ h => h) (Or.inr ⟨by rfl, rfl⟩) hHeld ?_
          try simp only [Act.put, List.setIfInBounds_toArray, List.set_cons_succ, List.set_cons_zero]
          refine wpAnyH_take (i := 6) (oi := { dst := some 22, op := Op.indexAddr 84 (Operand.tmp 20) (Operand.tmp 21), type := 0, pos := "zsortordered.go:14", after := #[{ on := 4, ground := Ground.data }, { on := 5, ground := Ground.data }, { on := 3, ground := Ground.guard }], guard := some (3, true) }) (v := undef) rfl (by kernel_rfl) (by kernel_rfl) (by kernel_rfl) (fun _ _ _ h => h) (Or.inr ⟨by rfl, rfl⟩) hHeld ?_
          try simp only [Act.put, List.setIfInBounds_toArray, List.set_cons_succ, List.set_cons_zero]
          refine wpAnyH_take (i := 7) (oi := { dst := some 23, op := Op.load 28 (Operand.tmp 22), type := 28, pos := "zsortordered.go:14", after := #[{ on := 6, ground := Ground.data }, { on := 3, ground := Ground.guard }], guard := some (3, true) }) (v := undef) rfl (by kernel_rfl) (by kernel_rfl) (by kernel_rfl) (fun _ _ _ h => h) (Or.inr ⟨by rfl, rfl⟩) hHeld ?_
          try simp only [Act.put, List.setIfInBounds_toArray, List.set_cons_succ, List.set_cons_zero]
          refine wpAnyH_take (i := 8) (oi := { dst := some 24, op := Op.move (Operand.tmp 0), type := 84, pos := "zsortordered.go:14", after := #[{ on := 3, ground := Ground.guard }], guard := some (3, true) }) (v := undef) rfl (by kernel_rfl) (by kernel_rfl) (by kernel_rfl) (fun _ _ _ h => h) (Or.inr ⟨by rfl, rfl⟩) hHeld ?_
          try simp only [Act.put, List.setIfInBounds_toArray, List.set_cons_succ, List.set_cons_zero]
          refine wpAnyH_take (i := 9) (oi := { dst := some 25, op := Op.move (Operand.tmp 7), type := 3, pos := "zsortordered.go:14", after := #[{ on := 3, ground := Ground.guard }], guard := some (3, true) }) (v := undef) rfl (by kernel_rfl) (by kernel_rfl) (by kernel_rfl) (fun _ _ _ h => h) (Or.inr ⟨by rfl, rfl⟩) hHeld ?_
          try simp only [Act.put, List.setIfInBounds_toArray, List.set_cons_succ, List.set_cons_zero]
          refine wpAnyH_take (i := 10) (oi := { dst := some 26, op := Op.binOp BinOp.sub 3 (Operand.tmp 25) (Operand.const (Value.int IntKind.i64 1)) 3, type := 3, pos := "zsortordered.go:14", after := #[{ on := 9, ground := Ground.data }, { on := 3, ground := Ground.guard }], guard := some (3, true) }) (v := undef) rfl (by kernel_rfl) (by kernel_rfl) (by kernel_rfl) (fun _ _ _ h => h) (Or.inr ⟨by rfl, rfl⟩) hHeld ?_
          try simp only [Act.put, List.setIfInBounds_toArray, List.set_cons_succ, List.set_cons_zero]
          refine wpAnyH_take (i := 11) (oi := { dst := some 27, op := Op.indexAddr 84 (Operand.tmp 24) (Operand.tmp 26), type := 0, pos := "zsortordered.go:14", after := #[{ on := 8, ground := Ground.data }, { on := 10, ground := Ground.data }, { on := 3, ground := Ground.guard }], guard := some (3, true) }) (v := undef) rfl (by kernel_rfl) (by kernel_rfl) (by kernel_rfl) (fun _ _ _ h => h) (Or.inr ⟨by rfl, rfl⟩) hHeld ?_
          try simp only [Act.put, List.setIfInBounds_toArray, List.set_cons_succ, List.set_cons_zero]
          refine wpAnyH_take (i := 12) (oi := { dst := some 28, op := Op.load 28 (Operand.tmp 27), type := 28, pos := "zsortordered.go:14", after := #[{ on := 11, ground := Ground.data }, { on := 3, ground := Ground.guard }], guard := some (3, true) }) (v := undef) rfl (by kernel_rfl) (by kernel_rfl) (by kernel_rfl) (fun _ _ _ h => h) (Or.inr ⟨by rfl, rfl⟩) hHeld ?_
          try simp only [Act.put, List.setIfInBounds_toArray, List.set_cons_succ, List.set_cons_zero]
          refine wpAnyH_take (i := 13) (oi := { dst := some 29, op := Op.call { callee := Callee.value (Operand.func 79), args := #[Operand.tmp 23, Operand.tmp 28], argTypes := #[28, 28] }, type := 4, pos := "zsortordered.go:14", after := #[{ on := 7, ground := Ground.data }, { on := 12, ground := Ground.data }, { on := 3, ground := Ground.chain }, { on := 3, ground := Ground.guard }], guard := some (3, true) }) (v := undef) rfl (by kernel_rfl) (by kernel_rfl) (by kernel_rfl) (fun _ _ _ h => h) (Or.inr ⟨by rfl, rfl⟩) hHeld ?_
          try simp only [Act.put, List.setIfInBounds_toArray, List.set_cons_succ, List.set_cons_zero]
          refine wpAnyH_take (i := 14) (oi := { dst := some 30, op := Op.pick (Operand.tmp 19) (Operand.tmp 29) (Operand.const (Value.bool false)), type := 4, pos := "zsortordered.go:14", after := #[{ on := 3, ground := Ground.data }, { on := 13, ground := Ground.data }], guard := none }) (v := ?_) rfl (by kernel_rfl) (by kernel_rfl) (by kernel_rfl) (fun _ _ _ h => h) (Or.inl ⟨by rfl, ?_⟩) hHeld ?_
          rotate_left
          · (intro w hSw; subst hSw; go_simp; try with_reducible rfl)
          try simp only [Act.put, List.setIfInBounds_toArray, List.set_cons_succ, List.set_cons_zero]
          refine wpAnyH_done (by kernel_rfl) ?_ _
          go_wp2
          go_roundw
          case rel =>
            refine ⟨k + 1, x :: (P2 ++ Q0), by omega, by omega, by go_num, ?_, ?_, ?_, HJO.out, grown_drew HJG.out⟩
            · have h1 := HZL.out; have h2 := HP12.out; rw [HSP.out, ← h2] at h1; simp at h1 ⊢; omega
            · refine List.Perm.trans ?_ HZP.out
              rw [HSP.out, ← HP12.out]
              have := (List.perm_middle (a := x) (l₁ := P2) (l₂ := Q0)).symm
              simpa using this
            · have hl2 : (x :: P2).length = k + 1 := by rw [List.length_cons]; simp at hpl; omega
              rw [show x :: (P2 ++ Q0) = (x :: P2) ++ Q0 by simp, List.take_left' hl2]
              exact hdone.out
          case measure => simp [intOf]; omega
        · obtain ⟨jn, hjn⟩ : ∃ jn, jn = P3.length + 1 := ⟨_, rfl⟩
          obtain ⟨m, hm⟩ : ∃ m, m = P3.length := ⟨_, rfl⟩
          have hlen : (P3 ++ [y]).length = jn := by simp [hjn]
          have hz1 : (P3 ++ [y]) ++ x :: (P2 ++ Q0) = P3 ++ y :: (x :: (P2 ++ Q0)) := by simp
          have hzl1 : ((P3 ++ [y]) ++ x :: (P2 ++ Q0)).length = n := by
            have h1 := HZL.out; have h2 := HP12.out; rw [HSP.out, ← h2] at h1; simp at h1 ⊢; omega
          have hjlt : jn < n := by rw [← hzl1, ← hlen]; simp
          have cj := HJO.out.cell jn (by rw [hzl1]; exact hjlt)
          have cm := HJO.out.cell m (by rw [hzl1]; omega)
          rw [show ((P3 ++ [y]) ++ x :: (P2 ++ Q0)).getD jn 0 = x by rw [← hlen]; exact getD_mid _ _ _] at cj
          rw [show ((P3 ++ [y]) ++ x :: (P2 ++ Q0)).getD m 0 = y by rw [hz1, hm]; exact getD_mid _ _ _] at cm
          have fj := HJO.out.free jn
          have fm := HJO.out.free m
          have hj0 : (0 : Int) < (jn : Int) := by omega
          have hj0' : 0 < jn := by omega
          have hj1 : (0 : Int) ≤ (jn : Int) := by omega
          have hj2 : (jn : Int) < (n : Int) := by omega
          have hm0 : (0 : Int) ≤ (m : Int) := by omega
          have hm1 : (m : Int) < (n : Int) := by omega
          have hw1 : IntKind.i64.wrap ((jn : Int) - 1) = (m : Int) := by rw [show (jn : Int) - 1 = (m : Int) by omega]; exact IntWalk.i64_in _ (by omega)
          have HST := hid (show Own ((wr.setCell ⟨g, jn, none⟩ (.int .u32 y)).setCell ⟨g, m, none⟩ (.int .u32 x)) B 28 .u32 (.slice (some ⟨g, 0, none⟩) n c) (P3 ++ x :: ((y :: P2) ++ Q0)) by
            have h1 := (HJO.out.set jn (by rw [hzl1]; exact hjlt) y).set m (by rw [List.length_set, hzl1]; omega) x
            rw [hz1, hjn, hm, swap_mid] at h1
            rw [hjn, hm]
            exact h1)
          have own1 := HJO.out.set jn (by rw [hzl1]; exact hjlt) y
          have cm1 : (wr.setCell ⟨g, jn, none⟩ (.int .u32 y)).cell? ⟨g, m, none⟩ = some (.int .u32 y) := by
            have h1 := own1.cell m (by rw [List.length_set, hzl1]; omega)
            rw [h1, hz1, hjn, hm, show (P3 ++ y :: x :: (P2 ++ Q0)).set (P3.length + 1) y = P3 ++ y :: y :: (P2 ++ Q0) by
              rw [show P3 ++ y :: x :: (P2 ++ Q0) = (P3 ++ [y]) ++ x :: (P2 ++ Q0) by simp, show P3.length + 1 = (P3 ++ [y]).length by simp, set_mid]
              simp, getD_mid]
          have fm1 : (wr.setCell ⟨g, jn, none⟩ (.int .u32 y)).frozen? ⟨g, m, none⟩ = false := own1.free m
          have HGS := hid (show w.grownBy ((wr.setCell ⟨g, jn, none⟩ (.int .u32 y)).setCell ⟨g, m, none⟩ (.int .u32 x)) (some g) from grown_trans (grown_trans HJG.out (grown_set _ _ _ _)) (grown_set _ _ _ _))
          have HHM := hid hm; have HHJ := hid hjn
          rw [hlen]
          clear hz1 hlen hjn hm own1
          have hS : ∀ W : World, W = wr.drew → W.cell? ⟨g, jn, none⟩ = some (.int .u32 x) ∧ W.cell? ⟨g, m, none⟩ = some (.int .u32 y) := fun W h => by subst h; exact ⟨cj, cm⟩
          go_wp2_with fail
          refine wp_region_held_drew (S := fun W => W = wr.drew) (by kernel_rfl) rfl (fun hHeld => ?_)
          refine wpAnyH_take (i := 0) (oi := { dst := some 16, op := Op.move (Operand.tmp 7), type := 3, pos := "zsortordered.go:14", after := #[], guard := none }) (v := ?_) rfl (by kernel_rfl) (by kernel_rfl) (by kernel_rfl) (fun _ _ _ h => h) (Or.inl ⟨by rfl, ?_⟩) hHeld ?_
          rotate_left
          · (intro w hSw; obtain ⟨q1, q2⟩ := hS w hSw; clear hSw; go_simp; try with_reducible rfl)
          try simp only [Act.put, List.setIfInBounds_toArray, List.set_cons_succ, List.set_cons_zero]
          refine wpAnyH_take (i := 1) (oi := { dst := some 17, op := Op.move (Operand.tmp 1), type := 3, pos := "zsortordered.go:14", after := #[], guard := none }) (v := ?_) rfl (by kernel_rfl) (by kernel_rfl) (by kernel_rfl) (fun _ _ _ h => h) (Or.inl ⟨by rfl, ?_⟩) hHeld ?_
          rotate_left
          · (intro w hSw; obtain ⟨q1, q2⟩ := hS w hSw; clear hSw; go_simp; try with_reducible rfl)
          try simp only [Act.put, List.setIfInBounds_toArray, List.set_cons_succ, List.set_cons_zero]
          refine wpAnyH_take (i := 2) (oi := { dst := some 18, op := Op.binOp BinOp.gtr 3 (Operand.tmp 16) (Operand.tmp 17) 3, type := 4, pos := "zsortordered.go:14", after := #[{ on := 0, ground := Ground.data }, { on := 1, ground := Ground.data }], guard := none }) (v := ?_) rfl (by kernel_rfl) (by kernel_rfl) (by kernel_rfl) (fun _ _ _ h => h) (Or.inl ⟨by rfl, ?_⟩) hHeld ?_
          rotate_left
          · (intro w hSw; obtain ⟨q1, q2⟩ := hS w hSw; clear hSw; go_simp; try with_reducible rfl)
          try simp only [Act.put, List.setIfInBounds_toArray, List.set_cons_succ, List.set_cons_zero]
          refine wpAnyH_take (i := 3) (oi := { dst := some 19, op := Op.move (Operand.tmp 18), type := 4, pos := "zsortordered.go:14", after := #[{ on := 2, ground := Ground.data }], guard := none }) (v := ?_) rfl (by kernel_rfl) (by kernel_rfl) (by kernel_rfl) (fun _ _ _ h => h) (Or.inl ⟨by rfl, ?_⟩) hHeld ?_
          rotate_left
          · (intro w hSw; obtain ⟨q1, q2⟩ := hS w hSw; clear hSw; go_simp; try with_reducible rfl)
          try simp only [Act.put, List.setIfInBounds_toArray, List.set_cons_succ, List.set_cons_zero]
          refine wpAnyH_take (i := 4) (oi := { dst := some 20, op := Op.move (Operand.tmp 0), type := 84, pos := "zsortordered.go:14", after := #[{ on := 3, ground := Ground.guard }], guard := some (3, true) }) (v := ?_) rfl (by kernel_rfl) (by kernel_rfl) (by kernel_rfl) (fun _ _ _ h => h) (Or.inl ⟨by rfl, ?_⟩) hHeld ?_
          rotate_left
          · (intro w hSw; obtain ⟨q1, q2⟩ := hS w hSw; clear hSw; go_simp; try with_reducible rfl)
          try simp only [Act.put, List.setIfInBounds_toArray, List.set_cons_succ, List.set_cons_zero]
          refine wpAnyH_take (i := 5) (oi := { dst := some 21, op := Op.move (Operand.tmp 7), type := 3, pos := "zsortordered.go:14", after := #[{ on := 3, ground := Ground.guard }], guard := some (3, true) }) (v := ?_) rfl (by kernel_rfl) (by kernel_rfl) (by kernel_rfl) (fun _ _ _ h => h) (Or.inl ⟨by rfl, ?_⟩) hHeld ?_
          rotate_left
          · (intro w hSw; obtain ⟨q1, q2⟩ := hS w hSw; clear hSw; go_simp; try with_reducible rfl)
          try simp only [Act.put, List.setIfInBounds_toArray, List.set_cons_succ, List.set_cons_zero]
          refine wpAnyH_take (i := 6) (oi := { dst := some 22, op := Op.indexAddr 84 (Operand.tmp 20) (Operand.tmp 21), type := 0, pos := "zsortordered.go:14", after := #[{ on := 4, ground := Ground.data }, { on := 5, ground := Ground.data }, { on := 3, ground := Ground.guard }], guard := some (3, true) }) (v := ?_) rfl (by kernel_rfl) (by kernel_rfl) (by kernel_rfl) (fun _ _ _ h => h) (Or.inl ⟨by rfl, ?_⟩) hHeld ?_
          rotate_left
          · (intro w hSw; obtain ⟨q1, q2⟩ := hS w hSw; clear hSw; go_simp; try with_reducible rfl)
          try simp only [Act.put, List.setIfInBounds_toArray, List.set_cons_succ, List.set_cons_zero]
          refine wpAnyH_take (i := 7) (oi := { dst := some 23, op := Op.load 28 (Operand.tmp 22), type := 28, pos := "zsortordered.go:14", after := #[{ on := 6, ground := Ground.data }, { on := 3, ground := Ground.guard }], guard := some (3, true) }) (v := ?_) rfl (by kernel_rfl) (by kernel_rfl) (by kernel_rfl) (fun _ _ _ h => h) (Or.inl ⟨by rfl, ?_⟩) hHeld ?_
          rotate_left
          · (intro w hSw; obtain ⟨q1, q2⟩ := hS w hSw; clear hSw; go_simp; try with_reducible rfl)
          try simp only [Act.put, List.setIfInBounds_toArray, List.set_cons_succ, List.set_cons_zero]
          refine wpAnyH_take (i := 8) (oi := { dst := some 24, op := Op.move (Operand.tmp 0), type := 84, pos := "zsortordered.go:14", after := #[{ on := 3, ground := Ground.guard }], guard := some (3, true) }) (v := ?_) rfl (by kernel_rfl) (by kernel_rfl) (by kernel_rfl) (fun _ _ _ h => h) (Or.inl ⟨by rfl, ?_⟩) hHeld ?_
          rotate_left
          · (intro w hSw; obtain ⟨q1, q2⟩ := hS w hSw; clear hSw; go_simp; try with_reducible rfl)
          try simp only [Act.put, List.setIfInBounds_toArray, List.set_cons_succ, List.set_cons_zero]
          refine wpAnyH_take (i := 9) (oi := { dst := some 25, op := Op.move (Operand.tmp 7), type := 3, pos := "zsortordered.go:14", after := #[{ on := 3, ground := Ground.guard }], guard := some (3, true) }) (v := ?_) rfl (by kernel_rfl) (by kernel_rfl) (by kernel_rfl) (fun _ _ _ h => h) (Or.inl ⟨by rfl, ?_⟩) hHeld ?_
          rotate_left
          · (intro w hSw; obtain ⟨q1, q2⟩ := hS w hSw; clear hSw; go_simp; try with_reducible rfl)
          try simp only [Act.put, List.setIfInBounds_toArray, List.set_cons_succ, List.set_cons_zero]
          refine wpAnyH_take (i := 10) (oi := { dst := some 26, op := Op.binOp BinOp.sub 3 (Operand.tmp 25) (Operand.const (Value.int IntKind.i64 1)) 3, type := 3, pos := "zsortordered.go:14", after := #[{ on := 9, ground := Ground.data }, { on := 3, ground := Ground.guard }], guard := some (3, true) }) (v := ?_) rfl (by kernel_rfl) (by kernel_rfl) (by kernel_rfl) (fun _ _ _ h => h) (Or.inl ⟨by rfl, ?_⟩) hHeld ?_
          rotate_left
          · (intro w hSw; obtain ⟨q1, q2⟩ := hS w hSw; clear hSw; go_simp; try with_reducible rfl)
          try simp only [Act.put, List.setIfInBounds_toArray, List.set_cons_succ, List.set_cons_zero]
          refine wpAnyH_take (i := 11) (oi := { dst := some 27, op := Op.indexAddr 84 (Operand.tmp 24) (Operand.tmp 26), type := 0, pos := "zsortordered.go:14", after := #[{ on := 8, ground := Ground.data }, { on := 10, ground := Ground.data }, { on := 3, ground := Ground.guard }], guard := some (3, true) }) (v := ?_) rfl (by kernel_rfl) (by kernel_rfl) (by kernel_rfl) (fun _ _ _ h => h) (Or.inl ⟨by rfl, ?_⟩) hHeld ?_
          rotate_left
          · (intro w hSw; obtain ⟨q1, q2⟩ := hS w hSw; clear hSw; go_simp; try with_reducible rfl)
          try simp only [Act.put, List.setIfInBounds_toArray, List.set_cons_succ, List.set_cons_zero]
          refine wpAnyH_take (i := 12) (oi := { dst := some 28, op := Op.load 28 (Operand.tmp 27), type := 28, pos := "zsortordered.go:14", after := #[{ on := 11, ground := Ground.data }, { on := 3, ground := Ground.guard }], guard := some (3, true) }) (v := ?_) rfl (by kernel_rfl) (by kernel_rfl) (by kernel_rfl) (fun _ _ _ h => h) (Or.inl ⟨by rfl, ?_⟩) hHeld ?_
          rotate_left
          · (intro w hSw; obtain ⟨q1, q2⟩ := hS w hSw; clear hSw; go_simp; try with_reducible rfl)
          try simp only [Act.put, List.setIfInBounds_toArray, List.set_cons_succ, List.set_cons_zero]
          refine wpAnyH_ready (rs := [13]) (by kernel_rfl) (by simp) ?_
          refine AllReadyH.cons (o := _) rfl (fun K hK => ?_) AllReadyH.nil
          go_simp
          go_at_call 79
          refine Calls.mono (less_calls x y _) ?_
          rintro e w3 ⟨rfl, rfl⟩
          refine hK.out _ _ rfl (fun hHeld => ?_)
          clear hK K
          try simp only [Act.put, List.setIfInBounds_toArray, List.set_cons_succ, List.set_cons_zero]
          refine wpAnyH_take (i := 14) (oi := { dst := some 30, op := Op.pick (Operand.tmp 19) (Operand.tmp 29) (Operand.const (Value.bool false)), type := 4, pos := "zsortordered.go:14", after := #[{ on := 3, ground := Ground.data }, { on := 13, ground := Ground.data }], guard := none }) (v := ?_) rfl (by kernel_rfl) (by kernel_rfl) (by kernel_rfl) (fun _ _ _ h => h) (Or.inl ⟨by rfl, ?_⟩) hHeld ?_
          rotate_left
          · (intro w hSw; obtain ⟨q1, q2⟩ := hS w hSw; clear hSw; go_simp; try with_reducible rfl)
          try simp only [Act.put, List.setIfInBounds_toArray, List.set_cons_succ, List.set_cons_zero]
          refine wpAnyH_done (by kernel_rfl) ?_ _
          clear hHeld
          by_cases hxy : x < y
          · have hd : decide (x < y) = true := decide_eq_true hxy
            rw [hd]
            clear hS
            have cj2 : wr.drew.cell? ⟨g, jn, none⟩ = some (.int .u32 x) := cj
            have cm2 : wr.drew.cell? ⟨g, m, none⟩ = some (.int .u32 y) := cm
            have fj2 : wr.drew.frozen? ⟨g, jn, none⟩ = false := fj
            have fm2 : wr.drew.frozen? ⟨g, m, none⟩ = false := fm
            have cm3 : (wr.drew.setCell ⟨g, jn, none⟩ (.int .u32 y)).cell? ⟨g, m, none⟩ = some (.int .u32 y) := cm1
            have fm3 : (wr.drew.setCell ⟨g, jn, none⟩ (.int .u32 y)).frozen? ⟨g, m, none⟩ = false := fm1
            have HST2 : Hid (Own ((wr.drew.setCell ⟨g, jn, none⟩ (.int .u32 y)).setCell ⟨g, m, none⟩ (.int .u32 x)) B 28 .u32 (.slice (some ⟨g, 0, none⟩) n c) (P3 ++ x :: ((y :: P2) ++ Q0))) := HST
            have HGS2 : Hid (w.grownBy ((wr.drew.setCell ⟨g, jn, none⟩ (.int .u32 y)).setCell ⟨g, m, none⟩ (.int .u32 x)) (some g)) := hid (grown_drew HGS.out)
            clear HST HGS cj cm fj fm cm1 fm1
            generalize wr.drew = wd at *
            go_wp2_with fail
            go_region
            go_wp2
            go_roundw
            case rel =>
              have h1 := HHM.out
              have h2 := HHJ.out
              refine ⟨P3, y :: P2, ?_, ?_, fun z hz => ?_, HST2.out, grown_drew HGS2.out⟩
              · rw [← HP12.out]; simp
              · go_num
              · rcases List.mem_cons.1 hz with rfl | hz
                · exact hxy
                · exact HGT.out z hz
            case measure => have h1 := HHM.out; have h2 := HHJ.out; simp [intOf]; omega
          · have hd : decide (x < y) = false := decide_eq_false hxy
            rw [hd]
            have hR : Hid (Rise ((P3 ++ [y]) ++ x :: P2)) := hid (by
              have h1 := HR0.out
              rw [← HP12.out] at h1
              have h3 : Rise (P3 ++ [y]) := by unfold Rise at h1 ⊢; rw [List.pairwise_append] at h1; exact h1.1
              exact rise_mid h1 (rise_last h3 (by omega)) (fun z hz => Int.le_of_lt (HGT.out z hz)))
            clear hS HST HGS cj cm fj fm cm1 fm1
            go_wp2
            go_roundw
            case rel =>
              refine ⟨k + 1, (P3 ++ [y]) ++ x :: (P2 ++ Q0), by omega, by omega, by go_num, hzl1, ?_, ?_, HJO.out, grown_drew HJG.out⟩
              · refine List.Perm.trans ?_ HZP.out
                rw [HSP.out, ← HP12.out]
                have := (List.perm_middle (a := x) (l₁ := P2) (l₂ := Q0)).symm
                simpa using List.Perm.append_left (P3 ++ [y]) this
              · have hl2 : ((P3 ++ [y]) ++ x :: P2).length = k + 1 := by simp at hpl ⊢; omega
                rw [show (P3 ++ [y]) ++ x :: (P2 ++ Q0) = ((P3 ++ [y]) ++ x :: P2) ++ Q0 by simp, List.take_left' hl2]
                exact hR.out
            case measure => simp [intOf]; omega
    · have hk3 : ¬ (k : Int) < (n : Int) := by omega
      have hR : Hid (Rise zs) := hid (by have := HZR.out; rwa [List.take_of_length_le (by rw [HZL.out]; omega)] at this)
      go_wp2
      go_end0
      exact ⟨⟨_, rfl⟩, zs, HZL.out, HZP.out, hR.out, HZO.out, HZG.out⟩
end Go.Proofs.Ytebfoigbiekeiaa
