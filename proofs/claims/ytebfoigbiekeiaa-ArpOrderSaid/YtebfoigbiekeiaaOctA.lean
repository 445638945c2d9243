/-
  WALKS: slices.Clone at []byte; octet.wide, octet.Bytes.
-/
import Derived.Test.YtebfoigbiekeiaaProg
import Derived.Test.YtebfoigbiekeiaaApp2
import Derived.Deep.QuietTactic
import Derived.BigQuiet
import Derived.StillTactics
import Derived.StillTailTactics
set_option linter.unusedVariables false
set_option linter.unusedSimpArgs false
namespace Go.Proofs.Ytebfoigbiekeiaa
open Go.RowKit
theorem elemB : Elem Try.prog 31 5 .u8 1 := Elem.mk' Try.underlying31 (by kernel_rfl)

theorem eql_nil {P : Program} (w : World) (t e : TypeId) (a : Option Addr) (n c : Nat) (h : P.underlying t = some (.slice e)) : Sem.run P (binOp .eql t (.slice a n c) (.slice none 0 0)) w = .ok (.bool a.isNone) w := by
  simp only [binOp]
  simp [Op.equal, Op.maxDepth, Lib.run_equalIn_slice_nil w 9999 t e a n c 0 0 h]
set_option maxHeartbeats 800000 in
theorem clone_calls (c n : Nat) (A : Option Addr) (xs : List Int) (hn : xs.length = n) (w : World) (hR : Rd w .u8 A xs) (hA : A = none → c = 0) (hl : n ≤ 140737488351232) :
    Calls Try.prog 27 #[.slice A n c] w fun e w' => ∃ v, e = .returned v ∧ Own w' w.heap.size 5 .u8 v xs ∧ Below w.heap.size w w' := by
  cases A with
  | none =>
    have hc := hA rfl
    subst hc
    have hx : xs = [] := by
      cases xs with
      | nil => rfl
      | cons x xs => obtain ⟨b, o, e, _⟩ := hR.at_ 0 (by simp); cases e
    subst hx
    simp at hn
    subst hn
    have he := fun (w : World) => eql_nil (P := Try.prog) w 31 5 none 0 0 Try.underlying31
    go_enter Try.func27, Try.ntmps27
    go_wp2
    go_ret
    exact ⟨_, rfl, Own.nil _ _ _ _, Below.refl _ _⟩
  | some ad =>
    have he := fun (w : World) => eql_nil (P := Try.prog) w 31 5 (some ad) n c Try.underlying31
    have HR := hid hR; clear hR
    have HN := hid hn; clear hn
    go_enter Try.func27, Try.ntmps27
    go_wp2_with (at_builtin; refine hold ?_)
    refine hid ?_
    refine wpList_app rfl _ _ 31 5 .u8 1 rfl elemB w.heap.size _ [] rfl (Own.lit w 5 .u8 w.heap.size (Nat.le_refl _) [] #[] 0 rfl rfl (by decide)) (some ad) c n xs rfl HN.out (by simp) (HR.out.below ((Below.refl _ _).alloc (Nat.le_refl _) _)) (by simp; omega) (by simp [maxLen]; omega) (by simp) ?_
    intro v1 w1 ho1 hg1
    have hb1 : Below w.heap.size w w1 := below_own ((Below.refl _ _).alloc (Nat.le_refl _) _) hg1 (fun g hg => Nat.le_of_eq (Option.some.inj hg))
    rw [List.nil_append] at ho1
    clear hg1
    go_wp2
    go_ret
    exact ⟨_, rfl, ho1, hb1⟩

theorem wide_calls (n : Int) (w : World) : Calls Try.prog 54 #[.int .i64 n] w fun e w' => e = .returned (.bool (decide (1 ≤ n) && decide (n ≤ 8))) ∧ w = w' := by
  by_cases h1 : 1 ≤ n
  · by_cases h2 : n ≤ 8
    · go_enter Try.func54, Try.ntmps54
      go_wp2
      go_ret
      exact ⟨ret_bool (by simp [h1, h2]), rfl⟩
    · go_enter Try.func54, Try.ntmps54
      go_wp2
      go_ret
      exact ⟨ret_bool (by simp; omega), rfl⟩
  · go_enter Try.func54, Try.ntmps54
    go_wp2
    go_ret
    exact ⟨ret_bool (by simp; omega), rfl⟩

/-- The n bytes of a number, the highest first. -/
def be (v : Int) (n : Nat) : List Int := (List.range n).map fun i => v / 256 ^ (n - 1 - i) % 256
/-- What the loop has laid behind t rounds. -/
def beTo (v : Int) (n t : Nat) : List Int := (List.range n).map fun i => if i < t then v / 256 ^ (n - 1 - i) % 256 else 0
theorem beTo_zero (v : Int) (n : Nat) : beTo v n 0 = List.replicate n 0 := by
  unfold beTo
  apply List.ext_getElem <;> simp
theorem beTo_all (v : Int) (n : Nat) : beTo v n n = be v n := by
  unfold beTo be
  apply List.map_congr_left
  intro i hi
  rw [if_pos (List.mem_range.1 hi)]
theorem beTo_succ (v : Int) (n t : Nat) (h : t < n) : (beTo v n t).set t (v / 256 ^ (n - 1 - t) % 256) = beTo v n (t + 1) := by
  unfold beTo
  apply List.ext_getElem
  · simp
  · intro i h1 h2
    rw [List.getElem_set]
    simp only [List.getElem_map, List.getElem_range]
    by_cases hi : t = i
    · subst hi; rw [if_pos rfl, if_pos (by omega)]
    · rw [if_neg hi]
      by_cases hlt : i < t
      · rw [if_pos hlt, if_pos (by omega)]
      · rw [if_neg hlt, if_neg (by omega)]
theorem beTo_len (v : Int) (n t : Nat) : (beTo v n t).length = n := by simp [beTo]
theorem below_set {w w1 : World} (h : Below w.heap.size w w1) (g o : Nat) (u : Value) (hg : w.heap.size ≤ g) : Below w.heap.size w (w1.setCell ⟨g, o, none⟩ u) := h.setCell hg u
/-- The shift, as the walk spells it. -/
theorem shr_be (v : Int) (n t : Nat) : v / 2 ^ (8 * (n - 1 - t)) % 256 = v / 256 ^ (n - 1 - t) % 256 := by
  have h2 : (2 : Int) ^ (8 * (n - 1 - t)) = 256 ^ (n - 1 - t) := by rw [Int.pow_mul]; rfl
  rw [h2]
set_option maxHeartbeats 1600000 in
theorem bytes_calls (v : Int) (n : Nat) (h0 : 0 ≤ v) (h1 : v < 18446744073709551616) (hn1 : 1 ≤ n) (hn8 : n ≤ 8) (hv : n < 8 → v < 256 ^ n) (w : World) :
    Calls Try.prog 66 #[.int .u64 v, .int .i64 n] w fun e w' => ∃ g c, e = .returned (.tuple #[.slice (some ⟨g, 0, none⟩) n c, .int .i64 0]) ∧ Own w' w.heap.size 5 .u8 (.slice (some ⟨g, 0, none⟩) n c) (be v n) ∧ Below w.heap.size w w' := by
  have e1 : decide ((1 : Int) ≤ (n : Int)) = true := by simp; omega
  have e2 : decide ((n : Int) ≤ 8) = true := by simp; omega
  have hsh : n < 8 → (v / 2 ^ (8 * n) != 0) = false := fun h => by
    have h2 : (2 : Int) ^ (8 * n) = 256 ^ n := by rw [Int.pow_mul]; rfl
    rw [h2, Int.ediv_eq_zero_of_lt h0 (hv h)]; rfl
  have HB0 := hid (beTo_zero v n)
  have HBA := hid (beTo_all v n)
  have HBL := hid (beTo_len v n)
  clear hv
  have key : ∀ w' : World, True := fun _ => trivial
  clear key
  by_cases h8 : n < 8
  · have hs8 := hsh h8
    clear hsh
    go_enter Try.func66, Try.ntmps66
    go_wp2_with fail
    refine (wide_calls _ _).mono ?_
    rintro e w1 ⟨rfl, rfl⟩
    rw [e1, e2]
    go_wp2_with (at_make; refine hold ?_)
    refine hid ?_
    refine wpList_mk rfl _ _ 31 5 .u8 1 rfl elemB w.heap.size .i64 .i64 n n n rfl rfl rfl rfl (by omega) (by simp [maxLen]; omega) (Nat.le_refl _) ?_
    intro w1 ho1 hb1
    rw [← HB0.out] at ho1
    go_wp2_with fail
    go_loopw [7, 26] (fun _ q wr => ∃ t : Nat, t ≤ n ∧ q = .int .i64 t ∧ Own wr w.heap.size 5 .u8 (.slice (some ⟨w.heap.size, 0, none⟩) n n) (beTo v n t) ∧ Below w.heap.size w wr) (fun _ q _ => n - (intOf q).toNat)
    case atStart => exact ⟨0, Nat.zero_le _, rfl, ho1, hb1⟩
    case round =>
      obtain ⟨t, ht, rfl, ho2, hb2⟩ := hrel
      by_cases hlt : t < n
      · have hcu := ho2.cell t (by rw [HBL.out]; exact hlt)
        generalize (beTo v n t).getD t 0 = u at *
        have hfz := ho2.free t
        have hst := ho2.set t (by rw [HBL.out]; exact hlt) (v / 256 ^ (n - 1 - t) % 256)
        rw [beTo_succ v n t hlt] at hst
        have HST := hid hst
        have HB2 := hid (below_set hb2 w.heap.size t (.int .u8 (v / 256 ^ (n - 1 - t) % 256)) (Nat.le_refl _))
        have HSH := hid (shr_be v n t)
        clear hst ho2 hb2
        have ht0 : (0 : Int) ≤ (t : Int) := by omega
        have ht1 : (t : Int) < (n : Int) := by omega
        have a1 : (0 : Int) ≤ (n : Int) - 1 - (t : Int) := by omega
        have a2 : (0 : Int) ≤ 8 * ((n : Int) - 1 - (t : Int)) := by omega
        have a3 : (0 : Int) ≤ (n : Int) - 1 := by omega
        go_wp2_with fail
        go_roundw
        case rel => exact ⟨t + 1, by omega, by go_num, by rw [HSH.out]; exact HST.out, by rw [HSH.out]; exact HB2.out⟩
        case measure => simp [intOf]; omega
      · have : t = n := by omega
        subst this
        rw [HBA.out] at ho2
        go_wp2
        go_ret2
        exact ⟨_, _, rfl, ho2, hb2⟩
  · have hn88 : ¬ ((n : Int) < 8) := by omega
    clear hsh
    go_enter Try.func66, Try.ntmps66
    go_wp2_with fail
    refine (wide_calls _ _).mono ?_
    rintro e w1 ⟨rfl, rfl⟩
    rw [e1, e2]
    go_wp2_with (at_make; refine hold ?_)
    refine hid ?_
    refine wpList_mk rfl _ _ 31 5 .u8 1 rfl elemB w.heap.size .i64 .i64 n n n rfl rfl rfl rfl (by omega) (by simp [maxLen]; omega) (Nat.le_refl _) ?_
    intro w1 ho1 hb1
    rw [← HB0.out] at ho1
    go_wp2_with fail
    go_loopw [7, 26] (fun _ q wr => ∃ t : Nat, t ≤ n ∧ q = .int .i64 t ∧ Own wr w.heap.size 5 .u8 (.slice (some ⟨w.heap.size, 0, none⟩) n n) (beTo v n t) ∧ Below w.heap.size w wr) (fun _ q _ => n - (intOf q).toNat)
    case atStart => exact ⟨0, Nat.zero_le _, rfl, ho1, hb1⟩
    case round =>
      obtain ⟨t, ht, rfl, ho2, hb2⟩ := hrel
      by_cases hlt : t < n
      · have hcu := ho2.cell t (by rw [HBL.out]; exact hlt)
        generalize (beTo v n t).getD t 0 = u at *
        have hfz := ho2.free t
        have hst := ho2.set t (by rw [HBL.out]; exact hlt) (v / 256 ^ (n - 1 - t) % 256)
        rw [beTo_succ v n t hlt] at hst
        have HST := hid hst
        have HB2 := hid (below_set hb2 w.heap.size t (.int .u8 (v / 256 ^ (n - 1 - t) % 256)) (Nat.le_refl _))
        have HSH := hid (shr_be v n t)
        clear hst ho2 hb2
        have ht0 : (0 : Int) ≤ (t : Int) := by omega
        have ht1 : (t : Int) < (n : Int) := by omega
        have a1 : (0 : Int) ≤ (n : Int) - 1 - (t : Int) := by omega
        have a2 : (0 : Int) ≤ 8 * ((n : Int) - 1 - (t : Int)) := by omega
        have a3 : (0 : Int) ≤ (n : Int) - 1 := by omega
        go_wp2_with fail
        go_roundw
        case rel => exact ⟨t + 1, by omega, by go_num, by rw [HSH.out]; exact HST.out, by rw [HSH.out]; exact HB2.out⟩
        case measure => simp [intOf]; omega
      · have : t = n := by omega
        subst this
        rw [HBA.out] at ho2
        go_wp2
        go_ret2
        exact ⟨_, _, rfl, ho2, hb2⟩
end Go.Proofs.Ytebfoigbiekeiaa
