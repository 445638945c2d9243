/-
  PLAIN: numbers of 16 bits as bytes; their sum; one of them becomes another. No program in sight.
-/
import Derived.Test.YteepfkolibeekaaSumsN
set_option linter.unusedVariables false
set_option linter.unusedSimpArgs false
namespace Go.Proofs.Yteepfkolibeekaa
open Go.RowKit

/-- The bytes of numbers of 16 bits. -/
def wide (l : List Int) : List Int := l.flatMap fun x => [x / 256, x % 256]
theorem wide_take (l : List Int) (t : Nat) (h : t < l.length) : wide (l.take (t + 1)) = wide (l.take t) ++ [l.getD t 0 / 256, l.getD t 0 % 256] := by
  unfold wide
  rw [List.take_succ_eq_append_getElem h, List.flatMap_append]
  simp [List.getD_eq_getElem?_getD, h]
theorem wide_len (l : List Int) (t : Nat) (h : t ≤ l.length) : (wide (l.take t)).length = 2 * t := by
  induction t with
  | zero => simp [wide]
  | succ t ih => rw [wide_take l t (by omega), List.length_append, ih (by omega)]; simp; omega
def tot (l : List Int) : Nat → Int
  | 0 => 0
  | t + 1 => tot l t + l.getD t 0
theorem netS_wide (l : List Int) (t : Nat) (h : t ≤ l.length) : netS (wide (l.take t)) (2 * t) = tot l t := by
  induction t with
  | zero => rfl
  | succ t ih =>
    have hl := wide_len l t (by omega)
    rw [wide_take l t (by omega), show 2 * (t + 1) = (wide (l.take t)).length + 2 from by rw [hl]; omega]
    rw [netS_append_even _ _ (by rw [hl]; omega), hl, ih (by omega), netS_two]
    simp only [tot]
    omega
theorem net_wide (l : List Int) : net (wide l) = 65535 - fold16 (tot l l.length) := by
  have h := netS_wide l l.length (Nat.le_refl _)
  have hl := wide_len l l.length (Nat.le_refl _)
  rw [List.take_length] at h hl
  unfold net
  rw [hl, h]
theorem tot_nonneg (l : List Int) (h : ∀ x ∈ l, 0 ≤ x ∧ x ≤ 65535) (t : Nat) : 0 ≤ tot l t := by
  induction t with
  | zero => simp [tot]
  | succ t ih =>
    have : 0 ≤ l.getD t 0 := by
      rw [List.getD_eq_getElem?_getD]
      rcases Nat.lt_or_ge t l.length with h1 | h1
      · rw [List.getElem?_eq_getElem h1]; exact (h _ (List.getElem_mem h1)).1
      · rw [List.getElem?_eq_none h1]; simp
    simp only [tot]; omega
theorem tot_set (l : List Int) (k : Nat) (u : Int) (t : Nat) (ht : t ≤ l.length) : tot (l.set k u) t = tot l t + if k < t then u - l.getD k 0 else 0 := by
  induction t with
  | zero => simp [tot]
  | succ t ih =>
    simp only [tot]
    rw [ih (by omega)]
    rcases Nat.lt_trichotomy k t with h | h | h
    · rw [if_pos h, if_pos (show k < t + 1 by omega), getD_set_ne' _ _ _ _ (by omega)]; omega
    · subst h
      rw [if_neg (Nat.lt_irrefl _), if_pos (Nat.lt_succ_self _), getD_set_self' _ _ _ (by omega)]; omega
    · rw [if_neg (show ¬ k < t by omega), if_neg (show ¬ k < t + 1 by omega), getD_set_ne' _ _ _ _ (by omega)]; omega
/-- Are the first t all 0? -/
def zeros (l : List Int) (t : Nat) : Bool := (l.take t).all fun x => x == 0
theorem zeros_succ (l : List Int) (t : Nat) (h : t < l.length) : zeros l (t + 1) = (zeros l t && l.getD t 0 == 0) := by
  unfold zeros
  rw [List.take_succ_eq_append_getElem h, List.all_append]
  simp [List.getD_eq_getElem?_getD, h]
theorem zeros_tot (l : List Int) (h : ∀ x ∈ l, 0 ≤ x ∧ x ≤ 65535) (t : Nat) (ht : t ≤ l.length) : zeros l t = true ↔ tot l t = 0 := by
  induction t with
  | zero => simp [zeros, tot]
  | succ t ih =>
    rw [zeros_succ l t (by omega), Bool.and_eq_true, ih (by omega)]
    have h1 := tot_nonneg l h t
    have h2 : 0 ≤ l.getD t 0 := by
      rw [List.getD_eq_getElem?_getD, List.getElem?_eq_getElem (show t < l.length by omega)]; exact (h _ (List.getElem_mem _)).1
    simp only [tot, beq_iff_eq]
    omega
def swp (s o i : Int) : Int := 65535 - fold16 (65535 - s + (65535 - o) + i)
/-- P2.6. -/
theorem swp_tells (l : List Int) (h : ∀ x ∈ l, 0 ≤ x ∧ x ≤ 65535) (k : Nat) (hk : k < l.length) (u : Int) (u0 : 0 ≤ u) (u1 : u ≤ 65535) :
    swp (net (wide l)) (l.getD k 0) u = if zeros (l.set k u) l.length = true then 0 else net (wide (l.set k u)) := by
  have hs : ∀ x ∈ l.set k u, 0 ≤ x ∧ x ≤ 65535 := fun x hx => by
    rcases List.mem_or_eq_of_mem_set hx with h1 | h1
    · exact h x h1
    · subst h1; exact ⟨u0, u1⟩
  have e2 : net (wide (l.set k u)) = 65535 - fold16 (tot (l.set k u) l.length) := by
    have := net_wide (l.set k u)
    rwa [List.length_set] at this
  have ht := tot_set l k u l.length (Nat.le_refl _)
  rw [if_pos hk] at ht
  have hz := zeros_tot (l.set k u) hs l.length (by simp)
  have hn := tot_nonneg (l.set k u) hs l.length
  have hT := tot_nonneg l h l.length
  have hko : 0 ≤ l.getD k 0 ∧ l.getD k 0 ≤ 65535 := by
    rw [List.getD_eq_getElem?_getD, List.getElem?_eq_getElem hk]; exact h _ (List.getElem_mem _)
  rw [e2]
  unfold swp
  rw [net_wide]
  rw [show 65535 - (65535 - fold16 (tot l l.length)) + (65535 - l.getD k 0) + u = fold16 (tot l l.length) + (65535 - l.getD k 0 + u) from by omega]
  rw [fold16_add _ _ hT (by omega)]
  rw [show tot l l.length + (65535 - l.getD k 0 + u) = tot (l.set k u) l.length + 65535 from by omega]
  generalize tot (l.set k u) l.length = T at *
  by_cases hT0 : T = 0
  · rw [if_pos (hz.2 hT0)]; subst hT0; rfl
  · rw [if_neg (fun hh => hT0 (hz.1 hh))]
    unfold fold16
    rw [if_neg (by omega), if_neg hT0]
    omega
end Go.Proofs.Yteepfkolibeekaa
