/-
  LAYER 9: frames that are appended one by one; what a tick makes, neighbour by neighbour.
-/
import Derived.Test.YtebfoigbiekeiaaArpF
set_option linter.unusedVariables false
set_option linter.unusedSimpArgs false
namespace Go.Proofs.Ytebfoigbiekeiaa
open Go Go.RowKit

/-- Frames in blocks from N on. -/
def FrB (N : Nat) (w : World) (v : Value) (L : List (List Int)) : Prop := ∃ vs, OwnV w N 31 v vs ∧ OwnsS (fun q => N ≤ q) w vs L
theorem FrB.nil (N : Nat) (w : World) : FrB N w (.slice none 0 0) [] := ⟨[], OwnV.nil _ _ _, trivial⟩
theorem FrB.below {N : Nat} {w w' : World} {v : Value} {L : List (List Int)} (h : FrB N w v L) (hb : Below w.heap.size w w') : FrB N w' v L := by
  obtain ⟨vs, h1, h2⟩ := h
  exact ⟨vs, h1.below hb, h2.below hb⟩
theorem FrB.kept {N : Nat} {w w' : World} {g : Nat} {v : Value} {L : List (List Int)} (h : FrB N w v L) (hg : w.grownBy w' (some g)) (hn : g < N) : FrB N w' v L := by
  obtain ⟨vs, h1, h2⟩ := h
  exact ⟨vs, h1.kept hg (by
    cases e : v.ownBlock with
    | none => exact .inl rfl
    | some q => exact .inr fun e2 => by injection e2 with e2; have := (h1.lt q e).1; omega), h2.kept hg (by omega)⟩
theorem FrB.form {N : Nat} {w : World} {v : Value} {L : List (List Int)} (h : FrB N w v L) : ∃ A c, v = .slice A L.length c := by
  obtain ⟨vs, h1, h2⟩ := h
  obtain ⟨A, c, rfl, _⟩ := h1.rd
  exact ⟨A, c, by rw [h2.len]⟩
theorem FrB.frS {N : Nat} {w : World} {v : Value} {L : List (List Int)} {T : Nat → Prop} (h : FrB N w v L) (hT : ∀ q, N ≤ q → T q) : FrS T w v L := by
  obtain ⟨vs, h1, h2⟩ := h
  exact ⟨vs, h1.base 0 (Nat.zero_le _), fun q hq => hT q (h1.lt q hq).1, h2.sub hT⟩
/-- Rows of bytes and of slices lie in blocks of their own. -/
theorem own_ne {w : World} {b1 b2 : Nat} {u v : Value} {x : List Int} {vs : List Value} (h : Own w b1 5 .u8 u x) (k : OwnV w b2 31 v vs) : u.ownBlock = none ∨ u.ownBlock ≠ v.ownBlock := by
  rcases h.2 with ⟨rfl, _⟩ | ⟨g, cap, cur, rfl, _, hg, _⟩
  · exact .inl rfl
  · rcases k.2 with ⟨rfl, _⟩ | ⟨g', cap', cur', rfl, _, hg', _⟩
    · exact .inr (by simp [Value.ownBlock])
    · refine .inr fun e => ?_
      simp only [Value.ownBlock, Option.some.injEq] at e
      subst e
      rw [hg] at hg'
      injection hg' with h1
      injection h1 with h2 h3
      exact absurd h3 (by decide)
theorem OwnsS.row {T : Nat → Prop} {w w' : World} {b2 : Nat} {v : Value} {us : List Value} (k : OwnV w b2 31 v us) (hg : w.grownBy w' v.ownBlock) : ∀ {vs : List Value} {L : List (List Int)}, OwnsS T w vs L → OwnsS T w' vs L
  | [], [], _ => trivial
  | _ :: _, _ :: _, h => ⟨⟨h.1.1.kept hg (own_ne h.1.1 k), h.1.2⟩, OwnsS.row k hg h.2⟩
/-- One frame more. -/
theorem FrB.more {N : Nat} {w w' : World} {v v' u : Value} {vs : List Value} {L : List (List Int)} {x : List Int} (h1 : OwnV w N 31 v vs) (h2 : OwnsS (fun q => N ≤ q) w vs L) (hx : Own w N 5 .u8 u x) (h' : OwnV w' N 31 v' (vs ++ [u])) (hg : w.grownBy w' v.ownBlock) : FrB N w' v' (L ++ [x]) :=
  ⟨_, h', (h2.row h1 hg).append ⟨⟨((hx.base 0 (Nat.zero_le _)).kept hg (own_ne hx h1)), fun q hq => (hx.lt q hq).1⟩, trivial⟩⟩

theorem tickL_append (now : Int) : ∀ (a c : List (Int × En)), tickL now (a ++ c) = ((tickL now a).1 ++ (tickL now c).1, (tickL now a).2.1 ++ (tickL now c).2.1, (tickL now a).2.2 + (tickL now c).2.2)
  | [], c => by simp [tickL]
  | (k, e) :: a, c => by
    have h := tickL_append now a c
    simp only [List.cons_append, tickL, h]
    split
    · simp [Int.add_assoc]
    · split <;> simp
theorem tickL_snoc (now : Int) (l : List (Int × En)) (j : Nat) (hj : j < l.length) : tickL now (l.take (j + 1)) = ((tickL now (l.take j)).1 ++ (tickL now [l[j]]).1, (tickL now (l.take j)).2.1 ++ (tickL now [l[j]]).2.1, (tickL now (l.take j)).2.2 + (tickL now [l[j]]).2.2) := by
  rw [List.take_succ_eq_append_getElem hj, tickL_append]
theorem tickL_keys (now : Int) : ∀ (l : List (Int × En)) p, p ∈ (tickL now l).1 → ∃ e, (p.1, e) ∈ l
  | [], p, h => by simp [tickL] at h
  | (k, e) :: r, p, h => by
    simp only [tickL] at h
    split at h
    · obtain ⟨e', h'⟩ := tickL_keys now r p h
      exact ⟨e', List.mem_cons_of_mem _ h'⟩
    · split at h
      · rcases List.mem_cons.1 h with rfl | h
        · exact ⟨e, List.mem_cons_self ..⟩
        · obtain ⟨e', h'⟩ := tickL_keys now r p h
          exact ⟨e', List.mem_cons_of_mem _ h'⟩
      · rcases List.mem_cons.1 h with rfl | h
        · exact ⟨e, List.mem_cons_self ..⟩
        · obtain ⟨e', h'⟩ := tickL_keys now r p h
          exact ⟨e', List.mem_cons_of_mem _ h'⟩
theorem tickL_len (now : Int) : ∀ (l : List (Int × En)), (tickL now l).1.length ≤ l.length ∧ (tickL now l).2.1.length ≤ l.length
  | [] => by simp [tickL]
  | (k, e) :: r => by
    have h := tickL_len now r
    simp only [tickL]
    split
    · simp; omega
    · split <;> simp <;> omega
theorem tickL_lost (now : Int) : ∀ (l : List (Int × En)), (∀ p ∈ l, p.2.wait.length ≤ 4) → 0 ≤ (tickL now l).2.2 ∧ (tickL now l).2.2 ≤ 4 * l.length
  | [], _ => by simp [tickL]
  | (k, e) :: r, h => by
    have h1 := tickL_lost now r (fun p hp => h p (List.mem_cons_of_mem _ hp))
    have h2 := h _ (List.mem_cons_self ..)
    simp only [tickL]
    simp only at h2
    split
    · simp only [List.length_cons]; omega
    · split <;> (simp only [List.length_cons]; omega)
theorem delK_gone {α : Type} {k : Int} : ∀ {M : List (Int × α)}, (∀ p ∈ M, p.1 ≠ k) → delK k M = M
  | [], _ => rfl
  | (k', x) :: M, h => by
    simp only [delK]
    rw [if_neg (h _ (List.mem_cons_self ..)), delK_gone (fun p hp => h p (List.mem_cons_of_mem _ hp))]
theorem delK_mid {α : Type} {k : Int} {e : α} {c : List (Int × α)} (hc : ∀ p ∈ c, p.1 ≠ k) : ∀ {a : List (Int × α)}, (∀ p ∈ a, p.1 ≠ k) → delK k (a ++ (k, e) :: c) = a ++ c
  | [], _ => by simp [delK, delK_gone hc]
  | (k', x) :: a, h => by
    simp only [List.cons_append, delK]
    rw [if_neg (h _ (List.mem_cons_self ..)), delK_mid hc (fun p hp => h p (List.mem_cons_of_mem _ hp))]
theorem insK_mid {α : Type} {k : Int} {e : α} {c : List (Int × α)} (hc : ∀ p ∈ c, k < p.1) : ∀ {a : List (Int × α)}, (∀ p ∈ a, p.1 < k) → insK k e (a ++ c) = a ++ (k, e) :: c
  | [], _ => by
    cases c with
    | nil => rfl
    | cons p c =>
      obtain ⟨k', x⟩ := p
      have := hc _ (List.mem_cons_self ..)
      simp only [List.nil_append, insK]
      rw [if_pos this]
  | (k', x) :: a, h => by
    have h1 := h _ (List.mem_cons_self ..)
    simp only [List.cons_append, insK]
    simp only at h1
    rw [if_neg (by omega), insK_mid hc (fun p hp => h p (List.mem_cons_of_mem _ hp))]
theorem rising_mid {α : Type} {k : Int} {e : α} {a c : List (Int × α)} (h : Rising (a ++ (k, e) :: c)) : (∀ p ∈ a, p.1 < k) ∧ (∀ p ∈ c, k < p.1) := by
  have h1 := List.pairwise_append.1 h
  exact ⟨fun p hp => h1.2.2 p hp _ (List.mem_cons_self ..), fun p hp => (List.pairwise_cons.1 h1.2.1).1 p hp⟩
theorem delK_at {α : Type} {k : Int} {e : α} {a c : List (Int × α)} (h : Rising (a ++ (k, e) :: c)) : delK k (a ++ (k, e) :: c) = a ++ c := by
  obtain ⟨h1, h2⟩ := rising_mid h
  exact delK_mid (fun p hp => by have := h2 p hp; omega) (fun p hp => by have := h1 p hp; omega)
theorem putK_at {α : Type} {k : Int} {e f : α} {a c : List (Int × α)} (h : Rising (a ++ (k, e) :: c)) : putK k f (a ++ (k, e) :: c) = a ++ (k, f) :: c := by
  unfold putK
  rw [delK_at h]
  obtain ⟨h1, h2⟩ := rising_mid h
  exact insK_mid h2 h1
/-- The cache when a tick has come to the neighbour j. -/
def Ar.ticked (s : Ar) (now : Int) (j : Nat) : Ar := { s with lost := s.lost + (tickL now (s.m.take j)).2.2, m := (tickL now (s.m.take j)).1 ++ s.m.drop j }
def Ar.asked (s : Ar) (now : Int) (j : Nat) : List (List Int) := (tickL now (s.m.take j)).2.1.map fun k => s.arpF 1 281474976710655 0 k
theorem ticked_zero (s : Ar) (now : Int) : s.ticked now 0 = s := by simp [Ar.ticked, tickL]
theorem asked_zero (s : Ar) (now : Int) : s.asked now 0 = [] := by simp [Ar.asked, tickL]
theorem ticked_mid (s : Ar) (now : Int) (j : Nat) (hj : j < s.m.length) : (s.ticked now j).m = (tickL now (s.m.take j)).1 ++ s.m[j] :: s.m.drop (j + 1) := by
  simp [Ar.ticked]
theorem tickL_one (now k : Int) (e : En) : tickL now [(k, e)] = if (e.known = true ∧ 600 ≤ now - e.at_) ∨ (e.known = false ∧ 10 ≤ now - e.at_ ∧ 3 ≤ e.tries) then ([], [], (e.wait.length : Int)) else if e.known = false ∧ 10 ≤ now - e.at_ then ([(k, { e with at_ := now, tries := e.tries + 1 })], [k], 0) else ([(k, e)], [], 0) := by
  simp only [tickL]
  split
  · simp
  · split <;> rfl
theorem ticked_drop (s : Ar) (now : Int) (j : Nat) (hj : j < s.m.length) {k : Int} {e : En} (hp : s.m[j] = (k, e)) (h : Rising (s.ticked now j).m) (hc : (e.known = true ∧ 600 ≤ now - e.at_) ∨ (e.known = false ∧ 10 ≤ now - e.at_ ∧ 3 ≤ e.tries)) :
    s.ticked now (j + 1) = { s.ticked now j with lost := (s.ticked now j).lost + e.wait.length, m := delK k (s.ticked now j).m } ∧ s.asked now (j + 1) = s.asked now j := by
  have h1 := tickL_snoc now s.m j hj
  rw [hp, tickL_one, if_pos hc] at h1
  rw [ticked_mid s now j hj, hp] at h ⊢
  rw [delK_at h]
  refine ⟨?_, by unfold Ar.asked; rw [h1]; simp⟩
  unfold Ar.ticked
  rw [h1]
  simp [Int.add_assoc]
theorem ticked_ask (s : Ar) (now : Int) (j : Nat) (hj : j < s.m.length) {k : Int} {e : En} (hp : s.m[j] = (k, e)) (h : Rising (s.ticked now j).m) (hn : ¬ ((e.known = true ∧ 600 ≤ now - e.at_) ∨ (e.known = false ∧ 10 ≤ now - e.at_ ∧ 3 ≤ e.tries))) (hc : e.known = false ∧ 10 ≤ now - e.at_) :
    s.ticked now (j + 1) = { s.ticked now j with m := putK k { e with at_ := now, tries := e.tries + 1 } (s.ticked now j).m } ∧ s.asked now (j + 1) = s.asked now j ++ [s.arpF 1 281474976710655 0 k] := by
  have h1 := tickL_snoc now s.m j hj
  rw [hp, tickL_one, if_neg hn, if_pos hc] at h1
  rw [ticked_mid s now j hj, hp] at h ⊢
  rw [putK_at h]
  refine ⟨?_, by unfold Ar.asked; rw [h1]; simp⟩
  unfold Ar.ticked
  rw [h1]
  simp
theorem ticked_keep (s : Ar) (now : Int) (j : Nat) (hj : j < s.m.length) {k : Int} {e : En} (hp : s.m[j] = (k, e)) (hn : ¬ ((e.known = true ∧ 600 ≤ now - e.at_) ∨ (e.known = false ∧ 10 ≤ now - e.at_ ∧ 3 ≤ e.tries))) (hc : ¬ (e.known = false ∧ 10 ≤ now - e.at_)) :
    s.ticked now (j + 1) = s.ticked now j ∧ s.asked now (j + 1) = s.asked now j := by
  have h1 := tickL_snoc now s.m j hj
  rw [hp, tickL_one, if_neg hn, if_neg hc] at h1
  refine ⟨?_, by unfold Ar.asked; rw [h1]; simp⟩
  unfold Ar.ticked
  rw [h1]
  simp [List.drop_eq_getElem_cons hj, hp]
theorem ticked_all (s : Ar) (now : Int) (h : s.wrong now = 0) : s.tick now = ((s.at now).ticked now (s.at now).m.length, (s.at now).asked now (s.at now).m.length, 0) := by
  unfold Ar.tick
  rw [if_neg (by rw [h]; decide)]
  simp [Ar.ticked, Ar.asked, Ar.at, Ar.arpF]
end Go.Proofs.Ytebfoigbiekeiaa
