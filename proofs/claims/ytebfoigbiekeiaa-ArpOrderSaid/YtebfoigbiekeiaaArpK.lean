/-
  LAYER 9: a neighbour that never answers, plain; what a law keeps of a cache.
-/
import Derived.Test.YtebfoigbiekeiaaArpJ
import Derived.Test.YtebfoigbiekeiaaArpLv
set_option linter.unusedVariables false
set_option linter.unusedSimpArgs false
namespace Go.Proofs.Ytebfoigbiekeiaa
open Go Go.RowKit

/-- What is below N is as it was, and the cache lies above. -/
structure Kpt (W w : World) (g b : Nat) : Prop where
  bel : Below W.heap.size W w
  g : W.heap.size ≤ g
  b : W.heap.size ≤ b
theorem Kpt.grown {W w w' : World} {g b : Nat} (h : Kpt W w g b) (k : Grown2 w w' g b) : Kpt W w' g b :=
  ⟨⟨k.os.trans h.bel.os, k.tape.trans h.bel.tape, k.output.trans h.bel.output, Nat.le_trans h.bel.size k.size, fun i hi => (k.block i (Nat.lt_of_lt_of_le hi h.bel.size) (by have := h.g; omega) (by have := h.b; omega)).trans (h.bel.block i hi)⟩, h.g, h.b⟩
theorem Kpt.below {W w w' : World} {g b : Nat} (h : Kpt W w g b) (k : Below w.heap.size w w') : Kpt W w' g b := ⟨below_then h.bel k, h.g, h.b⟩
theorem FrS.form {T : Nat → Prop} {w : World} {v : Value} {L : List (List Int)} (h : FrS T w v L) : ∃ A c, v = .slice A L.length c := by
  obtain ⟨vs, h1, _, h2⟩ := h
  obtain ⟨A, c, rfl, _⟩ := h1.rd
  exact ⟨A, c, by rw [h2.len]⟩

/-- A cache of one neighbour, that is asked; or of none. -/
def AS (to ip : Int) (k : Nat) (st : Option (Int × Int)) (last : Int) : Ar :=
  match st with
  | some (a, t) => ⟨5, ip, last, 0, [(to, ⟨false, 0, a, t, List.replicate k [1]⟩)]⟩
  | none => ⟨5, ip, last, k, []⟩
/-- So many were sent. -/
def AS0 (to ip : Int) (i : Nat) : Ar := if i = 0 then newA 5 ip else AS to ip i (some (0, 1)) 0
theorem as0_send (to ip : Int) (i : Nat) (hi : i < 4) : ((AS0 to ip i).send to [1] 0).1 = AS0 to ip (i + 1) := by
  have hw : ∀ s : Ar, s.last = 0 → s.wrong 0 = 0 := fun s h => by unfold Ar.wrong; rw [if_neg (by omega), if_neg (by omega)]
  by_cases h0 : i = 0
  · subst h0
    simp [AS0, newA, Ar.send, Ar.wrong, Ar.at, Ar.send2, lookK, Ar.room, AS, putK, delK, insK]
  · have h1 : ¬ (List.replicate i ([1] : List Int)).length = 4 := by simp; omega
    simp only [AS0, if_neg h0, AS, Ar.send]
    rw [if_neg (by rw [hw _ rfl]; decide)]
    simp only [Ar.at, Ar.send2]
    rw [if_neg (by simp)]
    simp [lookK, putK, delK, insK, List.replicate_succ']
    rw [if_neg (by omega)]
def AOk (st : Option (Int × Int)) (now asked : Int) : Prop :=
  match st with
  | some (a, t) => 0 ≤ a ∧ a ≤ now ∧ 1 ≤ t ∧ t ≤ 3 ∧ asked = t ∧ now - a < 10 ∧ (t = 1 → a = 0)
  | none => asked = 3
theorem asks_tick {to ip : Int} {k : Nat} {st : Option (Int × Int)} {last asked now : Int} (h : AOk st last asked) (h0 : 0 ≤ last) (h1 : last ≤ now) (h2 : now ≤ 1099511627776) :
    ∃ st' fs, (AS to ip k st last).tick now = (AS to ip k st' now, fs, 0) ∧ (fs.length = 0 ∨ fs.length = 1) ∧ AOk st' now (asked + fs.length) := by
  have hw : ∀ s : Ar, s.last = last → s.wrong now = 0 := fun s h => by unfold Ar.wrong; rw [if_neg (by omega), if_neg (by omega)]
  unfold Ar.tick
  cases st with
  | none =>
    refine ⟨none, [], ?_, .inl rfl, ?_⟩
    · rw [if_neg (by rw [hw _ rfl]; decide)]
      simp [AS, tickL]
    · simpa [AOk] using h
  | some p =>
    obtain ⟨a, t⟩ := p
    obtain ⟨x1, x2, x3, x4, x5, x6, x7⟩ := h
    rw [if_neg (by rw [hw _ rfl]; decide)]
    simp only [AS, tickL_one]
    by_cases h10 : 10 ≤ now - a
    · by_cases h3 : 3 ≤ t
      · refine ⟨none, [], ?_, .inl rfl, ?_⟩
        · simp [h10, h3]
        · simp only [AOk, List.length_nil]
          omega
      · refine ⟨some (now, t + 1), [(⟨5, ip, last, 0, []⟩ : Ar).arpF 1 281474976710655 0 to], ?_, .inr rfl, ?_⟩
        · simp [h10, h3, Ar.arpF]
        · simp only [AOk, List.length_singleton]
          omega
    · refine ⟨some (a, t), [], ?_, .inl rfl, ?_⟩
      · simp [h10]
      · simp only [AOk, List.length_nil]
        omega
theorem as_facts (to ip : Int) (k : Nat) (st : Option (Int × Int)) (last : Int) : (AS to ip k st last).m.length = (if st.isSome then 1 else 0) ∧ (AS to ip k st last).lost = (if st.isSome then 0 else (k : Int)) ∧ (AS to ip k st last).last = last := by
  cases st with
  | none => exact ⟨rfl, rfl, rfl⟩
  | some p => exact ⟨rfl, rfl, rfl⟩
end Go.Proofs.Ytebfoigbiekeiaa
