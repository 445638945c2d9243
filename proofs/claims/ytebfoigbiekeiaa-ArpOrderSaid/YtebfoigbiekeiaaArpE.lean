/-
  LAYER 9, WALKS: slices.Clone at [][]byte; frames in memory.
-/
import Derived.Test.YtebfoigbiekeiaaArpD
import Derived.Test.YtebfoigbiekeiaaAppV
set_option linter.unusedVariables false
set_option linter.unusedSimpArgs false
namespace Go.Proofs.Ytebfoigbiekeiaa
open Go Go.RowKit

theorem elemF : ElemV Try.prog 22 31 (.slice none 0 0) 24 := ElemV.mk' Try.underlying22 (by kernel_rfl)
theorem OwnV.nil (w : World) (base : Nat) (e : TypeId) : OwnV w base e (.slice none 0 0) [] := World.ownsRow_nil _ _ _ _
theorem RdV.none {w : World} {vs : List Value} (h : RdV w none vs) : vs = [] := by
  cases vs with
  | nil => rfl
  | cons x xs => obtain ⟨b, o, e, _⟩ := h.at_ 0 (by simp); cases e
set_option maxHeartbeats 800000 in
theorem cloneV_calls (c n : Nat) (A : Option Addr) (xs : List Value) (hn : xs.length = n) (w : World) (hR : RdV w A xs) (h1 : ∀ u ∈ xs, u.oneCell' = true) (hA : A = none → c = 0) (hl : n ≤ 100000) :
    Calls Try.prog 33 #[.slice A n c] w fun e w' => ∃ v, e = .returned v ∧ OwnV w' w.heap.size 31 v xs ∧ Below w.heap.size w w' := by
  cases A with
  | none =>
    have hc := hA rfl
    subst hc
    have hx := hR.none
    subst hx
    simp at hn
    subst hn
    have he := fun (w : World) => eql_nil (P := Try.prog) w 22 31 none 0 0 Try.underlying22
    go_enter Try.func33, Try.ntmps33
    go_wp2
    go_ret
    exact ⟨_, rfl, OwnV.nil _ _ _, Below.refl _ _⟩
  | some ad =>
    have he := fun (w : World) => eql_nil (P := Try.prog) w 22 31 (some ad) n c Try.underlying22
    have HR := hid hR; clear hR
    have HN := hid hn; clear hn
    have H1 := hid h1; clear h1
    go_enter Try.func33, Try.ntmps33
    go_wp2_with (at_builtin; refine hold ?_)
    refine hid ?_
    refine wpList_appV rfl _ _ 22 31 (.slice none 0 0) rfl 24 rfl elemF w.heap.size _ [] rfl (OwnV.lit w 31 w.heap.size (Nat.le_refl _) [] #[] 0 rfl rfl (by decide)) (some ad) c n xs rfl HN.out (by simp) (HR.out.below ((Below.refl _ _).alloc (Nat.le_refl _) _)) H1.out (by simp; omega) (by simp [maxLen]; omega) (by simp) ?_
    intro v1 w1 ho1 hg1 _
    have hb1 : Below w.heap.size w w1 := below_own ((Below.refl _ _).alloc (Nat.le_refl _) _) hg1 (fun g hg => Nat.le_of_eq (Option.some.inj hg))
    rw [List.nil_append] at ho1
    clear hg1
    go_wp2
    go_ret
    exact ⟨_, rfl, ho1, hb1⟩
/-- A row of bytes of the caller's own, in a block of T. -/
def OwnS (T : Nat → Prop) (w : World) (v : Value) (x : List Int) : Prop := Own w 0 5 .u8 v x ∧ ∀ q, v.ownBlock = some q → T q
def OwnsS (T : Nat → Prop) (w : World) : List Value → List (List Int) → Prop
  | [], [] => True
  | v :: vs, x :: xs => OwnS T w v x ∧ OwnsS T w vs xs
  | _, _ => False
/-- Frames, in blocks of T. -/
def FrS (T : Nat → Prop) (w : World) (v : Value) (L : List (List Int)) : Prop := ∃ vs, OwnV w 0 31 v vs ∧ (∀ q, v.ownBlock = some q → T q) ∧ OwnsS T w vs L
theorem ownsRow_base {w : World} {base b2 : Nat} {e : TypeId} {size : Nat} {v : Value} {n : Nat} {xs : List Value} (h : w.ownsRow base e size v n xs) (hb : b2 ≤ base) : w.ownsRow b2 e size v n xs := by
  refine ⟨h.1, ?_⟩
  rcases h.2 with h2 | ⟨g, cap, cur, h2, h3, h4⟩
  · exact .inl h2
  · exact .inr ⟨g, cap, cur, h2, Nat.le_trans hb h3, h4⟩
theorem Own.base {w : World} {base : Nat} {e : TypeId} {k : IntKind} {v : Value} {xs : List Int} (h : Own w base e k v xs) (b2 : Nat) (hb : b2 ≤ base) : Own w b2 e k v xs := ownsRow_base h hb
theorem OwnV.base {w : World} {base : Nat} {e : TypeId} {v : Value} {vs : List Value} (h : OwnV w base e v vs) (b2 : Nat) (hb : b2 ≤ base) : OwnV w b2 e v vs := ownsRow_base h hb
theorem OwnS.of {T : Nat → Prop} {w : World} {N : Nat} {v : Value} {x : List Int} (h : Own w N 5 .u8 v x) (hT : ∀ q, N ≤ q → q < w.heap.size → T q) : OwnS T w v x := ⟨h.base 0 (Nat.zero_le _), fun q hq => hT q (h.lt q hq).1 (h.lt q hq).2⟩
theorem OwnS.below {T : Nat → Prop} {w w' : World} {v : Value} {x : List Int} (h : OwnS T w v x) (hb : Below w.heap.size w w') : OwnS T w' v x := ⟨h.1.below hb, h.2⟩
theorem OwnS.kept {T : Nat → Prop} {w w' : World} {g : Nat} {v : Value} {x : List Int} (h : OwnS T w v x) (hg : w.grownBy w' (some g)) (hn : ¬ T g) : OwnS T w' v x := ⟨h.1.kept hg (by
  cases e : v.ownBlock with
  | none => exact .inl rfl
  | some q => exact .inr fun e2 => hn (by injection e2 with e2; subst e2; exact h.2 _ e)), h.2⟩
theorem OwnS.sub {T T' : Nat → Prop} {w : World} {v : Value} {x : List Int} (h : OwnS T w v x) (hs : ∀ q, T q → T' q) : OwnS T' w v x := ⟨h.1, fun q hq => hs q (h.2 q hq)⟩
theorem OwnS.one {T : Nat → Prop} {w : World} {v : Value} {x : List Int} (h : OwnS T w v x) : v.oneCell' = true := by
  rcases h.1.2 with ⟨rfl, _⟩ | ⟨g, cap, cur, rfl, _⟩ <;> rfl
theorem OwnsS.below {T : Nat → Prop} {w w' : World} (hb : Below w.heap.size w w') : ∀ {vs : List Value} {L : List (List Int)}, OwnsS T w vs L → OwnsS T w' vs L
  | [], [], _ => trivial
  | _ :: _, _ :: _, h => ⟨h.1.below hb, OwnsS.below hb h.2⟩
theorem OwnsS.kept {T : Nat → Prop} {w w' : World} {g : Nat} (hg : w.grownBy w' (some g)) (hn : ¬ T g) : ∀ {vs : List Value} {L : List (List Int)}, OwnsS T w vs L → OwnsS T w' vs L
  | [], [], _ => trivial
  | _ :: _, _ :: _, h => ⟨h.1.kept hg hn, OwnsS.kept hg hn h.2⟩
theorem OwnsS.sub {T T' : Nat → Prop} {w : World} (hs : ∀ q, T q → T' q) : ∀ {vs : List Value} {L : List (List Int)}, OwnsS T w vs L → OwnsS T' w vs L
  | [], [], _ => trivial
  | _ :: _, _ :: _, h => ⟨h.1.sub hs, OwnsS.sub hs h.2⟩
theorem OwnsS.len {T : Nat → Prop} {w : World} : ∀ {vs : List Value} {L : List (List Int)}, OwnsS T w vs L → vs.length = L.length
  | [], [], _ => rfl
  | _ :: _, _ :: _, h => by simp [OwnsS.len h.2]
theorem OwnsS.one {T : Nat → Prop} {w : World} : ∀ {vs : List Value} {L : List (List Int)}, OwnsS T w vs L → ∀ u ∈ vs, u.oneCell' = true
  | [], [], _, u, hu => by simp at hu
  | v :: vs, _ :: _, h, u, hu => by
    rcases List.mem_cons.1 hu with rfl | hu
    · exact h.1.one
    · exact OwnsS.one h.2 u hu
theorem OwnsS.append {T : Nat → Prop} {w : World} : ∀ {vs us : List Value} {L N : List (List Int)}, OwnsS T w vs L → OwnsS T w us N → OwnsS T w (vs ++ us) (L ++ N)
  | [], _, [], _, _, k => k
  | _ :: _, _, _ :: _, _, h, k => ⟨h.1, OwnsS.append h.2 k⟩
theorem OwnsS.at_ {T : Nat → Prop} {w : World} : ∀ {vs : List Value} {L : List (List Int)}, OwnsS T w vs L → ∀ i (hi : i < L.length), ∃ v, vs[i]? = some v ∧ OwnS T w v (L[i]'hi)
  | [], [], _, i, hi => by simp at hi
  | v :: vs, x :: L, h, 0, hi => ⟨v, rfl, h.1⟩
  | v :: vs, x :: L, h, i + 1, hi => by
    obtain ⟨u, hu, hs⟩ := OwnsS.at_ h.2 i (by simpa using hi)
    exact ⟨u, by simpa using hu, by simpa using hs⟩
theorem FrS.nil (T : Nat → Prop) (w : World) : FrS T w (.slice none 0 0) [] := ⟨[], OwnV.nil _ _ _, fun q hq => by simp [Value.ownBlock] at hq, trivial⟩
theorem FrS.below {T : Nat → Prop} {w w' : World} {v : Value} {L : List (List Int)} (h : FrS T w v L) (hb : Below w.heap.size w w') : FrS T w' v L := by
  obtain ⟨vs, h1, h2, h3⟩ := h
  exact ⟨vs, h1.below hb, h2, h3.below hb⟩
theorem FrS.kept {T : Nat → Prop} {w w' : World} {g : Nat} {v : Value} {L : List (List Int)} (h : FrS T w v L) (hg : w.grownBy w' (some g)) (hn : ¬ T g) : FrS T w' v L := by
  obtain ⟨vs, h1, h2, h3⟩ := h
  exact ⟨vs, h1.kept hg (by
    cases e : v.ownBlock with
    | none => exact .inl rfl
    | some q => exact .inr fun e2 => hn (by injection e2 with e2; subst e2; exact h2 _ e)), h2, h3.kept hg hn⟩
theorem FrS.sub {T T' : Nat → Prop} {w : World} {v : Value} {L : List (List Int)} (h : FrS T w v L) (hs : ∀ q, T q → T' q) : FrS T' w v L := by
  obtain ⟨vs, h1, h2, h3⟩ := h
  exact ⟨vs, h1, fun q hq => hs q (h2 q hq), h3.sub hs⟩
/-- All but two blocks is as it was. -/
structure Grown2 (w w' : World) (g b : Nat) : Prop where
  os : w'.os = w.os
  tape : w'.tape = w.tape
  output : w'.output = w.output
  size : w.heap.size ≤ w'.heap.size
  block : ∀ i, i < w.heap.size → i ≠ g → i ≠ b → w'.heap[i]? = w.heap[i]?
theorem Grown2.refl (w : World) (g b : Nat) : Grown2 w w g b := ⟨rfl, rfl, rfl, Nat.le_refl _, fun _ _ _ _ => rfl⟩
theorem Grown2.of_below {w w' : World} (g b : Nat) (h : Below w.heap.size w w') : Grown2 w w' g b := ⟨h.os, h.tape, h.output, h.size, fun i hi _ _ => h.block i hi⟩
theorem Grown2.of_left {w w' : World} {g : Nat} (b : Nat) (h : w.grownBy w' (some g)) : Grown2 w w' g b := ⟨h.os, h.tape, h.output, h.size, fun i hi h1 _ => h.block i hi (fun e => by injection e with e; exact h1 e)⟩
theorem Grown2.of_right {w w' : World} (g : Nat) {b : Nat} (h : w.grownBy w' (some b)) : Grown2 w w' g b := ⟨h.os, h.tape, h.output, h.size, fun i hi _ h1 => h.block i hi (fun e => by injection e with e; exact h1 e)⟩
theorem Grown2.trans {a b c : World} {g k : Nat} (h : Grown2 a b g k) (j : Grown2 b c g k) : Grown2 a c g k := ⟨j.os.trans h.os, j.tape.trans h.tape, j.output.trans h.output, Nat.le_trans h.size j.size, fun i hi h1 h2 => (j.block i (Nat.lt_of_lt_of_le hi h.size) h1 h2).trans (h.block i hi h1 h2)⟩
theorem Grown2.agree {w w' : World} {g b : Nat} {S : Nat → Prop} (h : Grown2 w w' g b) (hS : ∀ q, S q → q < w.heap.size) (hg : ¬ S g) (hb : ¬ S b) : Agree S w w' := ⟨h.size, fun q hq => h.block q (hS q hq) (fun e => hg (e ▸ hq)) (fun e => hb (e ▸ hq))⟩
/-- What a call makes of a cache, and of memory: frames, an error. -/
def Done (S : Nat → Prop) (g b : Nat) (f : Ar × List (List Int) × Int) (w : World) (e : Ending) (w' : World) : Prop :=
  ∃ (v : Value) (S' : Nat → Prop) (M' : List (Int × Value)), e = .returned (.tuple #[v, .int .i64 f.2.2]) ∧ CSt S' w' g b M' f.1 ∧ (∀ q, S' q → S q ∨ w.heap.size ≤ q) ∧ FrS (fun q => w.heap.size ≤ q ∧ ¬ S' q) w' v f.2.1 ∧ Grown2 w w' g b
end Go.Proofs.Ytebfoigbiekeiaa
