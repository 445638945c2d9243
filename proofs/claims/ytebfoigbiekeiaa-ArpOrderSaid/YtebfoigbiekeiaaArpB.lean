/-
  LAYER 9: a cache in memory: what is read within which blocks.
-/
import Derived.Test.YtebfoigbiekeiaaEthC
set_option linter.unusedVariables false
set_option linter.unusedSimpArgs false
namespace Go.Proofs.Ytebfoigbiekeiaa
open Go Go.RowKit

/-- All that lies in the blocks of S is as it was. -/
def Agree (S : Nat → Prop) (w w' : World) : Prop := w.heap.size ≤ w'.heap.size ∧ ∀ q, S q → w'.heap[q]? = w.heap[q]?
theorem Agree.of_below {S : Nat → Prop} {w w' : World} (h : Below w.heap.size w w') (hS : ∀ q, S q → q < w.heap.size) : Agree S w w' := ⟨h.size, fun q hq => h.block q (hS q hq)⟩
theorem Agree.of_grown {S : Nat → Prop} {w w' : World} {g : Nat} (h : w.grownBy w' (some g)) (hS : ∀ q, S q → q < w.heap.size) (hn : ¬ S g) : Agree S w w' := ⟨h.size, fun q hq => h.block q (hS q hq) (fun e => by injection e with e; subst e; exact hn hq)⟩
theorem Rd.agree {S : Nat → Prop} {w w' : World} {A : Option Addr} {xs : List Int} (h : Rd w .u8 A xs) (ha : Agree S w w') (hs : xs.length ≠ 0 → ∀ b o, A = some ⟨b, o, none⟩ → S b) : Rd w' .u8 A xs :=
  ⟨h.len, fun j hj => by
    obtain ⟨b, o, rfl, hl, hc⟩ := h.at_ j hj
    have he := ha.2 b (hs (by omega) b o rfl)
    exact ⟨b, o, rfl, Nat.lt_of_lt_of_le hl ha.1, by simp only [World.cell?, he] at hc ⊢; exact hc⟩⟩
theorem RdV.agree {S : Nat → Prop} {w w' : World} {A : Option Addr} {vs : List Value} (h : RdV w A vs) (ha : Agree S w w') (hs : vs.length ≠ 0 → ∀ b o, A = some ⟨b, o, none⟩ → S b) : RdV w' A vs :=
  ⟨fun j hj => by
    obtain ⟨b, o, rfl, hl, hc⟩ := h.at_ j hj
    have he := ha.2 b (hs (by omega) b o rfl)
    exact ⟨b, o, rfl, Nat.lt_of_lt_of_le hl ha.1, by simp only [World.cell?, he] at hc ⊢; exact hc⟩⟩
/-- A slice of the bytes x, that lie within S. -/
def SlS (S : Nat → Prop) (w : World) (v : Value) (x : List Int) : Prop := ∃ A c, v = .slice A x.length c ∧ Rd w .u8 A x ∧ (A = none → c = 0) ∧ (x.length ≠ 0 → ∀ b o, A = some ⟨b, o, none⟩ → S b)
def SlsS (S : Nat → Prop) (w : World) : List Value → List (List Int) → Prop
  | [], [] => True
  | v :: vs, x :: xs => SlS S w v x ∧ SlsS S w vs xs
  | _, _ => False
theorem SlS.agree {S : Nat → Prop} {w w' : World} {v : Value} {x : List Int} (h : SlS S w v x) (ha : Agree S w w') : SlS S w' v x := by
  obtain ⟨A, c, h1, h2, h3, h4⟩ := h
  exact ⟨A, c, h1, h2.agree ha h4, h3, h4⟩
theorem SlS.sub {S T : Nat → Prop} {w : World} {v : Value} {x : List Int} (h : SlS S w v x) (hs : ∀ q, S q → T q) : SlS T w v x := by
  obtain ⟨A, c, h1, h2, h3, h4⟩ := h
  exact ⟨A, c, h1, h2, h3, fun a b o e => hs _ (h4 a b o e)⟩
theorem SlS.one {S : Nat → Prop} {w : World} {v : Value} {x : List Int} (h : SlS S w v x) : v.oneCell' = true := by
  obtain ⟨A, c, rfl, _⟩ := h
  rfl
theorem SlsS.agree {S : Nat → Prop} {w w' : World} (ha : Agree S w w') : ∀ {vs : List Value} {L : List (List Int)}, SlsS S w vs L → SlsS S w' vs L
  | [], [], _ => trivial
  | _ :: _, _ :: _, h => ⟨h.1.agree ha, SlsS.agree ha h.2⟩
theorem SlsS.sub {S T : Nat → Prop} {w : World} (hs : ∀ q, S q → T q) : ∀ {vs : List Value} {L : List (List Int)}, SlsS S w vs L → SlsS T w vs L
  | [], [], _ => trivial
  | _ :: _, _ :: _, h => ⟨h.1.sub hs, SlsS.sub hs h.2⟩
theorem SlsS.len {S : Nat → Prop} {w : World} : ∀ {vs : List Value} {L : List (List Int)}, SlsS S w vs L → vs.length = L.length
  | [], [], _ => rfl
  | _ :: _, _ :: _, h => by simp [SlsS.len h.2]
theorem SlsS.one {S : Nat → Prop} {w : World} : ∀ {vs : List Value} {L : List (List Int)}, SlsS S w vs L → ∀ u ∈ vs, u.oneCell' = true
  | [], [], _, u, hu => by simp at hu
  | v :: vs, _ :: _, h, u, hu => by
    rcases List.mem_cons.1 hu with rfl | hu
    · exact h.1.one
    · exact SlsS.one h.2 u hu
theorem SlsS.append {S : Nat → Prop} {w : World} : ∀ {vs us : List Value} {L N : List (List Int)}, SlsS S w vs L → SlsS S w us N → SlsS S w (vs ++ us) (L ++ N)
  | [], _, [], _, _, k => k
  | _ :: _, _, _ :: _, _, h, k => ⟨h.1, SlsS.append h.2 k⟩
theorem SlsS.at_ {S : Nat → Prop} {w : World} : ∀ {vs : List Value} {L : List (List Int)}, SlsS S w vs L → ∀ i (hi : i < L.length), ∃ v, vs[i]? = some v ∧ SlS S w v (L[i]'hi)
  | [], [], _, i, hi => by simp at hi
  | v :: vs, x :: L, h, 0, hi => ⟨v, rfl, h.1⟩
  | v :: vs, x :: L, h, i + 1, hi => by
    obtain ⟨u, hu, hs⟩ := SlsS.at_ h.2 i (by simpa using hi)
    exact ⟨u, by simpa using hu, by simpa using hs⟩
/-- What waits for a neighbour. -/
structure WaitS (S : Nat → Prop) (w : World) (A : Option Addr) (n c : Nat) (L : List (List Int)) : Prop where
  vs : ∃ vs : List Value, vs.length = n ∧ RdV w A vs ∧ SlsS S w vs L
  nil : A = none → c = 0
  blk : n ≠ 0 → ∀ b o, A = some ⟨b, o, none⟩ → S b
theorem WaitS.len {S : Nat → Prop} {w : World} {A : Option Addr} {n c : Nat} {L : List (List Int)} (h : WaitS S w A n c L) : n = L.length := by
  obtain ⟨vs, h1, _, h3⟩ := h.vs
  rw [← h1, h3.len]
theorem WaitS.agree {S : Nat → Prop} {w w' : World} {A : Option Addr} {n c : Nat} {L : List (List Int)} (h : WaitS S w A n c L) (ha : Agree S w w') : WaitS S w' A n c L := by
  obtain ⟨vs, h1, h2, h3⟩ := h.vs
  exact ⟨⟨vs, h1, h2.agree ha (by rw [h1]; exact h.blk), h3.agree ha⟩, h.nil, h.blk⟩
theorem WaitS.sub {S T : Nat → Prop} {w : World} {A : Option Addr} {n c : Nat} {L : List (List Int)} (h : WaitS S w A n c L) (hs : ∀ q, S q → T q) : WaitS T w A n c L := by
  obtain ⟨vs, h1, h2, h3⟩ := h.vs
  exact ⟨⟨vs, h1, h2, h3.sub hs⟩, h.nil, fun a b o e => hs _ (h.blk a b o e)⟩
theorem WaitS.none (S : Nat → Prop) (w : World) : WaitS S w none 0 0 [] := ⟨⟨[], rfl, ⟨fun j hj => by simp at hj⟩, trivial⟩, fun _ => rfl, fun h => absurd rfl h⟩
/-- A neighbour. -/
def EnS (S : Nat → Prop) (w : World) (v : Value) (e : En) : Prop := ∃ A n c, v = .agg #[.bool e.known, .int .u64 e.mac, .int .i64 e.at_, .int .i64 e.tries, .slice A n c] ∧ WaitS S w A n c e.wait
theorem EnS.agree {S : Nat → Prop} {w w' : World} {v : Value} {e : En} (h : EnS S w v e) (ha : Agree S w w') : EnS S w' v e := by
  obtain ⟨A, n, c, h1, h2⟩ := h
  exact ⟨A, n, c, h1, h2.agree ha⟩
theorem EnS.sub {S T : Nat → Prop} {w : World} {v : Value} {e : En} (h : EnS S w v e) (hs : ∀ q, S q → T q) : EnS T w v e := by
  obtain ⟨A, n, c, h1, h2⟩ := h
  exact ⟨A, n, c, h1, h2.sub hs⟩
def EnsS (S : Nat → Prop) (w : World) : List (Int × Value) → List (Int × En) → Prop
  | [], [] => True
  | (k, v) :: M, (k', e) :: m => k = k' ∧ EnS S w v e ∧ EnsS S w M m
  | _, _ => False
theorem EnsS.agree {S : Nat → Prop} {w w' : World} (ha : Agree S w w') : ∀ {M : List (Int × Value)} {m : List (Int × En)}, EnsS S w M m → EnsS S w' M m
  | [], [], _ => trivial
  | _ :: _, _ :: _, h => ⟨h.1, h.2.1.agree ha, EnsS.agree ha h.2.2⟩
theorem EnsS.sub {S T : Nat → Prop} {w : World} (hs : ∀ q, S q → T q) : ∀ {M : List (Int × Value)} {m : List (Int × En)}, EnsS S w M m → EnsS T w M m
  | [], [], _ => trivial
  | _ :: _, _ :: _, h => ⟨h.1, h.2.1.sub hs, EnsS.sub hs h.2.2⟩
theorem EnsS.keys {S : Nat → Prop} {w : World} : ∀ {M : List (Int × Value)} {m : List (Int × En)}, EnsS S w M m → M.map (·.1) = m.map (·.1)
  | [], [], _ => rfl
  | (k, v) :: M, (k', e) :: m, h => by
    obtain ⟨rfl, _, h2⟩ := h
    simp [EnsS.keys h2]
theorem EnsS.len {S : Nat → Prop} {w : World} {M : List (Int × Value)} {m : List (Int × En)} (h : EnsS S w M m) : M.length = m.length := by
  have := congrArg List.length h.keys
  simpa using this
theorem EnsS.look {S : Nat → Prop} {w : World} {x : Int} : ∀ {M : List (Int × Value)} {m : List (Int × En)}, EnsS S w M m → (lookK x M = none ∧ lookK x m = none) ∨ (∃ v e, lookK x M = some v ∧ lookK x m = some e ∧ EnS S w v e)
  | [], [], _ => .inl ⟨rfl, rfl⟩
  | (k, v) :: M, (k', e) :: m, h => by
    obtain ⟨rfl, h1, h2⟩ := h
    simp only [lookK]
    by_cases hk : k = x
    · rw [if_pos hk, if_pos hk]; exact .inr ⟨v, e, rfl, rfl, h1⟩
    · rw [if_neg hk, if_neg hk]; exact EnsS.look h2
theorem EnsS.del {S : Nat → Prop} {w : World} {x : Int} : ∀ {M : List (Int × Value)} {m : List (Int × En)}, EnsS S w M m → EnsS S w (delK x M) (delK x m)
  | [], [], _ => trivial
  | (k, v) :: M, (k', e) :: m, h => by
    obtain ⟨rfl, h1, h2⟩ := h
    simp only [delK]
    by_cases hk : k = x
    · rw [if_pos hk, if_pos hk]; exact EnsS.del h2
    · rw [if_neg hk, if_neg hk]; exact ⟨rfl, h1, EnsS.del h2⟩
theorem EnsS.ins {S : Nat → Prop} {w : World} {x : Int} {u : Value} {f : En} (hu : EnS S w u f) : ∀ {M : List (Int × Value)} {m : List (Int × En)}, EnsS S w M m → EnsS S w (insK x u M) (insK x f m)
  | [], [], _ => ⟨rfl, hu, trivial⟩
  | (k, v) :: M, (k', e) :: m, h => by
    obtain ⟨rfl, h1, h2⟩ := h
    simp only [insK]
    by_cases hk : x < k
    · rw [if_pos hk, if_pos hk]; exact ⟨rfl, hu, rfl, h1, h2⟩
    · rw [if_neg hk, if_neg hk]; exact ⟨rfl, h1, EnsS.ins hu h2⟩
theorem EnsS.put {S : Nat → Prop} {w : World} {x : Int} {u : Value} {f : En} (hu : EnS S w u f) {M : List (Int × Value)} {m : List (Int × En)} (h : EnsS S w M m) : EnsS S w (putK x u M) (putK x f m) := EnsS.ins hu h.del
theorem EnsS.rising {S : Nat → Prop} {w : World} {M : List (Int × Value)} {m : List (Int × En)} (h : EnsS S w M m) (hr : Rising M) : Rising m := by
  unfold Rising at *
  have h1 : (M.map (·.1)).Pairwise (· < ·) := List.pairwise_map.2 hr
  rw [h.keys] at h1
  exact List.pairwise_map.1 h1
/-- Block g is a cache, its map block b; what waits lies within S. -/
structure CSt (S : Nat → Prop) (w : World) (g b : Nat) (M : List (Int × Value)) (s : Ar) : Prop where
  blk : w.heap[g]? = some (.cells #[.int .u64 s.mac, .int .u32 s.ip, .int .i64 s.last, .map (some b), .int .i64 s.lost] 72 (0, 0))
  map : MapAt w Try.prog 28 b M
  ent : EnsS S w M s.m
  ok : s.Ok
  sl : ∀ q, S q → q < w.heap.size
  ng : ¬ S g
  nb : ¬ S b
theorem CSt.ne {S : Nat → Prop} {w : World} {g b : Nat} {M : List (Int × Value)} {s : Ar} (h : CSt S w g b M s) : g ≠ b := fun e => by
  subst e
  obtain ⟨es, clock, h1, _⟩ := h.map.1
  rw [h.blk] at h1
  cases h1
theorem CSt.lt {S : Nat → Prop} {w : World} {g b : Nat} {M : List (Int × Value)} {s : Ar} (h : CSt S w g b M s) : g < w.heap.size := lt_of_block h.blk
theorem CSt.agree {S : Nat → Prop} {w w' : World} {g b : Nat} {M : List (Int × Value)} {s : Ar} (h : CSt S w g b M s) (ha : Agree S w w') (hg : w'.heap[g]? = w.heap[g]?) (hb : w'.heap[b]? = w.heap[b]?) : CSt S w' g b M s :=
  ⟨hg.trans h.blk, h.map.keep hb, h.ent.agree ha, h.ok, fun q hq => Nat.lt_of_lt_of_le (h.sl q hq) ha.1, h.ng, h.nb⟩
theorem CSt.below {S : Nat → Prop} {w w' : World} {g b : Nat} {M : List (Int × Value)} {s : Ar} (h : CSt S w g b M s) (hb : Below w.heap.size w w') : CSt S w' g b M s :=
  h.agree (Agree.of_below hb h.sl) (hb.block g h.lt) (hb.block b h.map.lt)
theorem CSt.cells {S : Nat → Prop} {w : World} {g b : Nat} {M : List (Int × Value)} {s : Ar} (h : CSt S w g b M s) : w.cell? ⟨g, 0, none⟩ = some (.int .u64 s.mac) ∧ w.cell? ⟨g, 1, none⟩ = some (.int .u32 s.ip) ∧ w.cell? ⟨g, 2, none⟩ = some (.int .i64 s.last) ∧ w.cell? ⟨g, 3, none⟩ = some (.map (some b)) ∧ w.cell? ⟨g, 4, none⟩ = some (.int .i64 s.lost) :=
  ⟨cellOf h.blk rfl, cellOf h.blk rfl, cellOf h.blk rfl, cellOf h.blk rfl, cellOf h.blk rfl⟩
end Go.Proofs.Ytebfoigbiekeiaa
