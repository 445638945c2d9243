/-
  LAYER 15: each deed, whatever its numbers, on the path and on the reference's path; both at once.
-/
import Derived.Test.YtopcokjfgldblaaPathD
import Derived.Test.YtopcokjfgldblaaPathE
import Derived.Test.YtopcokjfgldblaaPathH
set_option linter.unusedVariables false
set_option linter.unusedSimpArgs false
namespace Go.Proofs.Ytopcokjfgldblaa
open Go.RowKit

def tickB (t : Int) : Bool := decide (0 ≤ t) && decide (t ≤ 1099511627776)
def sendB (b f : Int) : Bool := decide (0 ≤ b) && decide (b ≤ 8192) && decide (0 ≤ f) && decide (f ≤ 8192)
def sampV (t : Int) : Int := if tickB t = true then 0 else 2
def sampQ (t : Int) (p : PR) : PR := if tickB t = true then sampP t p else p
def growV (b f : Int) : Int := if sendB b f = true then 0 else 2
def growQ (b : Int) (m : Bool) (f : Int) (p : PR) : PR := if sendB b f = true then growP b m f p else p
def beatQ (nonce t : Int) (p : PR) : PR := if tickB t = true then beatP nonce t p else p
def answV (nonce t : Int) (p : PR) : Bool := tickB t && answB nonce t p
def answQ (nonce t : Int) (p : PR) : PR := if tickB t = true then answP nonce t p else p
theorem tickB_t {t : Int} (h : tickB t = true) : 0 ≤ t ∧ t ≤ 1099511627776 := by simpa [tickB] using h
theorem tickB_f {t : Int} (h : ¬ tickB t = true) : t < 0 ∨ 1099511627776 < t := by simp [tickB] at h; omega
theorem sendB_t {b f : Int} (h : sendB b f = true) : 0 ≤ b ∧ b ≤ 8192 ∧ 0 ≤ f ∧ f ≤ 8192 := by simp [sendB] at h; omega
theorem sendB_f {b f : Int} (h : ¬ sendB b f = true) : b < 0 ∨ 8192 < b ∨ f < 0 ∨ 8192 < f := by simp [sendB] at h; omega

theorem samp_any (g : Nat) (p : PR) (w : World) (n t : Int) (ok : p.Ok n) (h : IsP w g 65 p) :
    Calls Try.prog 12 #[.pointer (some ⟨g, 0, none⟩), .int .i64 t] w fun e w' => e = .returned (.int .i64 (sampV t)) ∧ IsP w' g 65 (sampQ t p) ∧ w.grownBy w' (some g) := by
  unfold sampV sampQ
  by_cases ht : tickB t = true
  · rw [if_pos ht, if_pos ht]
    exact samp_calls g p w n t ok h (tickB_t ht).1 (tickB_t ht).2
  · rw [if_neg ht, if_neg ht]
    exact (samp_bad g w t (tickB_f ht)).mono fun e w' ⟨he, hw⟩ => ⟨he, hw ▸ h, hw ▸ World.grownBy.refl _ _⟩
theorem grow_any (g : Nat) (p : PR) (w : World) (n b f : Int) (m : Bool) (ok : p.Ok n) (h : IsP w g 65 p) :
    Calls Try.prog 18 #[.pointer (some ⟨g, 0, none⟩), .int .i64 b, .bool m, .int .i64 f] w fun e w' => e = .returned (.int .i64 (growV b f)) ∧ IsP w' g 65 (growQ b m f p) ∧ w.grownBy w' (some g) := by
  unfold growV growQ
  by_cases ht : sendB b f = true
  · rw [if_pos ht, if_pos ht]
    obtain ⟨a0, a1, a2, a3⟩ := sendB_t ht
    exact grow_calls g p w n ok h b f m a0 a1 a2 a3
  · rw [if_neg ht, if_neg ht]
    exact (grow_bad g w b f m (sendB_f ht)).mono fun e w' ⟨he, hw⟩ => ⟨he, hw ▸ h, hw ▸ World.grownBy.refl _ _⟩
theorem beat_any (g : Nat) (p : PR) (w : World) (nonce t : Int) (h : IsP w g 65 p) :
    Calls Try.prog 23 #[.pointer (some ⟨g, 0, none⟩), .int .u64 nonce, .int .i64 t] w fun e w' => e = .returned (.int .i64 (sampV t)) ∧ IsP w' g 65 (beatQ nonce t p) ∧ w.grownBy w' (some g) := by
  unfold sampV beatQ
  by_cases ht : tickB t = true
  · rw [if_pos ht, if_pos ht]
    exact beat_calls g p w nonce t h (tickB_t ht).1 (tickB_t ht).2
  · rw [if_neg ht, if_neg ht]
    exact (beat_bad g w nonce t (tickB_f ht)).mono fun e w' ⟨he, hw⟩ => ⟨he, hw ▸ h, hw ▸ World.grownBy.refl _ _⟩
theorem answ_any (g : Nat) (p : PR) (w : World) (n nonce t : Int) (ok : p.Ok n) (h : IsP w g 65 p) :
    Calls Try.prog 24 #[.pointer (some ⟨g, 0, none⟩), .int .u64 nonce, .int .i64 t] w fun e w' => e = .returned (.tuple #[.bool (answV nonce t p), .int .i64 (sampV t)]) ∧ IsP w' g 65 (answQ nonce t p) ∧ w.grownBy w' (some g) := by
  unfold sampV answQ answV
  by_cases ht : tickB t = true
  · rw [if_pos ht, if_pos ht, ht, Bool.true_and]
    exact answ_calls g p w n ok h nonce t (tickB_t ht).1 (tickB_t ht).2
  · rw [if_neg ht, if_neg ht, Bool.eq_false_iff.2 ht, Bool.false_and]
    exact (answ_bad g w nonce t (tickB_f ht)).mono fun e w' ⟨he, hw⟩ => ⟨he, hw ▸ h, hw ▸ World.grownBy.refl _ _⟩

theorem rsamp_any (g : Nat) (p : PR) (w : World) (n t : Int) (ok : p.Ok n) (h : IsP w g 61 p) :
    Calls Try.prog 29 #[.pointer (some ⟨g, 0, none⟩), .int .i64 t] w fun e w' => e = .returned (.int .i64 (sampV t)) ∧ IsP w' g 61 (sampQ t p) ∧ w.grownBy w' (some g) := by
  unfold sampV sampQ
  by_cases ht : tickB t = true
  · rw [if_pos ht, if_pos ht]
    exact rsamp_calls g p w n ok h t (tickB_t ht).1 (tickB_t ht).2
  · rw [if_neg ht, if_neg ht]
    exact (rsamp_bad g w 0 t (tickB_f ht)).mono fun e w' ⟨he, hw⟩ => ⟨he, hw ▸ h, hw ▸ World.grownBy.refl _ _⟩
theorem rgrow_any (g : Nat) (p : PR) (w : World) (n b f : Int) (m : Bool) (ok : p.Ok n) (h : IsP w g 61 p) :
    Calls Try.prog 30 #[.pointer (some ⟨g, 0, none⟩), .int .i64 b, .bool m, .int .i64 f] w fun e w' => e = .returned (.int .i64 (growV b f)) ∧ IsP w' g 61 (growQ b m f p) ∧ w.grownBy w' (some g) := by
  unfold growV growQ
  by_cases ht : sendB b f = true
  · rw [if_pos ht, if_pos ht]
    obtain ⟨a0, a1, a2, a3⟩ := sendB_t ht
    exact rgrow_calls g p w n ok h b f m a0 a1 a2 a3
  · rw [if_neg ht, if_neg ht]
    exact (rgrow_bad g w b f m (sendB_f ht)).mono fun e w' ⟨he, hw⟩ => ⟨he, hw ▸ h, hw ▸ World.grownBy.refl _ _⟩
theorem rbeat_any (g : Nat) (p : PR) (w : World) (nonce t : Int) (h : IsP w g 61 p) :
    Calls Try.prog 35 #[.pointer (some ⟨g, 0, none⟩), .int .u64 nonce, .int .i64 t] w fun e w' => e = .returned (.int .i64 (sampV t)) ∧ IsP w' g 61 (beatQ nonce t p) ∧ w.grownBy w' (some g) := by
  unfold sampV beatQ
  by_cases ht : tickB t = true
  · rw [if_pos ht, if_pos ht]
    exact rbeat_calls g p w h nonce t (tickB_t ht).1 (tickB_t ht).2
  · rw [if_neg ht, if_neg ht]
    exact (rbeat_bad g w nonce t (tickB_f ht)).mono fun e w' ⟨he, hw⟩ => ⟨he, hw ▸ h, hw ▸ World.grownBy.refl _ _⟩
theorem ransw_any (g : Nat) (p : PR) (w : World) (n nonce t : Int) (ok : p.Ok n) (h : IsP w g 61 p) :
    Calls Try.prog 36 #[.pointer (some ⟨g, 0, none⟩), .int .u64 nonce, .int .i64 t] w fun e w' => e = .returned (.tuple #[.bool (answV nonce t p), .int .i64 (sampV t)]) ∧ IsP w' g 61 (answQ nonce t p) ∧ w.grownBy w' (some g) := by
  unfold sampV answQ answV
  by_cases ht : tickB t = true
  · rw [if_pos ht, if_pos ht, ht, Bool.true_and]
    exact ransw_calls g p w n ok h nonce t (tickB_t ht).1 (tickB_t ht).2
  · rw [if_neg ht, if_neg ht, Bool.eq_false_iff.2 ht, Bool.false_and]
    exact (ransw_bad g w nonce t (tickB_f ht)).mono fun e w' ⟨he, hw⟩ => ⟨he, hw ▸ h, hw ▸ World.grownBy.refl _ _⟩

/-- Blocks gx and gy, and what is new, may have turned; nothing else. -/
structure Grow2 (a b : World) (gx gy : Nat) : Prop where
  os : b.os = a.os
  tape : b.tape = a.tape
  output : b.output = a.output
  size : a.heap.size ≤ b.heap.size
  block : ∀ i, i < a.heap.size → i ≠ gx → i ≠ gy → b.heap[i]? = a.heap[i]?
theorem Grow2.refl (a : World) (gx gy : Nat) : Grow2 a a gx gy := ⟨rfl, rfl, rfl, Nat.le_refl _, fun _ _ _ _ => rfl⟩
theorem Grow2.trans {a b c : World} {gx gy : Nat} (h : Grow2 a b gx gy) (k : Grow2 b c gx gy) : Grow2 a c gx gy :=
  ⟨k.os.trans h.os, k.tape.trans h.tape, k.output.trans h.output, Nat.le_trans h.size k.size, fun i hi h1 h2 => (k.block i (Nat.lt_of_lt_of_le hi h.size) h1 h2).trans (h.block i hi h1 h2)⟩
theorem Grow2.ofX {a b : World} {gx gy : Nat} (h : a.grownBy b (some gx)) : Grow2 a b gx gy := ⟨h.os, h.tape, h.output, h.size, fun i hi h1 _ => h.block i hi (fun e => h1 (by injection e))⟩
theorem Grow2.ofY {a b : World} {gx gy : Nat} (h : a.grownBy b (some gy)) : Grow2 a b gx gy := ⟨h.os, h.tape, h.output, h.size, fun i hi _ h2 => h.block i hi (fun e => h2 (by injection e))⟩
theorem Grow2.ofBelow {a b : World} {gx gy : Nat} (h : Below a.heap.size a b) : Grow2 a b gx gy := ⟨h.os, h.tape, h.output, h.size, fun i hi _ _ => h.block i hi⟩
theorem Grow2.below {a b : World} {gx gy B : Nat} (h : Grow2 a b gx gy) (hx : B ≤ gx) (hy : B ≤ gy) (hB : B ≤ a.heap.size) : Below B a b := ⟨h.os, h.tape, h.output, h.size, fun i hi => h.block i (by omega) (by omega) (by omega)⟩
theorem Grow2.drewN {a b : World} {gx gy : Nat} (h : Grow2 a b gx gy) (n : Nat) : Grow2 a (b.drewN n) gx gy := ⟨h.os, h.tape, h.output, h.size, h.block⟩
theorem Grow2.drew {a b : World} {gx gy : Nat} (h : Grow2 a b gx gy) : Grow2 a b.drew gx gy := ⟨h.os, h.tape, h.output, h.size, h.block⟩
/-- The path (block gx) is px, the reference's (block gy) is py; since W0 nothing else has turned. -/
structure Pair (w : World) (gx gy : Nat) (W0 : World) (px py : PR) : Prop where
  x : IsP w gx 65 px
  y : IsP w gy 61 py
  ne : gx ≠ gy
  grow : Grow2 W0 w gx gy
theorem Pair.drew {w W0 : World} {gx gy : Nat} {px py : PR} (h : Pair w gx gy W0 px py) : Pair w.drew gx gy W0 px py := ⟨h.x, h.y, h.ne, h.grow.drew⟩
theorem Pair.drewN {w W0 : World} {gx gy : Nat} {px py : PR} (h : Pair w gx gy W0 px py) (n : Nat) : Pair (w.drewN n) gx gy W0 px py := ⟨h.x, h.y, h.ne, h.grow.drewN n⟩
theorem Pair.rebase {w W0 : World} {gx gy : Nat} {px py : PR} (h : Pair w gx gy W0 px py) (W : World) (hg : Grow2 W W0 gx gy) : Pair w gx gy W px py := ⟨h.x, h.y, h.ne, hg.trans h.grow⟩
theorem Pair.self {w W0 : World} {gx gy : Nat} {px py : PR} (h : Pair w gx gy W0 px py) : Pair w gx gy w px py := ⟨h.x, h.y, h.ne, Grow2.refl _ _ _⟩
theorem Pair.below {w w' W0 : World} {gx gy : Nat} {px py : PR} (h : Pair w gx gy W0 px py) (hb : Below w.heap.size w w') : Pair w' gx gy W0 px py :=
  ⟨h.x.kept (grown_below (row := none) hb) (by simp), h.y.kept (grown_below (row := none) hb) (by simp), h.ne, h.grow.trans (Grow2.ofBelow hb)⟩
theorem Pair.cell {w W0 : World} {gx gy : Nat} {px py : PR} (h : Pair w gx gy W0 px py) {b o : Nat} {v : Value} (hc : W0.cell? ⟨b, o, none⟩ = some v) (h1 : b ≠ gx) (h2 : b ≠ gy) : w.cell? ⟨b, o, none⟩ = some v :=
  (World.cell?_of_block (h.grow.block b (block_lt_of_cell hc) h1 h2)).trans hc
theorem pairX {f : FuncId} {args : Array Value} {v : Value} {w W0 : World} {gx gy : Nat} {px py q : PR} (hp : Pair w gx gy W0 px py)
    (h : ∀ w, IsP w gx 65 px → Calls Try.prog f args w fun e w' => e = .returned v ∧ IsP w' gx 65 q ∧ w.grownBy w' (some gx)) :
    Calls Try.prog f args w fun e w' => e = .returned v ∧ Pair w' gx gy W0 q py :=
  (h w hp.x).mono fun e w' ⟨he, hi, hg⟩ => ⟨he, hi, hp.y.kept hg (fun e => hp.ne (by injection e with e; exact e.symm)), hp.ne, hp.grow.trans (Grow2.ofX hg)⟩
theorem pairY {f : FuncId} {args : Array Value} {v : Value} {w W0 : World} {gx gy : Nat} {px py q : PR} (hp : Pair w gx gy W0 px py)
    (h : ∀ w, IsP w gy 61 py → Calls Try.prog f args w fun e w' => e = .returned v ∧ IsP w' gy 61 q ∧ w.grownBy w' (some gy)) :
    Calls Try.prog f args w fun e w' => e = .returned v ∧ Pair w' gx gy W0 px q :=
  (h w hp.y).mono fun e w' ⟨he, hi, hg⟩ => ⟨he, hp.x.kept hg (fun e => hp.ne (by injection e)), hi, hp.ne, hp.grow.trans (Grow2.ofY hg)⟩

/-- What a deed of the script makes of a way. -/
def deedP (d a b : Int) (m : Bool) (nonce : Int) (p : PR) : PR :=
  if d = 0 then sampQ a p else if d = 1 then growQ a m b p else if d = 2 then fastP p else if d = 3 then lateP p else if d = 4 then faultP p else if d = 5 then goodP p else if d = 6 then beatQ nonce a p else answQ nonce a p
theorem deed_ok {d a b nonce n : Int} {m : Bool} {p : PR} (ok : p.Ok n) (hn : n + 1 ≤ 100000) (h0 : 0 ≤ nonce) (h1 : nonce ≤ 18446744073709551615) : (deedP d a b m nonce p).Ok (n + 1) := by
  have up : ∀ q : PR, q.Ok n → q.Ok (n + 1) := fun q hq => hq.mono (by omega) hn
  have n0 := ok.n0
  unfold deedP
  split
  · unfold sampQ; split
    · rename_i ht; exact up _ (ok.samp a (tickB_t ht).1)
    · exact up _ ok
  split
  · unfold growQ; split
    · rename_i ht; obtain ⟨a0, a1, a2, a3⟩ := sendB_t ht; exact ok.grow a b m a0 a1 hn
    · exact up _ ok
  split
  · exact up _ ok.fast
  split
  · exact ok.late hn
  split
  · exact ok.fault hn
  split
  · exact up _ ok.good
  split
  · unfold beatQ; split
    · rename_i ht; exact up _ (ok.beat nonce a h0 h1 (tickB_t ht).1 (tickB_t ht).2)
    · exact up _ ok
  · unfold answQ; split
    · exact up _ (ok.answ nonce a)
    · exact up _ ok
end Go.Proofs.Ytopcokjfgldblaa
