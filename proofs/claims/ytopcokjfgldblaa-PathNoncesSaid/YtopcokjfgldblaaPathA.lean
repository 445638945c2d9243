/-
  LAYER 15, PLAIN: a way as a record; what each deed makes of it; its bounds. And where it lies in memory. It speaks of no program.
-/
import Derived.Test.YtopcokjfgldblaaU
set_option linter.unusedVariables false
set_option linter.unusedSimpArgs false
namespace Go.Proofs.Ytopcokjfgldblaa
open Go.RowKit

structure PR where
  win : Int
  slow : Int
  part : Int
  rto : Int
  mean : Int
  spread : Int
  faults : Int
  up : Bool
  sure : Bool
  mtu : Int
  meas : Bool
  beat : Bool
  nonce : Int
  since : Int

def PR.cells (p : PR) : Array Value := #[.int .i64 p.win, .int .i64 p.slow, .int .i64 p.part, .int .i64 p.rto, .int .i64 p.mean, .int .i64 p.spread, .int .i64 p.faults, .bool p.up, .bool p.sure, .int .i64 p.mtu, .bool p.meas, .bool p.beat, .int .u64 p.nonce, .int .i64 p.since]
/-- What 'Stands' tells. -/
def PR.way (p : PR) : Value := .agg #[.int .i64 p.win, .int .i64 p.slow, .int .i64 p.part, .int .i64 p.rto, .int .i64 p.mean, .int .i64 p.spread, .int .i64 p.faults, .bool p.up, .bool p.sure]

/-- Block g is the way p. -/
def IsP (w : World) (g : Nat) (t : TypeId) (p : PR) : Prop := w.heap[g]? = some (.cells p.cells t (0, 0))
theorem IsP.lt {w : World} {g : Nat} {t : TypeId} {p : PR} (h : IsP w g t p) : g < w.heap.size := lt_of_block h
theorem IsP.kept {w w' : World} {g : Nat} {t : TypeId} {p : PR} (h : IsP w g t p) {row : Option Nat} (hg : w.grownBy w' row) (hne : some g ≠ row) : IsP w' g t p := by
  have := hg.block g h.lt hne
  unfold IsP; rw [this]; exact h
theorem IsP.of {w : World} {g : Nat} {t : TypeId} {p : PR} {cs : Array Value} (h : w.heap[g]? = some (.cells cs t (0, 0))) (e : cs = p.cells) : IsP w g t p := by
  rw [e] at h; exact h
theorem hs {w : World} {g i : Nat} {cs : Array Value} {t : TypeId} {v : Value} (hg : w.heap[g]? = some (.cells cs t (0, 0))) : (w.setCell ⟨g, i, none⟩ v).heap[g]? = some (.cells (cs.setIfInBounds i v) t (0, 0)) := heap_setCell_same _ _ _ _ _ _ hg
theorem gs {w w' : World} {g i : Nat} {v : Value} (h : w.grownBy w' (some g)) : w.grownBy (w'.setCell ⟨g, i, none⟩ v) (some g) := grown_trans h (grown_set _ _ _ _)
theorem cellOf {w : World} {g i : Nat} {cs : Array Value} {t : TypeId} {v : Value} (hg : w.heap[g]? = some (.cells cs t (0, 0))) (e : cs[i]? = some v) : w.cell? ⟨g, i, none⟩ = some v := by simp [World.cell?, hg, e]
theorem IsP.free {w : World} {g : Nat} {t : TypeId} {p : PR} (h : IsP w g t p) : ∀ i, w.frozen? ⟨g, i, none⟩ = false := fun i => frozen_of_row w g i _ t h
theorem IsP.facts {w : World} {g : Nat} {t : TypeId} {win slow part rto mean spread faults : Int} {up sure : Bool} {mtu : Int} {meas beat : Bool} {nonce since : Int}
    (h : IsP w g t ⟨win, slow, part, rto, mean, spread, faults, up, sure, mtu, meas, beat, nonce, since⟩) :
    w.cell? ⟨g, 0, none⟩ = some (.int .i64 win) ∧ w.cell? ⟨g, 1, none⟩ = some (.int .i64 slow) ∧ w.cell? ⟨g, 2, none⟩ = some (.int .i64 part) ∧ w.cell? ⟨g, 3, none⟩ = some (.int .i64 rto) ∧
    w.cell? ⟨g, 4, none⟩ = some (.int .i64 mean) ∧ w.cell? ⟨g, 5, none⟩ = some (.int .i64 spread) ∧ w.cell? ⟨g, 6, none⟩ = some (.int .i64 faults) ∧ w.cell? ⟨g, 7, none⟩ = some (.bool up) ∧
    w.cell? ⟨g, 8, none⟩ = some (.bool sure) ∧ w.cell? ⟨g, 9, none⟩ = some (.int .i64 mtu) ∧ w.cell? ⟨g, 10, none⟩ = some (.bool meas) ∧ w.cell? ⟨g, 11, none⟩ = some (.bool beat) ∧
    w.cell? ⟨g, 12, none⟩ = some (.int .u64 nonce) ∧ w.cell? ⟨g, 13, none⟩ = some (.int .i64 since) ∧ (∀ i, w.frozen? ⟨g, i, none⟩ = false) := by
  have hf := h.free
  unfold IsP PR.cells at h
  refine ⟨?_, ?_, ?_, ?_, ?_, ?_, ?_, ?_, ?_, ?_, ?_, ?_, ?_, ?_, hf⟩ <;> simp [World.cell?, h]

/-- The bounds that hold behind n deeds. -/
structure PR.Ok (n : Int) (p : PR) : Prop where
  mtu0 : 64 ≤ p.mtu
  mtu1 : p.mtu ≤ 1500
  win0 : p.mtu ≤ p.win
  win1 : p.win ≤ 32768
  slow0 : 4 * p.mtu ≤ p.slow ∨ p.slow = 8192
  slow1 : p.slow ≤ 16384
  part0 : 0 ≤ p.part
  part1 : p.part ≤ 8192 * n
  rto0 : 10 ≤ p.rto
  rto1 : p.rto ≤ 600
  mean0 : 0 ≤ p.mean
  mean1 : p.mean ≤ 4800
  spread0 : 0 ≤ p.spread
  spread1 : p.spread ≤ 2403
  faults0 : 0 ≤ p.faults
  faults1 : p.faults ≤ n
  since0 : 0 ≤ p.since
  since1 : p.since ≤ 1099511627776
  nonce0 : 0 ≤ p.nonce
  nonce1 : p.nonce ≤ 18446744073709551615
  n0 : 0 ≤ n
  n1 : n ≤ 100000

def newP (mtu : Int) : PR := ⟨min (4 * mtu) (max 4404 (2 * mtu)), 8192, 0, 30, 0, 0, 0, true, false, mtu, false, false, 0, 0⟩
def sampP (ticks : Int) (p : PR) : PR :=
  let t := min ticks 600
  let m := if p.meas then p.mean + (t - p.mean / 8) else 8 * t
  let s := if p.meas then p.spread + (max (t - p.mean / 8) (-(t - p.mean / 8)) - p.spread / 4) else 2 * t
  { p with meas := true, mean := m, spread := s, rto := min (max (m / 8 + s) 10) 600 }
def growP (bytes : Int) (moved : Bool) (flight : Int) (p : PR) : PR :=
  if moved = false ∨ bytes = 0 then p
  else if p.win ≤ p.slow then
    if p.win ≤ flight then { p with win := min (p.win + min bytes p.mtu) 32768 } else p
  else if p.win ≤ p.part + bytes ∧ p.win ≤ flight then { p with part := p.part + bytes - p.win, win := min (p.win + p.mtu) 32768 }
  else { p with part := p.part + bytes }
def cutP (p : PR) : Int := max (p.win / 2) (4 * p.mtu)
def fastP (p : PR) : PR := { p with slow := cutP p, win := cutP p, part := 0 }
def faultP (p : PR) : PR := { p with faults := p.faults + 1, up := p.up && decide (p.faults + 1 ≤ 3) }
def downP (p : PR) : Bool := p.up && decide (3 < p.faults + 1)
def lateP0 (p : PR) : PR := { p with slow := cutP p, win := p.mtu, part := 0, rto := min (2 * p.rto) 600 }
def lateP (p : PR) : PR := faultP (lateP0 p)
def goodP (p : PR) : PR := { p with faults := 0, up := true }
def beatP (nonce now : Int) (p : PR) : PR := { p with beat := true, nonce := nonce, since := now }
def answB (nonce now : Int) (p : PR) : Bool := p.beat && decide (nonce = p.nonce) && decide (p.since ≤ now)
def answP (nonce now : Int) (p : PR) : PR := if answB nonce now p then sampP (now - p.since) (goodP { p with beat := false, sure := true }) else p

theorem PR.Ok.mono {n m : Int} {p : PR} (h : p.Ok n) (hm : n ≤ m) (h1 : m ≤ 100000) : p.Ok m := by
  obtain ⟨h1, h2, h3, h4, h5, h6, h7, h8, h9, h10, h11, h12, h13, h14, h15, h16, h17, h18, h19, h20, h21, h22⟩ := h
  constructor <;> first | assumption | omega
theorem PR.Ok.new (mtu : Int) (h0 : 64 ≤ mtu) (h1 : mtu ≤ 1500) : (newP mtu).Ok 0 := by
  constructor <;> (try simp only [newP]) <;> omega
theorem PR.Ok.samp {n : Int} {p : PR} (h : p.Ok n) (t : Int) (h0 : 0 ≤ t) : (sampP t p).Ok n := by
  obtain ⟨h1, h2, h3, h4, h5, h6, h7, h8, h9, h10, h11, h12, h13, h14, h15, h16, h17, h18, h19, h20, h21, h22⟩ := h
  cases hm : p.meas
  · constructor <;> (try simp only [sampP, hm, Bool.false_eq_true, if_false, if_true]) <;> first | assumption | omega
  · constructor <;> (try simp only [sampP, hm, Bool.false_eq_true, if_false, if_true]) <;> first | assumption | omega
theorem PR.Ok.grow {n : Int} {p : PR} (h : p.Ok n) (b f : Int) (m : Bool) (h0 : 0 ≤ b) (h1 : b ≤ 8192) (hn : n + 1 ≤ 100000) : (growP b m f p).Ok (n + 1) := by
  have h' := PR.Ok.mono h (show n ≤ n + 1 by omega) hn
  unfold growP
  split
  · exact h'
  · obtain ⟨h1, h2, h3, h4, h5, h6, h7, h8, h9, h10, h11, h12, h13, h14, h15, h16, h17, h18, h19, h20, h21, h22⟩ := h
    split
    · split
      · constructor <;> (try simp only []) <;> first | assumption | omega
      · exact h'
    · split
      · constructor <;> (try simp only []) <;> first | assumption | omega
      · constructor <;> (try simp only []) <;> first | assumption | omega
theorem PR.Ok.fast {n : Int} {p : PR} (h : p.Ok n) : (fastP p).Ok n := by
  obtain ⟨h1, h2, h3, h4, h5, h6, h7, h8, h9, h10, h11, h12, h13, h14, h15, h16, h17, h18, h19, h20, h21, h22⟩ := h
  constructor <;> (try simp only [fastP, cutP]) <;> first | assumption | omega
theorem PR.Ok.fault {n : Int} {p : PR} (h : p.Ok n) (hn : n + 1 ≤ 100000) : (faultP p).Ok (n + 1) := by
  obtain ⟨h1, h2, h3, h4, h5, h6, h7, h8, h9, h10, h11, h12, h13, h14, h15, h16, h17, h18, h19, h20, h21, h22⟩ := h
  constructor <;> (try simp only [faultP]) <;> first | assumption | omega
theorem PR.Ok.late0 {n : Int} {p : PR} (h : p.Ok n) : (lateP0 p).Ok n := by
  obtain ⟨h1, h2, h3, h4, h5, h6, h7, h8, h9, h10, h11, h12, h13, h14, h15, h16, h17, h18, h19, h20, h21, h22⟩ := h
  constructor <;> (try simp only [lateP0, cutP]) <;> first | assumption | omega
theorem PR.Ok.late {n : Int} {p : PR} (h : p.Ok n) (hn : n + 1 ≤ 100000) : (lateP p).Ok (n + 1) := (PR.Ok.late0 h).fault hn
theorem PR.Ok.good {n : Int} {p : PR} (h : p.Ok n) : (goodP p).Ok n := by
  obtain ⟨h1, h2, h3, h4, h5, h6, h7, h8, h9, h10, h11, h12, h13, h14, h15, h16, h17, h18, h19, h20, h21, h22⟩ := h
  constructor <;> (try simp only [goodP]) <;> first | assumption | omega
theorem PR.Ok.beat {n : Int} {p : PR} (h : p.Ok n) (nonce now : Int) (a0 : 0 ≤ nonce) (a1 : nonce ≤ 18446744073709551615) (b0 : 0 ≤ now) (b1 : now ≤ 1099511627776) : (beatP nonce now p).Ok n := by
  obtain ⟨h1, h2, h3, h4, h5, h6, h7, h8, h9, h10, h11, h12, h13, h14, h15, h16, h17, h18, h19, h20, h21, h22⟩ := h
  constructor <;> (try simp only [beatP]) <;> first | assumption | omega
theorem PR.Ok.answ {n : Int} {p : PR} (h : p.Ok n) (nonce now : Int) : (answP nonce now p).Ok n := by
  unfold answP
  split
  · rename_i hb
    refine PR.Ok.samp (PR.Ok.good ?_) _ ?_
    · obtain ⟨h1, h2, h3, h4, h5, h6, h7, h8, h9, h10, h11, h12, h13, h14, h15, h16, h17, h18, h19, h20, h21, h22⟩ := h
      constructor <;> (try simp only []) <;> first | assumption | omega
    · simp [answB] at hb
      omega
  · exact h
theorem samp_t {ticks M S : Int} {p : PR} (hm : p.meas = true) (hM : M = p.mean + (min ticks 600 - p.mean / 8)) (hS : S = p.spread + (max (min ticks 600 - p.mean / 8) (-(min ticks 600 - p.mean / 8)) - p.spread / 4)) : sampP ticks p = { p with meas := true, mean := M, spread := S, rto := min (max (M / 8 + S) 10) 600 } := by
  subst hM hS; simp [sampP, hm]
theorem samp_f {ticks M S : Int} {p : PR} (hm : p.meas = false) (hM : M = 8 * min ticks 600) (hS : S = 2 * min ticks 600) : sampP ticks p = { p with meas := true, mean := M, spread := S, rto := min (max (M / 8 + S) 10) 600 } := by
  subst hM hS; simp [sampP, hm]
theorem grow_a {b f : Int} {p : PR} (hb : ¬ b = 0) (q1 : p.win ≤ p.slow) (q2 : p.win ≤ f) : growP b true f p = { p with win := min (p.win + min b p.mtu) 32768 } := by
  unfold growP; rw [if_neg (by simp [hb]), if_pos q1, if_pos q2]
theorem grow_b {b f : Int} {p : PR} (hb : ¬ b = 0) (q1 : p.win ≤ p.slow) (q2 : ¬ p.win ≤ f) : growP b true f p = p := by
  unfold growP; rw [if_neg (by simp [hb]), if_pos q1, if_neg q2]
theorem grow_c {b f : Int} {p : PR} (hb : ¬ b = 0) (q1 : ¬ p.win ≤ p.slow) (q2 : p.win ≤ p.part + b) (q3 : p.win ≤ f) : growP b true f p = { p with part := p.part + b - p.win, win := min (p.win + p.mtu) 32768 } := by
  unfold growP; rw [if_neg (by simp [hb]), if_neg q1, if_pos ⟨q2, q3⟩]
theorem grow_d {b f : Int} {p : PR} (hb : ¬ b = 0) (q1 : ¬ p.win ≤ p.slow) (q2 : ¬ (p.win ≤ p.part + b ∧ p.win ≤ f)) : growP b true f p = { p with part := p.part + b } := by
  unfold growP; rw [if_neg (by simp [hb]), if_neg q1, if_neg q2]
theorem grow_n {b f : Int} {m : Bool} {p : PR} (hb : m = false ∨ b = 0) : growP b m f p = p := by
  unfold growP; rw [if_pos hb]
end Go.Proofs.Ytopcokjfgldblaa
