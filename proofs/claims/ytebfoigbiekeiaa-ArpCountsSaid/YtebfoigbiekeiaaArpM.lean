/-
  LAYER 9: the deeds of a script in memory.
-/
import Derived.Test.YtebfoigbiekeiaaU
import Derived.Deep.MidRow
set_option linter.unusedVariables false
set_option linter.unusedSimpArgs false
namespace Go.Proofs.Ytebfoigbiekeiaa
open Go Go.RowKit

structure D9 where
  k : Int
  to : Int
  bs : List Int
  op : Int
  fm : Int
  fi : Int
  tm : Int
  ti : Int
  now : Int
structure D9.Ok (d : D9) : Prop where
  to : 0 ≤ d.to ∧ d.to < 4294967296
  bs : Bytes d.bs
  fm : 0 ≤ d.fm ∧ d.fm < 18446744073709551616
  fi : 0 ≤ d.fi ∧ d.fi < 4294967296
  tm : 0 ≤ d.tm ∧ d.tm < 18446744073709551616
  ti : 0 ≤ d.ti ∧ d.ti < 4294967296
/-- The cells of a deed. -/
def D9.cells (d : D9) (A : Option Addr) (c : Nat) : List Value := [.int .i64 d.k, .int .u32 d.to, .slice A d.bs.length c, .int .i64 d.op, .int .u64 d.fm, .int .u32 d.fi, .int .u64 d.tm, .int .u32 d.ti, .int .i64 d.now]
/-- One deed at a place. -/
structure DAt (w : World) (b o : Nat) (d : D9) (A : Option Addr) (c : Nat) : Prop where
  lt : b < w.heap.size
  at_ : w.rangeAt b o (d.cells A c)
  rd : Rd w .u8 A d.bs
  nil : A = none → c = 0
  ok : d.Ok
theorem DAt.below {w w' : World} {b o : Nat} {d : D9} {A : Option Addr} {c : Nat} (h : DAt w b o d A c) (hb : Below w.heap.size w w') : DAt w' b o d A c :=
  ⟨Nat.lt_of_lt_of_le h.lt hb.size, fun i v hv => (hb.cell (p := ⟨b, o + i, none⟩) (by exact h.lt)).trans (h.at_ i v hv), h.rd.below hb, h.nil, h.ok⟩
theorem DAt.cellsOf {w : World} {b o : Nat} {d : D9} {A : Option Addr} {c : Nat} (h : DAt w b o d A c) : w.cell? ⟨b, o, none⟩ = some (.int .i64 d.k) ∧ w.cell? ⟨b, o + 1, none⟩ = some (.int .u32 d.to) ∧ w.cell? ⟨b, o + 2, none⟩ = some (.slice A d.bs.length c) ∧ w.cell? ⟨b, o + 8, none⟩ = some (.int .i64 d.now) :=
  ⟨h.at_ 0 _ rfl, h.at_ 1 _ rfl, h.at_ 2 _ rfl, h.at_ 8 _ rfl⟩
theorem DAt.arp {w : World} {b o : Nat} {d : D9} {A : Option Addr} {c : Nat} (h : DAt w b o d A c) : w.rangeAt b (o + 3) [.int .i64 d.op, .int .u64 d.fm, .int .u32 d.fi, .int .u64 d.tm, .int .u32 d.ti] := fun i v hv => by
  have hi : i < 5 := (List.getElem?_eq_some_iff.1 hv).1
  have := h.at_ (3 + i) v (by
    show (D9.cells d A c)[3 + i]? = some v
    match i, hi with
    | 0, _ => exact hv
    | 1, _ => exact hv
    | 2, _ => exact hv
    | 3, _ => exact hv
    | 4, _ => exact hv)
  rw [Nat.add_assoc]
  exact this
/-- A script of n deeds. -/
def RdD9 (w : World) (A : Option Addr) (n : Nat) : Prop := ∀ j, j < n → ∃ (b o : Nat) (d : D9) (Aj : Option Addr) (cj : Nat), A = some ⟨b, o, none⟩ ∧ DAt w b (o + j * 9) d Aj cj
theorem RdD9.below {w w' : World} {A : Option Addr} {n : Nat} (h : RdD9 w A n) (hb : Below w.heap.size w w') : RdD9 w' A n := fun j hj => by
  obtain ⟨b, o, d, Aj, cj, h1, h2⟩ := h j hj
  exact ⟨b, o, d, Aj, cj, h1, h2.below hb⟩
end Go.Proofs.Ytebfoigbiekeiaa
