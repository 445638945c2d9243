/-
  LAYER 9, PLAIN: a cache's neighbours as a list that rises by addresses; what it sends, learns, forgets; the frames. It speaks of no program.
-/
import Derived.Test.YtebfoigbiekeiaaMapU
import Derived.Test.YtebfoigbiekeiaaOctA
set_option linter.unusedVariables false
set_option linter.unusedSimpArgs false
namespace Go.Proofs.Ytebfoigbiekeiaa
open Go.RowKit

structure En where
  known : Bool
  mac : Int
  at_ : Int
  tries : Int
  wait : List (List Int)
structure Ar where
  mac : Int
  ip : Int
  last : Int
  lost : Int
  m : List (Int × En)
/-- A frame's bytes; an ARP packet's. -/
def etherB (to frm kind : Int) (body : List Int) : List Int := be to 6 ++ be frm 6 ++ be kind 2 ++ body
def arpB (op fm fi tm ti : Int) : List Int := be 4429186564 6 ++ be op 2 ++ be fm 6 ++ be fi 4 ++ be tm 6 ++ be ti 4
def Ar.arpF (s : Ar) (op to mac ip : Int) : List Int := etherB to s.mac 2054 (arpB op s.mac s.ip mac ip)
def Ar.bodyF (s : Ar) (mac : Int) (body : List Int) : List Int := etherB mac s.mac 2048 body
def better (best : Option (Int × Int)) (a : Int) : Bool := match best with | none => true | some (_, b) => decide (a < b)
/-- The neighbour that was told longest ago, of those that are known. -/
def oldestOf (best : Option (Int × Int)) : List (Int × En) → Option (Int × Int)
  | [] => best
  | (k, e) :: r => oldestOf (if (e.known && better best e.at_) = true then some (k, e.at_) else best) r
def Ar.room (s : Ar) : Ar × Bool :=
  if s.m.length < 8 then (s, true)
  else match oldestOf none s.m with
    | some (k, _) => ({ s with m := delK k s.m }, true)
    | none => (s, false)
/-- What is wrong with a call at a tick. -/
def Ar.wrong (s : Ar) (now : Int) : Int := if now < 0 ∨ 1099511627776 < now then 2 else if now < s.last then 18 else 0
def Ar.at (s : Ar) (now : Int) : Ar := { s with last := now }
def Ar.send2 (s : Ar) (to : Int) (body : List Int) (now : Int) : Ar × List (List Int) × Int :=
  if body.length = 0 ∨ 1500 < body.length then (s, [], 6)
  else match lookK to s.m with
    | some e =>
      if e.known = true then (s, [s.bodyF e.mac body], 0)
      else if e.wait.length = 4 then ({ s with lost := s.lost + 1 }, [], 10)
      else ({ s with m := putK to { e with wait := e.wait ++ [body] } s.m }, [], 0)
    | none =>
      if s.room.2 = true then ({ s.room.1 with m := putK to ⟨false, 0, now, 1, [body]⟩ s.room.1.m }, [s.arpF 1 281474976710655 0 to], 0)
      else ({ s.room.1 with lost := s.lost + 1 }, [], 10)
def Ar.send (s : Ar) (to : Int) (body : List Int) (now : Int) : Ar × List (List Int) × Int :=
  if s.wrong now ≠ 0 then (s, [], s.wrong now) else (s.at now).send2 to body now
structure Q where
  op : Int
  fm : Int
  fi : Int
  tm : Int
  ti : Int
/-- The answer to a question for the card. -/
def Ar.answer (s : Ar) (a : Q) : List (List Int) := if a.op = 1 ∧ a.ti = s.ip then [s.arpF 2 a.fm a.fm a.fi] else []
def Ar.take2 (s : Ar) (a : Q) (now : Int) : Ar × List (List Int) × Int :=
  if a.fi = s.ip ∨ 281474976710655 ≤ a.fm then (s, [], 12)
  else match lookK a.fi s.m with
    | some e => ({ s with m := putK a.fi ⟨true, a.fm, now, 0, []⟩ s.m }, e.wait.map (s.bodyF a.fm) ++ s.answer a, 0)
    | none =>
      if a.ti = s.ip then
        if s.room.2 = true then ({ s.room.1 with m := putK a.fi ⟨true, a.fm, now, 0, []⟩ s.room.1.m }, s.answer a, 0)
        else (s.room.1, s.answer a, 0)
      else (s, s.answer a, 0)
def Ar.take (s : Ar) (a : Q) (now : Int) : Ar × List (List Int) × Int :=
  if s.wrong now ≠ 0 then (s, [], s.wrong now) else (s.at now).take2 a now
/-- What a tick makes of the neighbours: those that are left, to whom questions go, how many bodies are lost. -/
def tickL (now : Int) : List (Int × En) → List (Int × En) × List Int × Int
  | [] => ([], [], 0)
  | (k, e) :: r =>
    if (e.known = true ∧ 600 ≤ now - e.at_) ∨ (e.known = false ∧ 10 ≤ now - e.at_ ∧ 3 ≤ e.tries) then ((tickL now r).1, (tickL now r).2.1, e.wait.length + (tickL now r).2.2)
    else if e.known = false ∧ 10 ≤ now - e.at_ then ((k, { e with at_ := now, tries := e.tries + 1 }) :: (tickL now r).1, k :: (tickL now r).2.1, (tickL now r).2.2)
    else ((k, e) :: (tickL now r).1, (tickL now r).2.1, (tickL now r).2.2)
def Ar.tick (s : Ar) (now : Int) : Ar × List (List Int) × Int :=
  if s.wrong now ≠ 0 then (s, [], s.wrong now)
  else ({ s with last := now, lost := s.lost + (tickL now s.m).2.2, m := (tickL now s.m).1 }, (tickL now s.m).2.1.map fun k => s.arpF 1 281474976710655 0 k, 0)
/-- What holds of every cache that calls made. -/
structure Ar.Ok (s : Ar) : Prop where
  mac : 0 ≤ s.mac ∧ s.mac < 281474976710655
  ip : 0 ≤ s.ip ∧ s.ip < 4294967296
  last : 0 ≤ s.last ∧ s.last ≤ 1099511627776
  rise : Rising s.m
  key : ∀ p ∈ s.m, 0 ≤ p.1 ∧ p.1 < 4294967296
  few : s.m.length ≤ 8
  en : ∀ p ∈ s.m, 0 ≤ p.2.mac ∧ p.2.mac < 281474976710655 ∧ 0 ≤ p.2.at_ ∧ p.2.at_ ≤ s.last ∧ 0 ≤ p.2.tries ∧ p.2.tries ≤ 3 ∧ p.2.wait.length ≤ 4 ∧ (p.2.known = true → p.2.wait = []) ∧ ∀ b ∈ p.2.wait, Bytes b ∧ 1 ≤ b.length ∧ b.length ≤ 1500
end Go.Proofs.Ytebfoigbiekeiaa
