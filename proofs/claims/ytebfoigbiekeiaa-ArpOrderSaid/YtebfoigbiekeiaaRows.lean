/-
  No cell of these rows narrows 'for every input' (looked for: loops, veiled, ifaces, maps, wideKeys, modest, calm, conditions, laid).
  DERIVED. THE GIVEN ROWS OF THIS SEAT. 7 by the template 'for every input the law returns true; each argument reads behind the call as it read before'; 0 by the template 'total and deterministic' (their statements: YtebfoigbiekeiaaTotals.lean).
  GIVEN WITH THE SEED: the statements are not yours to turn. If you find one false, say at which input.
  Laid BY PROGRAM, IN A SANDBOX (cutbox-rows.mjs): the forced cells as the released guide's own fill.sh prints them over the translation 1caf1a7f5b08e54c… (all of the seat's roots in one cut). By AI agents, Wed Nov 11 2026. No macro, syntax, notation, axiom, sorry.
-/
import Derived.Test.YtebfoigbiekeiaaChecked
import GoSem.Claim
import GoSem.ClaimJoined
import GoSem.ClaimMapViews
import Derived.JoinedTies
import Derived.KernelRfl
namespace Go.Proofs.Ytebfoigbiekeiaa
/- THE CELL 'sum', in the pinned program and in every row, IS THE sha256 OF THE DUMP (.gsa) THAT YtebfoigbiekeiaaProg.lean LOADS. Nothing in Lean hashes anything: it is a label: what it is worth is what the hold of that sum in a sandbox is worth. -/
noncomputable def Try.pinned : Pinned := { name := "ytebfoigbiekeiaa", sum := "1caf1a7f5b08e54c1f96bc7345bc4b8f4cc12ea07170ecdf8f08292108f91f93", checked := Try.checked }
namespace Rows
def none {H : Type} : Left H := { results := [], args := [] }

/-- 'trunklinelaw09.ArpOrder': WHATEVER THE INPUT: true; the input reads as it did. -/
def arpOrderSpec : ChangeSpec := { name := "arpOrder", fn := fun _ => fun
  | [d1, d2] => { results := [.lit (.bool true)], args := [d1, d2] }
  | _ => none }
def arpOrderRow : OpenClaim := { program := "ytebfoigbiekeiaa", sum := "1caf1a7f5b08e54c1f96bc7345bc4b8f4cc12ea07170ecdf8f08292108f91f93", func := "trunkline/trunklinelaw09.ArpOrder", spec := "arpOrder", unfollowed := true, recurses := true, apart := false }
def ArpOrderSaid : Prop := arpOrderRow.holds Try.pinned (OpenSpec.ofChange arpOrderSpec)

/-- ITS FALSE NEIGHBOUR: 'it returns false'. Refute it at one input. -/
def arpOrderWrong : ChangeSpec := { name := "arpOrder", fn := fun _ => fun
  | [d1, d2] => { results := [.lit (.bool false)], args := [d1, d2] }
  | _ => none }
def ArpOrderWrongFalsely : Prop := arpOrderRow.holds Try.pinned (OpenSpec.ofChange arpOrderWrong)

/-- 'trunklinelaw09.ArpBounds': WHATEVER THE INPUT: true; the input reads as it did. -/
def arpBoundsSpec : ChangeSpec := { name := "arpBounds", fn := fun _ => fun
  | [d1, d2] => { results := [.lit (.bool true)], args := [d1, d2] }
  | _ => none }
def arpBoundsRow : OpenClaim := { program := "ytebfoigbiekeiaa", sum := "1caf1a7f5b08e54c1f96bc7345bc4b8f4cc12ea07170ecdf8f08292108f91f93", func := "trunkline/trunklinelaw09.ArpBounds", spec := "arpBounds", unfollowed := true, recurses := true, apart := false }
def ArpBoundsSaid : Prop := arpBoundsRow.holds Try.pinned (OpenSpec.ofChange arpBoundsSpec)

/-- ITS FALSE NEIGHBOUR: 'it returns false'. Refute it at one input. -/
def arpBoundsWrong : ChangeSpec := { name := "arpBounds", fn := fun _ => fun
  | [d1, d2] => { results := [.lit (.bool false)], args := [d1, d2] }
  | _ => none }
def ArpBoundsWrongFalsely : Prop := arpBoundsRow.holds Try.pinned (OpenSpec.ofChange arpBoundsWrong)

/-- 'trunklinelaw09.ArpPlays': WHATEVER THE INPUT: true; the input reads as it did. -/
def arpPlaysSpec : ChangeSpec := { name := "arpPlays", fn := fun _ => fun
  | [d1, d2, d3] => { results := [.lit (.bool true)], args := [d1, d2, d3] }
  | _ => none }
def arpPlaysRow : OpenClaim := { program := "ytebfoigbiekeiaa", sum := "1caf1a7f5b08e54c1f96bc7345bc4b8f4cc12ea07170ecdf8f08292108f91f93", func := "trunkline/trunklinelaw09.ArpPlays", spec := "arpPlays", unfollowed := true, recurses := true, apart := false }
def ArpPlaysSaid : Prop := arpPlaysRow.holds Try.pinned (OpenSpec.ofChange arpPlaysSpec)

/-- ITS FALSE NEIGHBOUR: 'it returns false'. Refute it at one input. -/
def arpPlaysWrong : ChangeSpec := { name := "arpPlays", fn := fun _ => fun
  | [d1, d2, d3] => { results := [.lit (.bool false)], args := [d1, d2, d3] }
  | _ => none }
def ArpPlaysWrongFalsely : Prop := arpPlaysRow.holds Try.pinned (OpenSpec.ofChange arpPlaysWrong)

/-- 'trunklinelaw09.ArpCounts': WHATEVER THE INPUT: true; the input reads as it did. -/
def arpCountsSpec : ChangeSpec := { name := "arpCounts", fn := fun _ => fun
  | [d1, d2] => { results := [.lit (.bool true)], args := [d1, d2] }
  | _ => none }
def arpCountsRow : OpenClaim := { program := "ytebfoigbiekeiaa", sum := "1caf1a7f5b08e54c1f96bc7345bc4b8f4cc12ea07170ecdf8f08292108f91f93", func := "trunkline/trunklinelaw09.ArpCounts", spec := "arpCounts", unfollowed := true, recurses := true, apart := false }
def ArpCountsSaid : Prop := arpCountsRow.holds Try.pinned (OpenSpec.ofChange arpCountsSpec)

/-- ITS FALSE NEIGHBOUR: 'it returns false'. Refute it at one input. -/
def arpCountsWrong : ChangeSpec := { name := "arpCounts", fn := fun _ => fun
  | [d1, d2] => { results := [.lit (.bool false)], args := [d1, d2] }
  | _ => none }
def ArpCountsWrongFalsely : Prop := arpCountsRow.holds Try.pinned (OpenSpec.ofChange arpCountsWrong)

/-- 'trunklinelaw09.ArpAsks': WHATEVER THE INPUT: true; the input reads as it did. -/
def arpAsksSpec : ChangeSpec := { name := "arpAsks", fn := fun _ => fun
  | [d1, d2, d3] => { results := [.lit (.bool true)], args := [d1, d2, d3] }
  | _ => none }
def arpAsksRow : OpenClaim := { program := "ytebfoigbiekeiaa", sum := "1caf1a7f5b08e54c1f96bc7345bc4b8f4cc12ea07170ecdf8f08292108f91f93", func := "trunkline/trunklinelaw09.ArpAsks", spec := "arpAsks", unfollowed := true, recurses := true, apart := false }
def ArpAsksSaid : Prop := arpAsksRow.holds Try.pinned (OpenSpec.ofChange arpAsksSpec)

/-- ITS FALSE NEIGHBOUR: 'it returns false'. Refute it at one input. -/
def arpAsksWrong : ChangeSpec := { name := "arpAsks", fn := fun _ => fun
  | [d1, d2, d3] => { results := [.lit (.bool false)], args := [d1, d2, d3] }
  | _ => none }
def ArpAsksWrongFalsely : Prop := arpAsksRow.holds Try.pinned (OpenSpec.ofChange arpAsksWrong)

/-- 'trunklinelaw09.ArpForks': WHATEVER THE INPUT: true; the input reads as it did. -/
def arpForksSpec : ChangeSpec := { name := "arpForks", fn := fun _ => fun
  | [d1, d2, d3] => { results := [.lit (.bool true)], args := [d1, d2, d3] }
  | _ => none }
def arpForksRow : OpenClaim := { program := "ytebfoigbiekeiaa", sum := "1caf1a7f5b08e54c1f96bc7345bc4b8f4cc12ea07170ecdf8f08292108f91f93", func := "trunkline/trunklinelaw09.ArpForks", spec := "arpForks", inPlace := ["maps.clone"], unfollowed := true, recurses := true, apart := false }
def ArpForksSaid : Prop := arpForksRow.holds Try.pinned (OpenSpec.ofChange arpForksSpec)

/-- ITS FALSE NEIGHBOUR: 'it returns false'. Refute it at one input. -/
def arpForksWrong : ChangeSpec := { name := "arpForks", fn := fun _ => fun
  | [d1, d2, d3] => { results := [.lit (.bool false)], args := [d1, d2, d3] }
  | _ => none }
def ArpForksWrongFalsely : Prop := arpForksRow.holds Try.pinned (OpenSpec.ofChange arpForksWrong)

/-- 'trunklinelaw09.ArpNone': WHATEVER THE INPUT: true; the input reads as it did. -/
def arpNoneSpec : ChangeSpec := { name := "arpNone", fn := fun _ => fun
  | [d1, d2, d3] => { results := [.lit (.bool true)], args := [d1, d2, d3] }
  | _ => none }
def arpNoneRow : OpenClaim := { program := "ytebfoigbiekeiaa", sum := "1caf1a7f5b08e54c1f96bc7345bc4b8f4cc12ea07170ecdf8f08292108f91f93", func := "trunkline/trunklinelaw09.ArpNone", spec := "arpNone", inPlace := ["maps.clone"], unfollowed := true, recurses := true, apart := false }
def ArpNoneSaid : Prop := arpNoneRow.holds Try.pinned (OpenSpec.ofChange arpNoneSpec)

/-- ITS FALSE NEIGHBOUR: 'it returns false'. Refute it at one input. -/
def arpNoneWrong : ChangeSpec := { name := "arpNone", fn := fun _ => fun
  | [d1, d2, d3] => { results := [.lit (.bool false)], args := [d1, d2, d3] }
  | _ => none }
def ArpNoneWrongFalsely : Prop := arpNoneRow.holds Try.pinned (OpenSpec.ofChange arpNoneWrong)

/- THE SECOND FORM. 'bulk': how many values and letters a reading holds, each counted each time it is reached (what is shared counts as often as it is met; a slice's spare places count too). A statement '..UptoSaid' is the law's where the arguments, and the package variables that the reading takes, are together of bulk at most 1048576: NARROWER than '..Said'. Prove '..Said' where nothing that the law and all that it calls make is longer than what came in: it says more and counts as full. Else prove '..UptoSaid'. A law counts once. -/
mutual
def uptoBulk {H : Type} : DataW H → Nat
  | .lit (.string bytes) => bytes.length + 1
  | .lit _ => 1
  | .nil => 1
  | .ptr d => uptoBulk d + 1
  | .slice elems spare => uptoBulkAll elems + uptoBulkAll spare + 1
  | .agg parts => uptoBulkAll parts + 1
  | .iface _ d => uptoBulk d + 1
  | .map entries => uptoBulkEntries entries + 1
  | .held _ => 1
def uptoBulkAll {H : Type} : List (DataW H) → Nat
  | [] => 0
  | d :: r => uptoBulk d + uptoBulkAll r
def uptoBulkEntries {H : Type} : List (Lit × DataW H) → Nat
  | [] => 0
  | x :: r => uptoBulkEntry x + uptoBulkEntries r
def uptoBulkEntry {H : Type} : Lit × DataW H → Nat
  | (.string bytes, d) => bytes.length + uptoBulk d + 1
  | (_, d) => uptoBulk d + 1
 end
def uptoSmall : (H : Type) → List (DataW H) → Bool := fun _ ds => decide (uptoBulkAll ds ≤ 1048576)
def OpenSpec.upto (s : _root_.Go.ChangeSpec) : _root_.Go.OpenSpec := { _root_.Go.OpenSpec.ofChange s with cond := some uptoSmall }

/-- 'trunklinelaw09.ArpOrder', WHERE WHAT IT READS IS OF BULK AT MOST 1048576: true; the input reads as it did. -/
def arpOrderUptoRow : OpenClaim := { program := "ytebfoigbiekeiaa", sum := "1caf1a7f5b08e54c1f96bc7345bc4b8f4cc12ea07170ecdf8f08292108f91f93", func := "trunkline/trunklinelaw09.ArpOrder", spec := "arpOrder", unfollowed := true, recurses := true, apart := false, narrowed := true }
def ArpOrderUptoSaid : Prop := arpOrderUptoRow.holds Try.pinned (OpenSpec.upto arpOrderSpec)

/-- 'trunklinelaw09.ArpBounds', WHERE WHAT IT READS IS OF BULK AT MOST 1048576: true; the input reads as it did. -/
def arpBoundsUptoRow : OpenClaim := { program := "ytebfoigbiekeiaa", sum := "1caf1a7f5b08e54c1f96bc7345bc4b8f4cc12ea07170ecdf8f08292108f91f93", func := "trunkline/trunklinelaw09.ArpBounds", spec := "arpBounds", unfollowed := true, recurses := true, apart := false, narrowed := true }
def ArpBoundsUptoSaid : Prop := arpBoundsUptoRow.holds Try.pinned (OpenSpec.upto arpBoundsSpec)

/-- 'trunklinelaw09.ArpPlays', WHERE WHAT IT READS IS OF BULK AT MOST 1048576: true; the input reads as it did. -/
def arpPlaysUptoRow : OpenClaim := { program := "ytebfoigbiekeiaa", sum := "1caf1a7f5b08e54c1f96bc7345bc4b8f4cc12ea07170ecdf8f08292108f91f93", func := "trunkline/trunklinelaw09.ArpPlays", spec := "arpPlays", unfollowed := true, recurses := true, apart := false, narrowed := true }
def ArpPlaysUptoSaid : Prop := arpPlaysUptoRow.holds Try.pinned (OpenSpec.upto arpPlaysSpec)

/-- 'trunklinelaw09.ArpCounts', WHERE WHAT IT READS IS OF BULK AT MOST 1048576: true; the input reads as it did. -/
def arpCountsUptoRow : OpenClaim := { program := "ytebfoigbiekeiaa", sum := "1caf1a7f5b08e54c1f96bc7345bc4b8f4cc12ea07170ecdf8f08292108f91f93", func := "trunkline/trunklinelaw09.ArpCounts", spec := "arpCounts", unfollowed := true, recurses := true, apart := false, narrowed := true }
def ArpCountsUptoSaid : Prop := arpCountsUptoRow.holds Try.pinned (OpenSpec.upto arpCountsSpec)

/-- 'trunklinelaw09.ArpAsks', WHERE WHAT IT READS IS OF BULK AT MOST 1048576: true; the input reads as it did. -/
def arpAsksUptoRow : OpenClaim := { program := "ytebfoigbiekeiaa", sum := "1caf1a7f5b08e54c1f96bc7345bc4b8f4cc12ea07170ecdf8f08292108f91f93", func := "trunkline/trunklinelaw09.ArpAsks", spec := "arpAsks", unfollowed := true, recurses := true, apart := false, narrowed := true }
def ArpAsksUptoSaid : Prop := arpAsksUptoRow.holds Try.pinned (OpenSpec.upto arpAsksSpec)

/-- 'trunklinelaw09.ArpForks', WHERE WHAT IT READS IS OF BULK AT MOST 1048576: true; the input reads as it did. -/
def arpForksUptoRow : OpenClaim := { program := "ytebfoigbiekeiaa", sum := "1caf1a7f5b08e54c1f96bc7345bc4b8f4cc12ea07170ecdf8f08292108f91f93", func := "trunkline/trunklinelaw09.ArpForks", spec := "arpForks", inPlace := ["maps.clone"], unfollowed := true, recurses := true, apart := false, narrowed := true }
def ArpForksUptoSaid : Prop := arpForksUptoRow.holds Try.pinned (OpenSpec.upto arpForksSpec)

/-- 'trunklinelaw09.ArpNone', WHERE WHAT IT READS IS OF BULK AT MOST 1048576: true; the input reads as it did. -/
def arpNoneUptoRow : OpenClaim := { program := "ytebfoigbiekeiaa", sum := "1caf1a7f5b08e54c1f96bc7345bc4b8f4cc12ea07170ecdf8f08292108f91f93", func := "trunkline/trunklinelaw09.ArpNone", spec := "arpNone", inPlace := ["maps.clone"], unfollowed := true, recurses := true, apart := false, narrowed := true }
def ArpNoneUptoSaid : Prop := arpNoneUptoRow.holds Try.pinned (OpenSpec.upto arpNoneSpec)

end Rows
end Go.Proofs.Ytebfoigbiekeiaa
