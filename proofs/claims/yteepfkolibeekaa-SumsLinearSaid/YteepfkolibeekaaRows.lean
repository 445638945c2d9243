/-
  No cell of these rows narrows 'for every input' (looked for: loops, veiled, ifaces, maps, wideKeys, modest, calm, conditions, laid).
  DERIVED. THE GIVEN ROWS OF THIS SEAT. 9 by the template 'for every input the law returns true; each argument reads behind the call as it read before'; 0 by the template 'total and deterministic' (their statements: YteepfkolibeekaaTotals.lean).
  GIVEN WITH THE SEED: the statements are not yours to turn. If you find one false, say at which input.
  Laid BY PROGRAM, IN A SANDBOX (cutbox-rows.mjs): the forced cells as the released guide's own fill.sh prints them over the translation 41e965c102b4425f… (all of the seat's roots in one cut). By AI agents, Wed Nov 11 2026. No macro, syntax, notation, axiom, sorry.
-/
import Derived.Test.YteepfkolibeekaaChecked
import GoSem.Claim
import GoSem.ClaimJoined
import GoSem.ClaimMapViews
import Derived.JoinedTies
import Derived.KernelRfl
namespace Go.Proofs.Yteepfkolibeekaa
/- THE CELL 'sum', in the pinned program and in every row, IS THE sha256 OF THE DUMP (.gsa) THAT YteepfkolibeekaaProg.lean LOADS. Nothing in Lean hashes anything: it is a label: what it is worth is what the hold of that sum in a sandbox is worth. -/
noncomputable def Try.pinned : Pinned := { name := "yteepfkolibeekaa", sum := "41e965c102b4425fb96e2adf6f6c39fd82d53f15f663215b209b109762592f98", checked := Try.checked }
namespace Rows
def none {H : Type} : Left H := { results := [], args := [] }

/-- 'trunklinelaw02.SumsCrc': WHATEVER THE INPUT: true; the input reads as it did. -/
def sumsCrcSpec : ChangeSpec := { name := "sumsCrc", fn := fun _ => fun
  | [d] => { results := [.lit (.bool true)], args := [d] }
  | _ => none }
def sumsCrcRow : OpenClaim := { program := "yteepfkolibeekaa", sum := "41e965c102b4425fb96e2adf6f6c39fd82d53f15f663215b209b109762592f98", func := "trunkline/trunklinelaw02.SumsCrc", spec := "sumsCrc", unfollowed := true, recurses := true, apart := false }
def SumsCrcSaid : Prop := sumsCrcRow.holds Try.pinned (OpenSpec.ofChange sumsCrcSpec)

/-- ITS FALSE NEIGHBOUR: 'it returns false'. Refute it at one input. -/
def sumsCrcWrong : ChangeSpec := { name := "sumsCrc", fn := fun _ => fun
  | [d] => { results := [.lit (.bool false)], args := [d] }
  | _ => none }
def SumsCrcWrongFalsely : Prop := sumsCrcRow.holds Try.pinned (OpenSpec.ofChange sumsCrcWrong)

/-- 'trunklinelaw02.SumsLinear': WHATEVER THE INPUT: true; the input reads as it did. -/
def sumsLinearSpec : ChangeSpec := { name := "sumsLinear", fn := fun _ => fun
  | [d1, d2] => { results := [.lit (.bool true)], args := [d1, d2] }
  | _ => none }
def sumsLinearRow : OpenClaim := { program := "yteepfkolibeekaa", sum := "41e965c102b4425fb96e2adf6f6c39fd82d53f15f663215b209b109762592f98", func := "trunkline/trunklinelaw02.SumsLinear", spec := "sumsLinear", unfollowed := true, recurses := true, apart := false }
def SumsLinearSaid : Prop := sumsLinearRow.holds Try.pinned (OpenSpec.ofChange sumsLinearSpec)

/-- ITS FALSE NEIGHBOUR: 'it returns false'. Refute it at one input. -/
def sumsLinearWrong : ChangeSpec := { name := "sumsLinear", fn := fun _ => fun
  | [d1, d2] => { results := [.lit (.bool false)], args := [d1, d2] }
  | _ => none }
def SumsLinearWrongFalsely : Prop := sumsLinearRow.holds Try.pinned (OpenSpec.ofChange sumsLinearWrong)

/-- 'trunklinelaw02.SumsWhole': WHATEVER THE INPUT: true; the input reads as it did. -/
def sumsWholeSpec : ChangeSpec := { name := "sumsWhole", fn := fun _ => fun
  | [d] => { results := [.lit (.bool true)], args := [d] }
  | _ => none }
def sumsWholeRow : OpenClaim := { program := "yteepfkolibeekaa", sum := "41e965c102b4425fb96e2adf6f6c39fd82d53f15f663215b209b109762592f98", func := "trunkline/trunklinelaw02.SumsWhole", spec := "sumsWhole", unfollowed := true, recurses := true, apart := false }
def SumsWholeSaid : Prop := sumsWholeRow.holds Try.pinned (OpenSpec.ofChange sumsWholeSpec)

/-- ITS FALSE NEIGHBOUR: 'it returns false'. Refute it at one input. -/
def sumsWholeWrong : ChangeSpec := { name := "sumsWhole", fn := fun _ => fun
  | [d] => { results := [.lit (.bool false)], args := [d] }
  | _ => none }
def SumsWholeWrongFalsely : Prop := sumsWholeRow.holds Try.pinned (OpenSpec.ofChange sumsWholeWrong)

/-- 'trunklinelaw02.SumsAnyOrder': WHATEVER THE INPUT: true; the input reads as it did. -/
def sumsAnyOrderSpec : ChangeSpec := { name := "sumsAnyOrder", fn := fun _ => fun
  | [d1, d2, d3] => { results := [.lit (.bool true)], args := [d1, d2, d3] }
  | _ => none }
def sumsAnyOrderRow : OpenClaim := { program := "yteepfkolibeekaa", sum := "41e965c102b4425fb96e2adf6f6c39fd82d53f15f663215b209b109762592f98", func := "trunkline/trunklinelaw02.SumsAnyOrder", spec := "sumsAnyOrder", unfollowed := true, recurses := true, apart := false }
def SumsAnyOrderSaid : Prop := sumsAnyOrderRow.holds Try.pinned (OpenSpec.ofChange sumsAnyOrderSpec)

/-- ITS FALSE NEIGHBOUR: 'it returns false'. Refute it at one input. -/
def sumsAnyOrderWrong : ChangeSpec := { name := "sumsAnyOrder", fn := fun _ => fun
  | [d1, d2, d3] => { results := [.lit (.bool false)], args := [d1, d2, d3] }
  | _ => none }
def SumsAnyOrderWrongFalsely : Prop := sumsAnyOrderRow.holds Try.pinned (OpenSpec.ofChange sumsAnyOrderWrong)

/-- 'trunklinelaw02.SumsNet': WHATEVER THE INPUT: true; the input reads as it did. -/
def sumsNetSpec : ChangeSpec := { name := "sumsNet", fn := fun _ => fun
  | [d1, d2, d3] => { results := [.lit (.bool true)], args := [d1, d2, d3] }
  | _ => none }
def sumsNetRow : OpenClaim := { program := "yteepfkolibeekaa", sum := "41e965c102b4425fb96e2adf6f6c39fd82d53f15f663215b209b109762592f98", func := "trunkline/trunklinelaw02.SumsNet", spec := "sumsNet", unfollowed := true, recurses := true, apart := false }
def SumsNetSaid : Prop := sumsNetRow.holds Try.pinned (OpenSpec.ofChange sumsNetSpec)

/-- ITS FALSE NEIGHBOUR: 'it returns false'. Refute it at one input. -/
def sumsNetWrong : ChangeSpec := { name := "sumsNet", fn := fun _ => fun
  | [d1, d2, d3] => { results := [.lit (.bool false)], args := [d1, d2, d3] }
  | _ => none }
def SumsNetWrongFalsely : Prop := sumsNetRow.holds Try.pinned (OpenSpec.ofChange sumsNetWrong)

/-- 'trunklinelaw02.SumsSwaps': WHATEVER THE INPUT: true; the input reads as it did. -/
def sumsSwapsSpec : ChangeSpec := { name := "sumsSwaps", fn := fun _ => fun
  | [d1, d2, d3] => { results := [.lit (.bool true)], args := [d1, d2, d3] }
  | _ => none }
def sumsSwapsRow : OpenClaim := { program := "yteepfkolibeekaa", sum := "41e965c102b4425fb96e2adf6f6c39fd82d53f15f663215b209b109762592f98", func := "trunkline/trunklinelaw02.SumsSwaps", spec := "sumsSwaps", unfollowed := true, recurses := true, apart := false }
def SumsSwapsSaid : Prop := sumsSwapsRow.holds Try.pinned (OpenSpec.ofChange sumsSwapsSpec)

/-- ITS FALSE NEIGHBOUR: 'it returns false'. Refute it at one input. -/
def sumsSwapsWrong : ChangeSpec := { name := "sumsSwaps", fn := fun _ => fun
  | [d1, d2, d3] => { results := [.lit (.bool false)], args := [d1, d2, d3] }
  | _ => none }
def SumsSwapsWrongFalsely : Prop := sumsSwapsRow.holds Try.pinned (OpenSpec.ofChange sumsSwapsWrong)

/-- 'trunklinelaw02.SumsOwn': WHATEVER THE INPUT: true; the input reads as it did. -/
def sumsOwnSpec : ChangeSpec := { name := "sumsOwn", fn := fun _ => fun
  | [d] => { results := [.lit (.bool true)], args := [d] }
  | _ => none }
def sumsOwnRow : OpenClaim := { program := "yteepfkolibeekaa", sum := "41e965c102b4425fb96e2adf6f6c39fd82d53f15f663215b209b109762592f98", func := "trunkline/trunklinelaw02.SumsOwn", spec := "sumsOwn", unfollowed := true, recurses := true, apart := false }
def SumsOwnSaid : Prop := sumsOwnRow.holds Try.pinned (OpenSpec.ofChange sumsOwnSpec)

/-- ITS FALSE NEIGHBOUR: 'it returns false'. Refute it at one input. -/
def sumsOwnWrong : ChangeSpec := { name := "sumsOwn", fn := fun _ => fun
  | [d] => { results := [.lit (.bool false)], args := [d] }
  | _ => none }
def SumsOwnWrongFalsely : Prop := sumsOwnRow.holds Try.pinned (OpenSpec.ofChange sumsOwnWrong)

/-- 'trunklinelaw02.SumsStamps': WHATEVER THE INPUT: true; the input reads as it did. -/
def sumsStampsSpec : ChangeSpec := { name := "sumsStamps", fn := fun _ => fun
  | [d] => { results := [.lit (.bool true)], args := [d] }
  | _ => none }
def sumsStampsRow : OpenClaim := { program := "yteepfkolibeekaa", sum := "41e965c102b4425fb96e2adf6f6c39fd82d53f15f663215b209b109762592f98", func := "trunkline/trunklinelaw02.SumsStamps", spec := "sumsStamps", unfollowed := true, recurses := true, apart := false }
def SumsStampsSaid : Prop := sumsStampsRow.holds Try.pinned (OpenSpec.ofChange sumsStampsSpec)

/-- ITS FALSE NEIGHBOUR: 'it returns false'. Refute it at one input. -/
def sumsStampsWrong : ChangeSpec := { name := "sumsStamps", fn := fun _ => fun
  | [d] => { results := [.lit (.bool false)], args := [d] }
  | _ => none }
def SumsStampsWrongFalsely : Prop := sumsStampsRow.holds Try.pinned (OpenSpec.ofChange sumsStampsWrong)

/-- 'trunklinelaw02.SumsTurned': WHATEVER THE INPUT: true; the input reads as it did. -/
def sumsTurnedSpec : ChangeSpec := { name := "sumsTurned", fn := fun _ => fun
  | [d1, d2, d3] => { results := [.lit (.bool true)], args := [d1, d2, d3] }
  | _ => none }
def sumsTurnedRow : OpenClaim := { program := "yteepfkolibeekaa", sum := "41e965c102b4425fb96e2adf6f6c39fd82d53f15f663215b209b109762592f98", func := "trunkline/trunklinelaw02.SumsTurned", spec := "sumsTurned", unfollowed := true, recurses := true, apart := false }
def SumsTurnedSaid : Prop := sumsTurnedRow.holds Try.pinned (OpenSpec.ofChange sumsTurnedSpec)

/-- ITS FALSE NEIGHBOUR: 'it returns false'. Refute it at one input. -/
def sumsTurnedWrong : ChangeSpec := { name := "sumsTurned", fn := fun _ => fun
  | [d1, d2, d3] => { results := [.lit (.bool false)], args := [d1, d2, d3] }
  | _ => none }
def SumsTurnedWrongFalsely : Prop := sumsTurnedRow.holds Try.pinned (OpenSpec.ofChange sumsTurnedWrong)

/- THE SECOND FORM. 'bulk': how many values and letters a reading holds, each counted each time it is reached (what is shared counts as often as it is met; a slice's spare places count too). A statement '..UptoSaid' is the law's where the arguments, and the package variables that the reading takes, are together of bulk at most 1048576: NARROWER than '..Said'. Prove '..Said' where nothing that the law and all that it calls make is longer than what came in: it says more and counts as full. Else prove '..UptoSaid'. A law counts once. -/
mutual
def uptoBulk {H : Type} : DataW H → Nat
  | .lit (.string bytes) => bytes.length + 1
  | .lit _ => 1
  | .nil => 1
  | .ptr d => uptoBulk d + 1
  | .slice elems spare => uptoBulkAll elems + uptoBulkAll spare + 1
  | .agg parts => uptoBulkAll parts + 1
  | .iface _ d => uptoBulk d + 1
  | .map entries => uptoBulkEntries entries + 1
  | .held _ => 1
def uptoBulkAll {H : Type} : List (DataW H) → Nat
  | [] => 0
  | d :: r => uptoBulk d + uptoBulkAll r
def uptoBulkEntries {H : Type} : List (Lit × DataW H) → Nat
  | [] => 0
  | x :: r => uptoBulkEntry x + uptoBulkEntries r
def uptoBulkEntry {H : Type} : Lit × DataW H → Nat
  | (.string bytes, d) => bytes.length + uptoBulk d + 1
  | (_, d) => uptoBulk d + 1
 end
def uptoSmall : (H : Type) → List (DataW H) → Bool := fun _ ds => decide (uptoBulkAll ds ≤ 1048576)
def OpenSpec.upto (s : _root_.Go.ChangeSpec) : _root_.Go.OpenSpec := { _root_.Go.OpenSpec.ofChange s with cond := some uptoSmall }

/-- 'trunklinelaw02.SumsCrc', WHERE WHAT IT READS IS OF BULK AT MOST 1048576: true; the input reads as it did. -/
def sumsCrcUptoRow : OpenClaim := { program := "yteepfkolibeekaa", sum := "41e965c102b4425fb96e2adf6f6c39fd82d53f15f663215b209b109762592f98", func := "trunkline/trunklinelaw02.SumsCrc", spec := "sumsCrc", unfollowed := true, recurses := true, apart := false, narrowed := true }
def SumsCrcUptoSaid : Prop := sumsCrcUptoRow.holds Try.pinned (OpenSpec.upto sumsCrcSpec)

/-- 'trunklinelaw02.SumsLinear', WHERE WHAT IT READS IS OF BULK AT MOST 1048576: true; the input reads as it did. -/
def sumsLinearUptoRow : OpenClaim := { program := "yteepfkolibeekaa", sum := "41e965c102b4425fb96e2adf6f6c39fd82d53f15f663215b209b109762592f98", func := "trunkline/trunklinelaw02.SumsLinear", spec := "sumsLinear", unfollowed := true, recurses := true, apart := false, narrowed := true }
def SumsLinearUptoSaid : Prop := sumsLinearUptoRow.holds Try.pinned (OpenSpec.upto sumsLinearSpec)

/-- 'trunklinelaw02.SumsWhole', WHERE WHAT IT READS IS OF BULK AT MOST 1048576: true; the input reads as it did. -/
def sumsWholeUptoRow : OpenClaim := { program := "yteepfkolibeekaa", sum := "41e965c102b4425fb96e2adf6f6c39fd82d53f15f663215b209b109762592f98", func := "trunkline/trunklinelaw02.SumsWhole", spec := "sumsWhole", unfollowed := true, recurses := true, apart := false, narrowed := true }
def SumsWholeUptoSaid : Prop := sumsWholeUptoRow.holds Try.pinned (OpenSpec.upto sumsWholeSpec)

/-- 'trunklinelaw02.SumsAnyOrder', WHERE WHAT IT READS IS OF BULK AT MOST 1048576: true; the input reads as it did. -/
def sumsAnyOrderUptoRow : OpenClaim := { program := "yteepfkolibeekaa", sum := "41e965c102b4425fb96e2adf6f6c39fd82d53f15f663215b209b109762592f98", func := "trunkline/trunklinelaw02.SumsAnyOrder", spec := "sumsAnyOrder", unfollowed := true, recurses := true, apart := false, narrowed := true }
def SumsAnyOrderUptoSaid : Prop := sumsAnyOrderUptoRow.holds Try.pinned (OpenSpec.upto sumsAnyOrderSpec)

/-- 'trunklinelaw02.SumsNet', WHERE WHAT IT READS IS OF BULK AT MOST 1048576: true; the input reads as it did. -/
def sumsNetUptoRow : OpenClaim := { program := "yteepfkolibeekaa", sum := "41e965c102b4425fb96e2adf6f6c39fd82d53f15f663215b209b109762592f98", func := "trunkline/trunklinelaw02.SumsNet", spec := "sumsNet", unfollowed := true, recurses := true, apart := false, narrowed := true }
def SumsNetUptoSaid : Prop := sumsNetUptoRow.holds Try.pinned (OpenSpec.upto sumsNetSpec)

/-- 'trunklinelaw02.SumsSwaps', WHERE WHAT IT READS IS OF BULK AT MOST 1048576: true; the input reads as it did. -/
def sumsSwapsUptoRow : OpenClaim := { program := "yteepfkolibeekaa", sum := "41e965c102b4425fb96e2adf6f6c39fd82d53f15f663215b209b109762592f98", func := "trunkline/trunklinelaw02.SumsSwaps", spec := "sumsSwaps", unfollowed := true, recurses := true, apart := false, narrowed := true }
def SumsSwapsUptoSaid : Prop := sumsSwapsUptoRow.holds Try.pinned (OpenSpec.upto sumsSwapsSpec)

/-- 'trunklinelaw02.SumsOwn', WHERE WHAT IT READS IS OF BULK AT MOST 1048576: true; the input reads as it did. -/
def sumsOwnUptoRow : OpenClaim := { program := "yteepfkolibeekaa", sum := "41e965c102b4425fb96e2adf6f6c39fd82d53f15f663215b209b109762592f98", func := "trunkline/trunklinelaw02.SumsOwn", spec := "sumsOwn", unfollowed := true, recurses := true, apart := false, narrowed := true }
def SumsOwnUptoSaid : Prop := sumsOwnUptoRow.holds Try.pinned (OpenSpec.upto sumsOwnSpec)

/-- 'trunklinelaw02.SumsStamps', WHERE WHAT IT READS IS OF BULK AT MOST 1048576: true; the input reads as it did. -/
def sumsStampsUptoRow : OpenClaim := { program := "yteepfkolibeekaa", sum := "41e965c102b4425fb96e2adf6f6c39fd82d53f15f663215b209b109762592f98", func := "trunkline/trunklinelaw02.SumsStamps", spec := "sumsStamps", unfollowed := true, recurses := true, apart := false, narrowed := true }
def SumsStampsUptoSaid : Prop := sumsStampsUptoRow.holds Try.pinned (OpenSpec.upto sumsStampsSpec)

/-- 'trunklinelaw02.SumsTurned', WHERE WHAT IT READS IS OF BULK AT MOST 1048576: true; the input reads as it did. -/
def sumsTurnedUptoRow : OpenClaim := { program := "yteepfkolibeekaa", sum := "41e965c102b4425fb96e2adf6f6c39fd82d53f15f663215b209b109762592f98", func := "trunkline/trunklinelaw02.SumsTurned", spec := "sumsTurned", unfollowed := true, recurses := true, apart := false, narrowed := true }
def SumsTurnedUptoSaid : Prop := sumsTurnedUptoRow.holds Try.pinned (OpenSpec.upto sumsTurnedSpec)

end Rows
end Go.Proofs.Yteepfkolibeekaa
