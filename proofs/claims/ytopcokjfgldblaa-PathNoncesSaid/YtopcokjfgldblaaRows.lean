/-
  No cell of these rows narrows 'for every input' (looked for: loops, veiled, ifaces, maps, wideKeys, modest, calm, conditions, laid).
  DERIVED. THE GIVEN ROWS OF THIS SEAT. 8 by the template 'for every input the law returns true; each argument reads behind the call as it read before'; 0 by the template 'total and deterministic' (their statements: YtopcokjfgldblaaTotals.lean).
  GIVEN WITH THE SEED: the statements are not yours to turn. If you find one false, say at which input.
  Laid BY PROGRAM, IN A SANDBOX (cutbox-rows.mjs): the forced cells as the released guide's own fill.sh prints them over the translation 99b9ec5b96431d74… (all of the seat's roots in one cut). By AI agents, Wed Nov 11 2026. No macro, syntax, notation, axiom, sorry.
-/
import Derived.Test.YtopcokjfgldblaaChecked
import GoSem.Claim
import GoSem.ClaimJoined
import GoSem.ClaimMapViews
import Derived.JoinedTies
import Derived.KernelRfl
namespace Go.Proofs.Ytopcokjfgldblaa
/- THE CELL 'sum', in the pinned program and in every row, IS THE sha256 OF THE DUMP (.gsa) THAT YtopcokjfgldblaaProg.lean LOADS. Nothing in Lean hashes anything: it is a label: what it is worth is what the hold of that sum in a sandbox is worth. -/
noncomputable def Try.pinned : Pinned := { name := "ytopcokjfgldblaa", sum := "99b9ec5b96431d7420201b0d544e7693050bfa8a30bde6c1e91bf877d49e65ed", checked := Try.checked }
namespace Rows
def none {H : Type} : Left H := { results := [], args := [] }

/-- 'trunklinelaw15.PathSteady': WHATEVER THE INPUT: true; the input reads as it did. -/
def pathSteadySpec : ChangeSpec := { name := "pathSteady", fn := fun _ => fun
  | [d] => { results := [.lit (.bool true)], args := [d] }
  | _ => none }
def pathSteadyRow : OpenClaim := { program := "ytopcokjfgldblaa", sum := "99b9ec5b96431d7420201b0d544e7693050bfa8a30bde6c1e91bf877d49e65ed", func := "trunkline/trunklinelaw15.PathSteady", spec := "pathSteady", apart := false }
def PathSteadySaid : Prop := pathSteadyRow.holds Try.pinned (OpenSpec.ofChange pathSteadySpec)

/-- ITS FALSE NEIGHBOUR: 'it returns false'. Refute it at one input. -/
def pathSteadyWrong : ChangeSpec := { name := "pathSteady", fn := fun _ => fun
  | [d] => { results := [.lit (.bool false)], args := [d] }
  | _ => none }
def PathSteadyWrongFalsely : Prop := pathSteadyRow.holds Try.pinned (OpenSpec.ofChange pathSteadyWrong)

/-- 'trunklinelaw15.PathDown': WHATEVER THE INPUT: true; the input reads as it did. -/
def pathDownSpec : ChangeSpec := { name := "pathDown", fn := fun _ => fun
  | [d] => { results := [.lit (.bool true)], args := [d] }
  | _ => none }
def pathDownRow : OpenClaim := { program := "ytopcokjfgldblaa", sum := "99b9ec5b96431d7420201b0d544e7693050bfa8a30bde6c1e91bf877d49e65ed", func := "trunkline/trunklinelaw15.PathDown", spec := "pathDown", apart := false }
def PathDownSaid : Prop := pathDownRow.holds Try.pinned (OpenSpec.ofChange pathDownSpec)

/-- ITS FALSE NEIGHBOUR: 'it returns false'. Refute it at one input. -/
def pathDownWrong : ChangeSpec := { name := "pathDown", fn := fun _ => fun
  | [d] => { results := [.lit (.bool false)], args := [d] }
  | _ => none }
def PathDownWrongFalsely : Prop := pathDownRow.holds Try.pinned (OpenSpec.ofChange pathDownWrong)

/-- 'trunklinelaw15.PathSlow': WHATEVER THE INPUT: true; the input reads as it did. -/
def pathSlowSpec : ChangeSpec := { name := "pathSlow", fn := fun _ => fun
  | [d1, d2] => { results := [.lit (.bool true)], args := [d1, d2] }
  | _ => none }
def pathSlowRow : OpenClaim := { program := "ytopcokjfgldblaa", sum := "99b9ec5b96431d7420201b0d544e7693050bfa8a30bde6c1e91bf877d49e65ed", func := "trunkline/trunklinelaw15.PathSlow", spec := "pathSlow", apart := false }
def PathSlowSaid : Prop := pathSlowRow.holds Try.pinned (OpenSpec.ofChange pathSlowSpec)

/-- ITS FALSE NEIGHBOUR: 'it returns false'. Refute it at one input. -/
def pathSlowWrong : ChangeSpec := { name := "pathSlow", fn := fun _ => fun
  | [d1, d2] => { results := [.lit (.bool false)], args := [d1, d2] }
  | _ => none }
def PathSlowWrongFalsely : Prop := pathSlowRow.holds Try.pinned (OpenSpec.ofChange pathSlowWrong)

/-- 'trunklinelaw15.PathPlays': WHATEVER THE INPUT: true; the input reads as it did. -/
def pathPlaysSpec : ChangeSpec := { name := "pathPlays", fn := fun _ => fun
  | [d1, d2] => { results := [.lit (.bool true)], args := [d1, d2] }
  | _ => none }
def pathPlaysRow : OpenClaim := { program := "ytopcokjfgldblaa", sum := "99b9ec5b96431d7420201b0d544e7693050bfa8a30bde6c1e91bf877d49e65ed", func := "trunkline/trunklinelaw15.PathPlays", spec := "pathPlays", apart := false }
def PathPlaysSaid : Prop := pathPlaysRow.holds Try.pinned (OpenSpec.ofChange pathPlaysSpec)

/-- ITS FALSE NEIGHBOUR: 'it returns false'. Refute it at one input. -/
def pathPlaysWrong : ChangeSpec := { name := "pathPlays", fn := fun _ => fun
  | [d1, d2] => { results := [.lit (.bool false)], args := [d1, d2] }
  | _ => none }
def PathPlaysWrongFalsely : Prop := pathPlaysRow.holds Try.pinned (OpenSpec.ofChange pathPlaysWrong)

/-- 'trunklinelaw15.PathBounds': WHATEVER THE INPUT: true; the input reads as it did. -/
def pathBoundsSpec : ChangeSpec := { name := "pathBounds", fn := fun _ => fun
  | [d1, d2] => { results := [.lit (.bool true)], args := [d1, d2] }
  | _ => none }
def pathBoundsRow : OpenClaim := { program := "ytopcokjfgldblaa", sum := "99b9ec5b96431d7420201b0d544e7693050bfa8a30bde6c1e91bf877d49e65ed", func := "trunkline/trunklinelaw15.PathBounds", spec := "pathBounds", apart := false }
def PathBoundsSaid : Prop := pathBoundsRow.holds Try.pinned (OpenSpec.ofChange pathBoundsSpec)

/-- ITS FALSE NEIGHBOUR: 'it returns false'. Refute it at one input. -/
def pathBoundsWrong : ChangeSpec := { name := "pathBounds", fn := fun _ => fun
  | [d1, d2] => { results := [.lit (.bool false)], args := [d1, d2] }
  | _ => none }
def PathBoundsWrongFalsely : Prop := pathBoundsRow.holds Try.pinned (OpenSpec.ofChange pathBoundsWrong)

/-- 'trunklinelaw15.PathNonces': WHATEVER THE INPUT: true; the input reads as it did. -/
def pathNoncesSpec : ChangeSpec := { name := "pathNonces", fn := fun _ => fun
  | [d1, d2, d3] => { results := [.lit (.bool true)], args := [d1, d2, d3] }
  | _ => none }
def pathNoncesRow : OpenClaim := { program := "ytopcokjfgldblaa", sum := "99b9ec5b96431d7420201b0d544e7693050bfa8a30bde6c1e91bf877d49e65ed", func := "trunkline/trunklinelaw15.PathNonces", spec := "pathNonces", apart := false }
def PathNoncesSaid : Prop := pathNoncesRow.holds Try.pinned (OpenSpec.ofChange pathNoncesSpec)

/-- ITS FALSE NEIGHBOUR: 'it returns false'. Refute it at one input. -/
def pathNoncesWrong : ChangeSpec := { name := "pathNonces", fn := fun _ => fun
  | [d1, d2, d3] => { results := [.lit (.bool false)], args := [d1, d2, d3] }
  | _ => none }
def PathNoncesWrongFalsely : Prop := pathNoncesRow.holds Try.pinned (OpenSpec.ofChange pathNoncesWrong)

/-- 'trunklinelaw15.PathForks': WHATEVER THE INPUT: true; the input reads as it did. -/
def pathForksSpec : ChangeSpec := { name := "pathForks", fn := fun _ => fun
  | [d1, d2] => { results := [.lit (.bool true)], args := [d1, d2] }
  | _ => none }
def pathForksRow : OpenClaim := { program := "ytopcokjfgldblaa", sum := "99b9ec5b96431d7420201b0d544e7693050bfa8a30bde6c1e91bf877d49e65ed", func := "trunkline/trunklinelaw15.PathForks", spec := "pathForks", apart := false }
def PathForksSaid : Prop := pathForksRow.holds Try.pinned (OpenSpec.ofChange pathForksSpec)

/-- ITS FALSE NEIGHBOUR: 'it returns false'. Refute it at one input. -/
def pathForksWrong : ChangeSpec := { name := "pathForks", fn := fun _ => fun
  | [d1, d2] => { results := [.lit (.bool false)], args := [d1, d2] }
  | _ => none }
def PathForksWrongFalsely : Prop := pathForksRow.holds Try.pinned (OpenSpec.ofChange pathForksWrong)

/-- 'trunklinelaw15.PathNone': WHATEVER THE INPUT: true; the input reads as it did. -/
def pathNoneSpec : ChangeSpec := { name := "pathNone", fn := fun _ => fun
  | [d1, d2, d3] => { results := [.lit (.bool true)], args := [d1, d2, d3] }
  | _ => none }
def pathNoneRow : OpenClaim := { program := "ytopcokjfgldblaa", sum := "99b9ec5b96431d7420201b0d544e7693050bfa8a30bde6c1e91bf877d49e65ed", func := "trunkline/trunklinelaw15.PathNone", spec := "pathNone", apart := false }
def PathNoneSaid : Prop := pathNoneRow.holds Try.pinned (OpenSpec.ofChange pathNoneSpec)

/-- ITS FALSE NEIGHBOUR: 'it returns false'. Refute it at one input. -/
def pathNoneWrong : ChangeSpec := { name := "pathNone", fn := fun _ => fun
  | [d1, d2, d3] => { results := [.lit (.bool false)], args := [d1, d2, d3] }
  | _ => none }
def PathNoneWrongFalsely : Prop := pathNoneRow.holds Try.pinned (OpenSpec.ofChange pathNoneWrong)

/- THE SECOND FORM. 'bulk': how many values and letters a reading holds, each counted each time it is reached (what is shared counts as often as it is met; a slice's spare places count too). A statement '..UptoSaid' is the law's where the arguments, and the package variables that the reading takes, are together of bulk at most 1048576: NARROWER than '..Said'. Prove '..Said' where nothing that the law and all that it calls make is longer than what came in: it says more and counts as full. Else prove '..UptoSaid'. A law counts once. -/
mutual
def uptoBulk {H : Type} : DataW H → Nat
  | .lit (.string bytes) => bytes.length + 1
  | .lit _ => 1
  | .nil => 1
  | .ptr d => uptoBulk d + 1
  | .slice elems spare => uptoBulkAll elems + uptoBulkAll spare + 1
  | .agg parts => uptoBulkAll parts + 1
  | .iface _ d => uptoBulk d + 1
  | .map entries => uptoBulkEntries entries + 1
  | .held _ => 1
def uptoBulkAll {H : Type} : List (DataW H) → Nat
  | [] => 0
  | d :: r => uptoBulk d + uptoBulkAll r
def uptoBulkEntries {H : Type} : List (Lit × DataW H) → Nat
  | [] => 0
  | x :: r => uptoBulkEntry x + uptoBulkEntries r
def uptoBulkEntry {H : Type} : Lit × DataW H → Nat
  | (.string bytes, d) => bytes.length + uptoBulk d + 1
  | (_, d) => uptoBulk d + 1
 end
def uptoSmall : (H : Type) → List (DataW H) → Bool := fun _ ds => decide (uptoBulkAll ds ≤ 1048576)
def OpenSpec.upto (s : _root_.Go.ChangeSpec) : _root_.Go.OpenSpec := { _root_.Go.OpenSpec.ofChange s with cond := some uptoSmall }

/-- 'trunklinelaw15.PathSteady', WHERE WHAT IT READS IS OF BULK AT MOST 1048576: true; the input reads as it did. -/
def pathSteadyUptoRow : OpenClaim := { program := "ytopcokjfgldblaa", sum := "99b9ec5b96431d7420201b0d544e7693050bfa8a30bde6c1e91bf877d49e65ed", func := "trunkline/trunklinelaw15.PathSteady", spec := "pathSteady", apart := false, narrowed := true }
def PathSteadyUptoSaid : Prop := pathSteadyUptoRow.holds Try.pinned (OpenSpec.upto pathSteadySpec)

/-- 'trunklinelaw15.PathDown', WHERE WHAT IT READS IS OF BULK AT MOST 1048576: true; the input reads as it did. -/
def pathDownUptoRow : OpenClaim := { program := "ytopcokjfgldblaa", sum := "99b9ec5b96431d7420201b0d544e7693050bfa8a30bde6c1e91bf877d49e65ed", func := "trunkline/trunklinelaw15.PathDown", spec := "pathDown", apart := false, narrowed := true }
def PathDownUptoSaid : Prop := pathDownUptoRow.holds Try.pinned (OpenSpec.upto pathDownSpec)

/-- 'trunklinelaw15.PathSlow', WHERE WHAT IT READS IS OF BULK AT MOST 1048576: true; the input reads as it did. -/
def pathSlowUptoRow : OpenClaim := { program := "ytopcokjfgldblaa", sum := "99b9ec5b96431d7420201b0d544e7693050bfa8a30bde6c1e91bf877d49e65ed", func := "trunkline/trunklinelaw15.PathSlow", spec := "pathSlow", apart := false, narrowed := true }
def PathSlowUptoSaid : Prop := pathSlowUptoRow.holds Try.pinned (OpenSpec.upto pathSlowSpec)

/-- 'trunklinelaw15.PathPlays', WHERE WHAT IT READS IS OF BULK AT MOST 1048576: true; the input reads as it did. -/
def pathPlaysUptoRow : OpenClaim := { program := "ytopcokjfgldblaa", sum := "99b9ec5b96431d7420201b0d544e7693050bfa8a30bde6c1e91bf877d49e65ed", func := "trunkline/trunklinelaw15.PathPlays", spec := "pathPlays", apart := false, narrowed := true }
def PathPlaysUptoSaid : Prop := pathPlaysUptoRow.holds Try.pinned (OpenSpec.upto pathPlaysSpec)

/-- 'trunklinelaw15.PathBounds', WHERE WHAT IT READS IS OF BULK AT MOST 1048576: true; the input reads as it did. -/
def pathBoundsUptoRow : OpenClaim := { program := "ytopcokjfgldblaa", sum := "99b9ec5b96431d7420201b0d544e7693050bfa8a30bde6c1e91bf877d49e65ed", func := "trunkline/trunklinelaw15.PathBounds", spec := "pathBounds", apart := false, narrowed := true }
def PathBoundsUptoSaid : Prop := pathBoundsUptoRow.holds Try.pinned (OpenSpec.upto pathBoundsSpec)

/-- 'trunklinelaw15.PathNonces', WHERE WHAT IT READS IS OF BULK AT MOST 1048576: true; the input reads as it did. -/
def pathNoncesUptoRow : OpenClaim := { program := "ytopcokjfgldblaa", sum := "99b9ec5b96431d7420201b0d544e7693050bfa8a30bde6c1e91bf877d49e65ed", func := "trunkline/trunklinelaw15.PathNonces", spec := "pathNonces", apart := false, narrowed := true }
def PathNoncesUptoSaid : Prop := pathNoncesUptoRow.holds Try.pinned (OpenSpec.upto pathNoncesSpec)

/-- 'trunklinelaw15.PathForks', WHERE WHAT IT READS IS OF BULK AT MOST 1048576: true; the input reads as it did. -/
def pathForksUptoRow : OpenClaim := { program := "ytopcokjfgldblaa", sum := "99b9ec5b96431d7420201b0d544e7693050bfa8a30bde6c1e91bf877d49e65ed", func := "trunkline/trunklinelaw15.PathForks", spec := "pathForks", apart := false, narrowed := true }
def PathForksUptoSaid : Prop := pathForksUptoRow.holds Try.pinned (OpenSpec.upto pathForksSpec)

/-- 'trunklinelaw15.PathNone', WHERE WHAT IT READS IS OF BULK AT MOST 1048576: true; the input reads as it did. -/
def pathNoneUptoRow : OpenClaim := { program := "ytopcokjfgldblaa", sum := "99b9ec5b96431d7420201b0d544e7693050bfa8a30bde6c1e91bf877d49e65ed", func := "trunkline/trunklinelaw15.PathNone", spec := "pathNone", apart := false, narrowed := true }
def PathNoneUptoSaid : Prop := pathNoneUptoRow.holds Try.pinned (OpenSpec.upto pathNoneSpec)

end Rows
end Go.Proofs.Ytopcokjfgldblaa
