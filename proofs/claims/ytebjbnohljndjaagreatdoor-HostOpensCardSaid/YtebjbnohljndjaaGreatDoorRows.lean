/-
  NARROWER THAN 'FOR EVERY INPUT', by the rows' own cells (each row's printed sentence says how): HostEchoes: laid · HostRefuses: laid · HostOpens: laid · HostAsked: laid · HostLimits: laid · HostSockets: laid · HostNone: laid.
  DERIVED. THE GIVEN ROWS OF THIS SEAT. 7 by the template 'for every input the law returns true; each argument reads behind the call as it read before'; 0 by the template 'total and deterministic' (their statements: YtebjbnohljndjaaGreatDoorTotals.lean).
  GIVEN WITH THE SEED: the statements are not yours to turn. If you find one false, say at which input.
  Laid BY PROGRAM, IN A SANDBOX (cutbox-rows.mjs): the forced cells as the released guide's own fill.sh prints them over the translation f4ac5a787cddb579… (all of the seat's roots in one cut). By AI agents, Wed Nov 11 2026. No macro, syntax, notation, axiom, sorry.
-/
import Derived.Test.YtebjbnohljndjaaGreatDoorChecked
import GoSem.Claim
import GoSem.ClaimJoined
import GoSem.ClaimMapViews
import Derived.JoinedTies
import Derived.KernelRfl
namespace Go.Proofs.YtebjbnohljndjaaGreatDoor
/- THE CELL 'sum', in the pinned program and in every row, IS THE sha256 OF THE DUMP (.gsa) THAT YtebjbnohljndjaaGreatDoorProg.lean LOADS. Nothing in Lean hashes anything: it is a label: what it is worth is what the hold of that sum in a sandbox is worth. -/
noncomputable def Tryz.pinned : Pinned := { name := "ytebjbnohljndjaagreatdoor", sum := "f4ac5a787cddb579d0c72b5e191dbf3162a4e1ddf69bb0c5b592963a4c09218e", checked := Tryz.checked }
namespace Rows
def none {H : Type} : Left H := { results := [], args := [] }

/- WHAT THE LISTED PACKAGE-LEVEL VARIABLES READ AS WHEN THE CALL BEGINS. Each datum BY PROGRAM (the guide's laid-datum.mjs) off the statement by which the dump's own 'gosem.cut.vars' lays the variable. In a bare row this is a premise. The card (YtebjbnohljndjaaGreatDoorCards.lean) ties it to the program's text. -/
def laid_trunkline_hash_k {H : Type} : DataW H := .agg [.lit (.int .u32 1116352408), .lit (.int .u32 1899447441), .lit (.int .u32 3049323471), .lit (.int .u32 3921009573), .lit (.int .u32 961987163), .lit (.int .u32 1508970993), .lit (.int .u32 2453635748), .lit (.int .u32 2870763221), .lit (.int .u32 3624381080), .lit (.int .u32 310598401), .lit (.int .u32 607225278), .lit (.int .u32 1426881987), .lit (.int .u32 1925078388), .lit (.int .u32 2162078206), .lit (.int .u32 2614888103), .lit (.int .u32 3248222580), .lit (.int .u32 3835390401), .lit (.int .u32 4022224774), .lit (.int .u32 264347078), .lit (.int .u32 604807628), .lit (.int .u32 770255983), .lit (.int .u32 1249150122), .lit (.int .u32 1555081692), .lit (.int .u32 1996064986), .lit (.int .u32 2554220882), .lit (.int .u32 2821834349), .lit (.int .u32 2952996808), .lit (.int .u32 3210313671), .lit (.int .u32 3336571891), .lit (.int .u32 3584528711), .lit (.int .u32 113926993), .lit (.int .u32 338241895), .lit (.int .u32 666307205), .lit (.int .u32 773529912), .lit (.int .u32 1294757372), .lit (.int .u32 1396182291), .lit (.int .u32 1695183700), .lit (.int .u32 1986661051), .lit (.int .u32 2177026350), .lit (.int .u32 2456956037), .lit (.int .u32 2730485921), .lit (.int .u32 2820302411), .lit (.int .u32 3259730800), .lit (.int .u32 3345764771), .lit (.int .u32 3516065817), .lit (.int .u32 3600352804), .lit (.int .u32 4094571909), .lit (.int .u32 275423344), .lit (.int .u32 430227734), .lit (.int .u32 506948616), .lit (.int .u32 659060556), .lit (.int .u32 883997877), .lit (.int .u32 958139571), .lit (.int .u32 1322822218), .lit (.int .u32 1537002063), .lit (.int .u32 1747873779), .lit (.int .u32 1955562222), .lit (.int .u32 2024104815), .lit (.int .u32 2227730452), .lit (.int .u32 2361852424), .lit (.int .u32 2428436474), .lit (.int .u32 2756734187), .lit (.int .u32 3204031479), .lit (.int .u32 3329325298)]

/-- 'trunklinelaw17.HostEchoes': WHATEVER THE INPUT: true; the input reads as it did. -/
def hostEchoesSpec : ChangeSpec := { name := "hostEchoes", fn := fun _ => fun
  | [d1, d2, d3] => { results := [.lit (.bool true)], args := [d1, d2, d3] }
  | _ => none }
def hostEchoesRow : OpenClaim := { program := "ytebjbnohljndjaagreatdoor", sum := "f4ac5a787cddb579d0c72b5e191dbf3162a4e1ddf69bb0c5b592963a4c09218e", func := "trunkline/trunklinelaw17.HostEchoes", spec := "hostEchoes", inPlace := ["slices.overlaps[byte]", "slices.overlaps[trunkline/api.Packet]"], unfollowed := true, recurses := true, named := ["trunkline/hash.k"], plainKeys := false, apart := false, laid := [("trunkline/hash.k", laid_trunkline_hash_k)] }
def HostEchoesSaid : Prop := hostEchoesRow.holds Tryz.pinned (OpenSpec.ofChange hostEchoesSpec)

/-- ITS FALSE NEIGHBOUR: 'it returns false'. Refute it at one input. -/
def hostEchoesWrong : ChangeSpec := { name := "hostEchoes", fn := fun _ => fun
  | [d1, d2, d3] => { results := [.lit (.bool false)], args := [d1, d2, d3] }
  | _ => none }
def HostEchoesWrongFalsely : Prop := hostEchoesRow.holds Tryz.pinned (OpenSpec.ofChange hostEchoesWrong)

/-- 'trunklinelaw17.HostRefuses': WHATEVER THE INPUT: true; the input reads as it did. -/
def hostRefusesSpec : ChangeSpec := { name := "hostRefuses", fn := fun _ => fun
  | [d1, d2] => { results := [.lit (.bool true)], args := [d1, d2] }
  | _ => none }
def hostRefusesRow : OpenClaim := { program := "ytebjbnohljndjaagreatdoor", sum := "f4ac5a787cddb579d0c72b5e191dbf3162a4e1ddf69bb0c5b592963a4c09218e", func := "trunkline/trunklinelaw17.HostRefuses", spec := "hostRefuses", inPlace := ["slices.overlaps[byte]", "slices.overlaps[trunkline/api.Packet]"], unfollowed := true, recurses := true, named := ["trunkline/hash.k"], plainKeys := false, apart := false, laid := [("trunkline/hash.k", laid_trunkline_hash_k)] }
def HostRefusesSaid : Prop := hostRefusesRow.holds Tryz.pinned (OpenSpec.ofChange hostRefusesSpec)

/-- ITS FALSE NEIGHBOUR: 'it returns false'. Refute it at one input. -/
def hostRefusesWrong : ChangeSpec := { name := "hostRefuses", fn := fun _ => fun
  | [d1, d2] => { results := [.lit (.bool false)], args := [d1, d2] }
  | _ => none }
def HostRefusesWrongFalsely : Prop := hostRefusesRow.holds Tryz.pinned (OpenSpec.ofChange hostRefusesWrong)

/-- 'trunklinelaw17.HostOpens': WHATEVER THE INPUT: true; the input reads as it did. -/
def hostOpensSpec : ChangeSpec := { name := "hostOpens", fn := fun _ => fun
  | [d] => { results := [.lit (.bool true)], args := [d] }
  | _ => none }
def hostOpensRow : OpenClaim := { program := "ytebjbnohljndjaagreatdoor", sum := "f4ac5a787cddb579d0c72b5e191dbf3162a4e1ddf69bb0c5b592963a4c09218e", func := "trunkline/trunklinelaw17.HostOpens", spec := "hostOpens", inPlace := ["slices.overlaps[byte]", "slices.overlaps[trunkline/api.Packet]"], unfollowed := true, recurses := true, named := ["trunkline/hash.k"], plainKeys := false, apart := false, laid := [("trunkline/hash.k", laid_trunkline_hash_k)] }
def HostOpensSaid : Prop := hostOpensRow.holds Tryz.pinned (OpenSpec.ofChange hostOpensSpec)

/-- ITS FALSE NEIGHBOUR: 'it returns false'. Refute it at one input. -/
def hostOpensWrong : ChangeSpec := { name := "hostOpens", fn := fun _ => fun
  | [d] => { results := [.lit (.bool false)], args := [d] }
  | _ => none }
def HostOpensWrongFalsely : Prop := hostOpensRow.holds Tryz.pinned (OpenSpec.ofChange hostOpensWrong)

/-- 'trunklinelaw17.HostAsked': WHATEVER THE INPUT: true; the input reads as it did. -/
def hostAskedSpec : ChangeSpec := { name := "hostAsked", fn := fun _ => fun
  | [d1, d2, d3] => { results := [.lit (.bool true)], args := [d1, d2, d3] }
  | _ => none }
def hostAskedRow : OpenClaim := { program := "ytebjbnohljndjaagreatdoor", sum := "f4ac5a787cddb579d0c72b5e191dbf3162a4e1ddf69bb0c5b592963a4c09218e", func := "trunkline/trunklinelaw17.HostAsked", spec := "hostAsked", inPlace := ["slices.overlaps[byte]", "slices.overlaps[trunkline/api.Packet]"], unfollowed := true, recurses := true, named := ["trunkline/hash.k"], plainKeys := false, apart := false, laid := [("trunkline/hash.k", laid_trunkline_hash_k)] }
def HostAskedSaid : Prop := hostAskedRow.holds Tryz.pinned (OpenSpec.ofChange hostAskedSpec)

/-- ITS FALSE NEIGHBOUR: 'it returns false'. Refute it at one input. -/
def hostAskedWrong : ChangeSpec := { name := "hostAsked", fn := fun _ => fun
  | [d1, d2, d3] => { results := [.lit (.bool false)], args := [d1, d2, d3] }
  | _ => none }
def HostAskedWrongFalsely : Prop := hostAskedRow.holds Tryz.pinned (OpenSpec.ofChange hostAskedWrong)

/-- 'trunklinelaw17.HostLimits': WHATEVER THE INPUT: true; the input reads as it did. -/
def hostLimitsSpec : ChangeSpec := { name := "hostLimits", fn := fun _ => fun
  | [d] => { results := [.lit (.bool true)], args := [d] }
  | _ => none }
def hostLimitsRow : OpenClaim := { program := "ytebjbnohljndjaagreatdoor", sum := "f4ac5a787cddb579d0c72b5e191dbf3162a4e1ddf69bb0c5b592963a4c09218e", func := "trunkline/trunklinelaw17.HostLimits", spec := "hostLimits", inPlace := ["slices.overlaps[byte]", "slices.overlaps[trunkline/api.Packet]"], unfollowed := true, recurses := true, named := ["trunkline/hash.k"], plainKeys := false, apart := false, laid := [("trunkline/hash.k", laid_trunkline_hash_k)] }
def HostLimitsSaid : Prop := hostLimitsRow.holds Tryz.pinned (OpenSpec.ofChange hostLimitsSpec)

/-- ITS FALSE NEIGHBOUR: 'it returns false'. Refute it at one input. -/
def hostLimitsWrong : ChangeSpec := { name := "hostLimits", fn := fun _ => fun
  | [d] => { results := [.lit (.bool false)], args := [d] }
  | _ => none }
def HostLimitsWrongFalsely : Prop := hostLimitsRow.holds Tryz.pinned (OpenSpec.ofChange hostLimitsWrong)

/-- 'trunklinelaw17.HostSockets': WHATEVER THE INPUT: true; the input reads as it did. -/
def hostSocketsSpec : ChangeSpec := { name := "hostSockets", fn := fun _ => fun
  | [d] => { results := [.lit (.bool true)], args := [d] }
  | _ => none }
def hostSocketsRow : OpenClaim := { program := "ytebjbnohljndjaagreatdoor", sum := "f4ac5a787cddb579d0c72b5e191dbf3162a4e1ddf69bb0c5b592963a4c09218e", func := "trunkline/trunklinelaw17.HostSockets", spec := "hostSockets", inPlace := ["slices.overlaps[byte]", "slices.overlaps[trunkline/api.Packet]"], unfollowed := true, recurses := true, named := ["trunkline/hash.k"], plainKeys := false, apart := false, laid := [("trunkline/hash.k", laid_trunkline_hash_k)] }
def HostSocketsSaid : Prop := hostSocketsRow.holds Tryz.pinned (OpenSpec.ofChange hostSocketsSpec)

/-- ITS FALSE NEIGHBOUR: 'it returns false'. Refute it at one input. -/
def hostSocketsWrong : ChangeSpec := { name := "hostSockets", fn := fun _ => fun
  | [d] => { results := [.lit (.bool false)], args := [d] }
  | _ => none }
def HostSocketsWrongFalsely : Prop := hostSocketsRow.holds Tryz.pinned (OpenSpec.ofChange hostSocketsWrong)

/-- 'trunklinelaw17.HostNone': WHATEVER THE INPUT: true; the input reads as it did. -/
def hostNoneSpec : ChangeSpec := { name := "hostNone", fn := fun _ => fun
  | [d1, d2, d3] => { results := [.lit (.bool true)], args := [d1, d2, d3] }
  | _ => none }
def hostNoneRow : OpenClaim := { program := "ytebjbnohljndjaagreatdoor", sum := "f4ac5a787cddb579d0c72b5e191dbf3162a4e1ddf69bb0c5b592963a4c09218e", func := "trunkline/trunklinelaw17.HostNone", spec := "hostNone", inPlace := ["slices.overlaps[byte]", "slices.overlaps[trunkline/api.Packet]"], unfollowed := true, recurses := true, named := ["trunkline/hash.k"], plainKeys := false, apart := false, laid := [("trunkline/hash.k", laid_trunkline_hash_k)] }
def HostNoneSaid : Prop := hostNoneRow.holds Tryz.pinned (OpenSpec.ofChange hostNoneSpec)

/-- ITS FALSE NEIGHBOUR: 'it returns false'. Refute it at one input. -/
def hostNoneWrong : ChangeSpec := { name := "hostNone", fn := fun _ => fun
  | [d1, d2, d3] => { results := [.lit (.bool false)], args := [d1, d2, d3] }
  | _ => none }
def HostNoneWrongFalsely : Prop := hostNoneRow.holds Tryz.pinned (OpenSpec.ofChange hostNoneWrong)

/- THE SECOND FORM. 'bulk': how many values and letters a reading holds, each counted each time it is reached (what is shared counts as often as it is met; a slice's spare places count too). A statement '..UptoSaid' is the law's where the arguments, and the package variables that the reading takes, are together of bulk at most 1048576: NARROWER than '..Said'. Prove '..Said' where nothing that the law and all that it calls make is longer than what came in: it says more and counts as full. Else prove '..UptoSaid'. A law counts once. -/
mutual
def uptoBulk {H : Type} : DataW H → Nat
  | .lit (.string bytes) => bytes.length + 1
  | .lit _ => 1
  | .nil => 1
  | .ptr d => uptoBulk d + 1
  | .slice elems spare => uptoBulkAll elems + uptoBulkAll spare + 1
  | .agg parts => uptoBulkAll parts + 1
  | .iface _ d => uptoBulk d + 1
  | .map entries => uptoBulkEntries entries + 1
  | .held _ => 1
def uptoBulkAll {H : Type} : List (DataW H) → Nat
  | [] => 0
  | d :: r => uptoBulk d + uptoBulkAll r
def uptoBulkEntries {H : Type} : List (Lit × DataW H) → Nat
  | [] => 0
  | x :: r => uptoBulkEntry x + uptoBulkEntries r
def uptoBulkEntry {H : Type} : Lit × DataW H → Nat
  | (.string bytes, d) => bytes.length + uptoBulk d + 1
  | (_, d) => uptoBulk d + 1
 end
def uptoSmall : (H : Type) → List (DataW H) → Bool := fun _ ds => decide (uptoBulkAll ds ≤ 1048576)
def OpenSpec.upto (s : _root_.Go.ChangeSpec) : _root_.Go.OpenSpec := { _root_.Go.OpenSpec.ofChange s with cond := some uptoSmall }

/-- 'trunklinelaw17.HostEchoes', WHERE WHAT IT READS IS OF BULK AT MOST 1048576: true; the input reads as it did. -/
def hostEchoesUptoRow : OpenClaim := { program := "ytebjbnohljndjaagreatdoor", sum := "f4ac5a787cddb579d0c72b5e191dbf3162a4e1ddf69bb0c5b592963a4c09218e", func := "trunkline/trunklinelaw17.HostEchoes", spec := "hostEchoes", inPlace := ["slices.overlaps[byte]", "slices.overlaps[trunkline/api.Packet]"], unfollowed := true, recurses := true, named := ["trunkline/hash.k"], plainKeys := false, apart := false, laid := [("trunkline/hash.k", laid_trunkline_hash_k)], narrowed := true }
def HostEchoesUptoSaid : Prop := hostEchoesUptoRow.holds Tryz.pinned (OpenSpec.upto hostEchoesSpec)

/-- 'trunklinelaw17.HostRefuses', WHERE WHAT IT READS IS OF BULK AT MOST 1048576: true; the input reads as it did. -/
def hostRefusesUptoRow : OpenClaim := { program := "ytebjbnohljndjaagreatdoor", sum := "f4ac5a787cddb579d0c72b5e191dbf3162a4e1ddf69bb0c5b592963a4c09218e", func := "trunkline/trunklinelaw17.HostRefuses", spec := "hostRefuses", inPlace := ["slices.overlaps[byte]", "slices.overlaps[trunkline/api.Packet]"], unfollowed := true, recurses := true, named := ["trunkline/hash.k"], plainKeys := false, apart := false, laid := [("trunkline/hash.k", laid_trunkline_hash_k)], narrowed := true }
def HostRefusesUptoSaid : Prop := hostRefusesUptoRow.holds Tryz.pinned (OpenSpec.upto hostRefusesSpec)

/-- 'trunklinelaw17.HostOpens', WHERE WHAT IT READS IS OF BULK AT MOST 1048576: true; the input reads as it did. -/
def hostOpensUptoRow : OpenClaim := { program := "ytebjbnohljndjaagreatdoor", sum := "f4ac5a787cddb579d0c72b5e191dbf3162a4e1ddf69bb0c5b592963a4c09218e", func := "trunkline/trunklinelaw17.HostOpens", spec := "hostOpens", inPlace := ["slices.overlaps[byte]", "slices.overlaps[trunkline/api.Packet]"], unfollowed := true, recurses := true, named := ["trunkline/hash.k"], plainKeys := false, apart := false, laid := [("trunkline/hash.k", laid_trunkline_hash_k)], narrowed := true }
def HostOpensUptoSaid : Prop := hostOpensUptoRow.holds Tryz.pinned (OpenSpec.upto hostOpensSpec)

/-- 'trunklinelaw17.HostAsked', WHERE WHAT IT READS IS OF BULK AT MOST 1048576: true; the input reads as it did. -/
def hostAskedUptoRow : OpenClaim := { program := "ytebjbnohljndjaagreatdoor", sum := "f4ac5a787cddb579d0c72b5e191dbf3162a4e1ddf69bb0c5b592963a4c09218e", func := "trunkline/trunklinelaw17.HostAsked", spec := "hostAsked", inPlace := ["slices.overlaps[byte]", "slices.overlaps[trunkline/api.Packet]"], unfollowed := true, recurses := true, named := ["trunkline/hash.k"], plainKeys := false, apart := false, laid := [("trunkline/hash.k", laid_trunkline_hash_k)], narrowed := true }
def HostAskedUptoSaid : Prop := hostAskedUptoRow.holds Tryz.pinned (OpenSpec.upto hostAskedSpec)

/-- 'trunklinelaw17.HostLimits', WHERE WHAT IT READS IS OF BULK AT MOST 1048576: true; the input reads as it did. -/
def hostLimitsUptoRow : OpenClaim := { program := "ytebjbnohljndjaagreatdoor", sum := "f4ac5a787cddb579d0c72b5e191dbf3162a4e1ddf69bb0c5b592963a4c09218e", func := "trunkline/trunklinelaw17.HostLimits", spec := "hostLimits", inPlace := ["slices.overlaps[byte]", "slices.overlaps[trunkline/api.Packet]"], unfollowed := true, recurses := true, named := ["trunkline/hash.k"], plainKeys := false, apart := false, laid := [("trunkline/hash.k", laid_trunkline_hash_k)], narrowed := true }
def HostLimitsUptoSaid : Prop := hostLimitsUptoRow.holds Tryz.pinned (OpenSpec.upto hostLimitsSpec)

/-- 'trunklinelaw17.HostSockets', WHERE WHAT IT READS IS OF BULK AT MOST 1048576: true; the input reads as it did. -/
def hostSocketsUptoRow : OpenClaim := { program := "ytebjbnohljndjaagreatdoor", sum := "f4ac5a787cddb579d0c72b5e191dbf3162a4e1ddf69bb0c5b592963a4c09218e", func := "trunkline/trunklinelaw17.HostSockets", spec := "hostSockets", inPlace := ["slices.overlaps[byte]", "slices.overlaps[trunkline/api.Packet]"], unfollowed := true, recurses := true, named := ["trunkline/hash.k"], plainKeys := false, apart := false, laid := [("trunkline/hash.k", laid_trunkline_hash_k)], narrowed := true }
def HostSocketsUptoSaid : Prop := hostSocketsUptoRow.holds Tryz.pinned (OpenSpec.upto hostSocketsSpec)

/-- 'trunklinelaw17.HostNone', WHERE WHAT IT READS IS OF BULK AT MOST 1048576: true; the input reads as it did. -/
def hostNoneUptoRow : OpenClaim := { program := "ytebjbnohljndjaagreatdoor", sum := "f4ac5a787cddb579d0c72b5e191dbf3162a4e1ddf69bb0c5b592963a4c09218e", func := "trunkline/trunklinelaw17.HostNone", spec := "hostNone", inPlace := ["slices.overlaps[byte]", "slices.overlaps[trunkline/api.Packet]"], unfollowed := true, recurses := true, named := ["trunkline/hash.k"], plainKeys := false, apart := false, laid := [("trunkline/hash.k", laid_trunkline_hash_k)], narrowed := true }
def HostNoneUptoSaid : Prop := hostNoneUptoRow.holds Tryz.pinned (OpenSpec.upto hostNoneSpec)

end Rows
end Go.Proofs.YtebjbnohljndjaaGreatDoor
