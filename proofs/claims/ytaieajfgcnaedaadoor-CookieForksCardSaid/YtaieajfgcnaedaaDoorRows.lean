/-
  NARROWER THAN 'FOR EVERY INPUT', by the rows' own cells (each row's printed sentence says how): HashSums: laid · HashMacs: laid · HashSame: laid · HashKeys: laid · HashNone: laid · CookieLife: laid · CookieLays: laid · CookiePlays: laid · CookieBack: laid · CookieForks: laid · CookieNone: laid.
  DERIVED. THE GIVEN ROWS OF THIS SEAT. 11 by the template 'for every input the law returns true; each argument reads behind the call as it read before'; 0 by the template 'total and deterministic' (their statements: YtaieajfgcnaedaaDoorTotals.lean).
  GIVEN WITH THE SEED: the statements are not yours to turn. If you find one false, say at which input.
  Laid BY PROGRAM, IN A SANDBOX (cutbox-rows.mjs): the forced cells as the released guide's own fill.sh prints them over the translation ebf5b57c33881edb… (all of the seat's roots in one cut). By AI agents, Wed Nov 11 2026. No macro, syntax, notation, axiom, sorry.
-/
import Derived.Test.YtaieajfgcnaedaaDoorChecked
import GoSem.Claim
import GoSem.ClaimJoined
import GoSem.ClaimMapViews
import Derived.JoinedTies
import Derived.KernelRfl
namespace Go.Proofs.YtaieajfgcnaedaaDoor
/- THE CELL 'sum', in the pinned program and in every row, IS THE sha256 OF THE DUMP (.gsa) THAT YtaieajfgcnaedaaDoorProg.lean LOADS. Nothing in Lean hashes anything: it is a label: what it is worth is what the hold of that sum in a sandbox is worth. -/
noncomputable def Tryd.pinned : Pinned := { name := "ytaieajfgcnaedaadoor", sum := "ebf5b57c33881edba51aa559c95dc7bfcf3fc0e4fdce66f8ea90d73c26c92207", checked := Tryd.checked }
namespace Rows
def none {H : Type} : Left H := { results := [], args := [] }

/- WHAT THE LISTED PACKAGE-LEVEL VARIABLES READ AS WHEN THE CALL BEGINS. Each datum BY PROGRAM (the guide's laid-datum.mjs) off the statement by which the dump's own 'gosem.cut.vars' lays the variable. In a bare row this is a premise. The card (YtaieajfgcnaedaaDoorCards.lean) ties it to the program's text. -/
def laid_trunkline_hash_k {H : Type} : DataW H := .agg [.lit (.int .u32 1116352408), .lit (.int .u32 1899447441), .lit (.int .u32 3049323471), .lit (.int .u32 3921009573), .lit (.int .u32 961987163), .lit (.int .u32 1508970993), .lit (.int .u32 2453635748), .lit (.int .u32 2870763221), .lit (.int .u32 3624381080), .lit (.int .u32 310598401), .lit (.int .u32 607225278), .lit (.int .u32 1426881987), .lit (.int .u32 1925078388), .lit (.int .u32 2162078206), .lit (.int .u32 2614888103), .lit (.int .u32 3248222580), .lit (.int .u32 3835390401), .lit (.int .u32 4022224774), .lit (.int .u32 264347078), .lit (.int .u32 604807628), .lit (.int .u32 770255983), .lit (.int .u32 1249150122), .lit (.int .u32 1555081692), .lit (.int .u32 1996064986), .lit (.int .u32 2554220882), .lit (.int .u32 2821834349), .lit (.int .u32 2952996808), .lit (.int .u32 3210313671), .lit (.int .u32 3336571891), .lit (.int .u32 3584528711), .lit (.int .u32 113926993), .lit (.int .u32 338241895), .lit (.int .u32 666307205), .lit (.int .u32 773529912), .lit (.int .u32 1294757372), .lit (.int .u32 1396182291), .lit (.int .u32 1695183700), .lit (.int .u32 1986661051), .lit (.int .u32 2177026350), .lit (.int .u32 2456956037), .lit (.int .u32 2730485921), .lit (.int .u32 2820302411), .lit (.int .u32 3259730800), .lit (.int .u32 3345764771), .lit (.int .u32 3516065817), .lit (.int .u32 3600352804), .lit (.int .u32 4094571909), .lit (.int .u32 275423344), .lit (.int .u32 430227734), .lit (.int .u32 506948616), .lit (.int .u32 659060556), .lit (.int .u32 883997877), .lit (.int .u32 958139571), .lit (.int .u32 1322822218), .lit (.int .u32 1537002063), .lit (.int .u32 1747873779), .lit (.int .u32 1955562222), .lit (.int .u32 2024104815), .lit (.int .u32 2227730452), .lit (.int .u32 2361852424), .lit (.int .u32 2428436474), .lit (.int .u32 2756734187), .lit (.int .u32 3204031479), .lit (.int .u32 3329325298)]

/-- 'trunklinelaw05.HashSums': WHATEVER THE INPUT: true; the input reads as it did. -/
def hashSumsSpec : ChangeSpec := { name := "hashSums", fn := fun _ => fun
  | [d] => { results := [.lit (.bool true)], args := [d] }
  | _ => none }
def hashSumsRow : OpenClaim := { program := "ytaieajfgcnaedaadoor", sum := "ebf5b57c33881edba51aa559c95dc7bfcf3fc0e4fdce66f8ea90d73c26c92207", func := "trunkline/trunklinelaw05.HashSums", spec := "hashSums", named := ["trunkline/hash.k"], apart := false, laid := [("trunkline/hash.k", laid_trunkline_hash_k)] }
def HashSumsSaid : Prop := hashSumsRow.holds Tryd.pinned (OpenSpec.ofChange hashSumsSpec)

/-- ITS FALSE NEIGHBOUR: 'it returns false'. Refute it at one input. -/
def hashSumsWrong : ChangeSpec := { name := "hashSums", fn := fun _ => fun
  | [d] => { results := [.lit (.bool false)], args := [d] }
  | _ => none }
def HashSumsWrongFalsely : Prop := hashSumsRow.holds Tryd.pinned (OpenSpec.ofChange hashSumsWrong)

/-- 'trunklinelaw05.HashMacs': WHATEVER THE INPUT: true; the input reads as it did. -/
def hashMacsSpec : ChangeSpec := { name := "hashMacs", fn := fun _ => fun
  | [d1, d2] => { results := [.lit (.bool true)], args := [d1, d2] }
  | _ => none }
def hashMacsRow : OpenClaim := { program := "ytaieajfgcnaedaadoor", sum := "ebf5b57c33881edba51aa559c95dc7bfcf3fc0e4fdce66f8ea90d73c26c92207", func := "trunkline/trunklinelaw05.HashMacs", spec := "hashMacs", named := ["trunkline/hash.k"], apart := false, laid := [("trunkline/hash.k", laid_trunkline_hash_k)] }
def HashMacsSaid : Prop := hashMacsRow.holds Tryd.pinned (OpenSpec.ofChange hashMacsSpec)

/-- ITS FALSE NEIGHBOUR: 'it returns false'. Refute it at one input. -/
def hashMacsWrong : ChangeSpec := { name := "hashMacs", fn := fun _ => fun
  | [d1, d2] => { results := [.lit (.bool false)], args := [d1, d2] }
  | _ => none }
def HashMacsWrongFalsely : Prop := hashMacsRow.holds Tryd.pinned (OpenSpec.ofChange hashMacsWrong)

/-- 'trunklinelaw05.HashSame': WHATEVER THE INPUT: true; the input reads as it did. -/
def hashSameSpec : ChangeSpec := { name := "hashSame", fn := fun _ => fun
  | [d1, d2, d3] => { results := [.lit (.bool true)], args := [d1, d2, d3] }
  | _ => none }
def hashSameRow : OpenClaim := { program := "ytaieajfgcnaedaadoor", sum := "ebf5b57c33881edba51aa559c95dc7bfcf3fc0e4fdce66f8ea90d73c26c92207", func := "trunkline/trunklinelaw05.HashSame", spec := "hashSame", named := ["trunkline/hash.k"], apart := false, laid := [("trunkline/hash.k", laid_trunkline_hash_k)] }
def HashSameSaid : Prop := hashSameRow.holds Tryd.pinned (OpenSpec.ofChange hashSameSpec)

/-- ITS FALSE NEIGHBOUR: 'it returns false'. Refute it at one input. -/
def hashSameWrong : ChangeSpec := { name := "hashSame", fn := fun _ => fun
  | [d1, d2, d3] => { results := [.lit (.bool false)], args := [d1, d2, d3] }
  | _ => none }
def HashSameWrongFalsely : Prop := hashSameRow.holds Tryd.pinned (OpenSpec.ofChange hashSameWrong)

/-- 'trunklinelaw05.HashKeys': WHATEVER THE INPUT: true; the input reads as it did. -/
def hashKeysSpec : ChangeSpec := { name := "hashKeys", fn := fun _ => fun
  | [d1, d2, d3] => { results := [.lit (.bool true)], args := [d1, d2, d3] }
  | _ => none }
def hashKeysRow : OpenClaim := { program := "ytaieajfgcnaedaadoor", sum := "ebf5b57c33881edba51aa559c95dc7bfcf3fc0e4fdce66f8ea90d73c26c92207", func := "trunkline/trunklinelaw05.HashKeys", spec := "hashKeys", named := ["trunkline/hash.k"], apart := false, laid := [("trunkline/hash.k", laid_trunkline_hash_k)] }
def HashKeysSaid : Prop := hashKeysRow.holds Tryd.pinned (OpenSpec.ofChange hashKeysSpec)

/-- ITS FALSE NEIGHBOUR: 'it returns false'. Refute it at one input. -/
def hashKeysWrong : ChangeSpec := { name := "hashKeys", fn := fun _ => fun
  | [d1, d2, d3] => { results := [.lit (.bool false)], args := [d1, d2, d3] }
  | _ => none }
def HashKeysWrongFalsely : Prop := hashKeysRow.holds Tryd.pinned (OpenSpec.ofChange hashKeysWrong)

/-- 'trunklinelaw05.HashNone': WHATEVER THE INPUT: true; the input reads as it did. -/
def hashNoneSpec : ChangeSpec := { name := "hashNone", fn := fun _ => fun
  | [d] => { results := [.lit (.bool true)], args := [d] }
  | _ => none }
def hashNoneRow : OpenClaim := { program := "ytaieajfgcnaedaadoor", sum := "ebf5b57c33881edba51aa559c95dc7bfcf3fc0e4fdce66f8ea90d73c26c92207", func := "trunkline/trunklinelaw05.HashNone", spec := "hashNone", named := ["trunkline/hash.k"], apart := false, laid := [("trunkline/hash.k", laid_trunkline_hash_k)] }
def HashNoneSaid : Prop := hashNoneRow.holds Tryd.pinned (OpenSpec.ofChange hashNoneSpec)

/-- ITS FALSE NEIGHBOUR: 'it returns false'. Refute it at one input. -/
def hashNoneWrong : ChangeSpec := { name := "hashNone", fn := fun _ => fun
  | [d] => { results := [.lit (.bool false)], args := [d] }
  | _ => none }
def HashNoneWrongFalsely : Prop := hashNoneRow.holds Tryd.pinned (OpenSpec.ofChange hashNoneWrong)

/-- 'trunklinelaw06.CookieLife': WHATEVER THE INPUT: true; the input reads as it did. -/
def cookieLifeSpec : ChangeSpec := { name := "cookieLife", fn := fun _ => fun
  | [d1, d2, d3] => { results := [.lit (.bool true)], args := [d1, d2, d3] }
  | _ => none }
def cookieLifeRow : OpenClaim := { program := "ytaieajfgcnaedaadoor", sum := "ebf5b57c33881edba51aa559c95dc7bfcf3fc0e4fdce66f8ea90d73c26c92207", func := "trunkline/trunklinelaw06.CookieLife", spec := "cookieLife", unfollowed := true, recurses := true, named := ["trunkline/hash.k"], apart := false, laid := [("trunkline/hash.k", laid_trunkline_hash_k)] }
def CookieLifeSaid : Prop := cookieLifeRow.holds Tryd.pinned (OpenSpec.ofChange cookieLifeSpec)

/-- ITS FALSE NEIGHBOUR: 'it returns false'. Refute it at one input. -/
def cookieLifeWrong : ChangeSpec := { name := "cookieLife", fn := fun _ => fun
  | [d1, d2, d3] => { results := [.lit (.bool false)], args := [d1, d2, d3] }
  | _ => none }
def CookieLifeWrongFalsely : Prop := cookieLifeRow.holds Tryd.pinned (OpenSpec.ofChange cookieLifeWrong)

/-- 'trunklinelaw06.CookieLays': WHATEVER THE INPUT: true; the input reads as it did. -/
def cookieLaysSpec : ChangeSpec := { name := "cookieLays", fn := fun _ => fun
  | [d1, d2, d3] => { results := [.lit (.bool true)], args := [d1, d2, d3] }
  | _ => none }
def cookieLaysRow : OpenClaim := { program := "ytaieajfgcnaedaadoor", sum := "ebf5b57c33881edba51aa559c95dc7bfcf3fc0e4fdce66f8ea90d73c26c92207", func := "trunkline/trunklinelaw06.CookieLays", spec := "cookieLays", unfollowed := true, recurses := true, named := ["trunkline/hash.k"], apart := false, laid := [("trunkline/hash.k", laid_trunkline_hash_k)] }
def CookieLaysSaid : Prop := cookieLaysRow.holds Tryd.pinned (OpenSpec.ofChange cookieLaysSpec)

/-- ITS FALSE NEIGHBOUR: 'it returns false'. Refute it at one input. -/
def cookieLaysWrong : ChangeSpec := { name := "cookieLays", fn := fun _ => fun
  | [d1, d2, d3] => { results := [.lit (.bool false)], args := [d1, d2, d3] }
  | _ => none }
def CookieLaysWrongFalsely : Prop := cookieLaysRow.holds Tryd.pinned (OpenSpec.ofChange cookieLaysWrong)

/-- 'trunklinelaw06.CookiePlays': WHATEVER THE INPUT: true; the input reads as it did. -/
def cookiePlaysSpec : ChangeSpec := { name := "cookiePlays", fn := fun _ => fun
  | [d1, d2] => { results := [.lit (.bool true)], args := [d1, d2] }
  | _ => none }
def cookiePlaysRow : OpenClaim := { program := "ytaieajfgcnaedaadoor", sum := "ebf5b57c33881edba51aa559c95dc7bfcf3fc0e4fdce66f8ea90d73c26c92207", func := "trunkline/trunklinelaw06.CookiePlays", spec := "cookiePlays", unfollowed := true, recurses := true, named := ["trunkline/hash.k"], apart := false, laid := [("trunkline/hash.k", laid_trunkline_hash_k)] }
def CookiePlaysSaid : Prop := cookiePlaysRow.holds Tryd.pinned (OpenSpec.ofChange cookiePlaysSpec)

/-- ITS FALSE NEIGHBOUR: 'it returns false'. Refute it at one input. -/
def cookiePlaysWrong : ChangeSpec := { name := "cookiePlays", fn := fun _ => fun
  | [d1, d2] => { results := [.lit (.bool false)], args := [d1, d2] }
  | _ => none }
def CookiePlaysWrongFalsely : Prop := cookiePlaysRow.holds Tryd.pinned (OpenSpec.ofChange cookiePlaysWrong)

/-- 'trunklinelaw06.CookieBack': WHATEVER THE INPUT: true; the input reads as it did. -/
def cookieBackSpec : ChangeSpec := { name := "cookieBack", fn := fun _ => fun
  | [d1, d2, d3] => { results := [.lit (.bool true)], args := [d1, d2, d3] }
  | _ => none }
def cookieBackRow : OpenClaim := { program := "ytaieajfgcnaedaadoor", sum := "ebf5b57c33881edba51aa559c95dc7bfcf3fc0e4fdce66f8ea90d73c26c92207", func := "trunkline/trunklinelaw06.CookieBack", spec := "cookieBack", unfollowed := true, recurses := true, named := ["trunkline/hash.k"], apart := false, laid := [("trunkline/hash.k", laid_trunkline_hash_k)] }
def CookieBackSaid : Prop := cookieBackRow.holds Tryd.pinned (OpenSpec.ofChange cookieBackSpec)

/-- ITS FALSE NEIGHBOUR: 'it returns false'. Refute it at one input. -/
def cookieBackWrong : ChangeSpec := { name := "cookieBack", fn := fun _ => fun
  | [d1, d2, d3] => { results := [.lit (.bool false)], args := [d1, d2, d3] }
  | _ => none }
def CookieBackWrongFalsely : Prop := cookieBackRow.holds Tryd.pinned (OpenSpec.ofChange cookieBackWrong)

/-- 'trunklinelaw06.CookieForks': WHATEVER THE INPUT: true; the input reads as it did. -/
def cookieForksSpec : ChangeSpec := { name := "cookieForks", fn := fun _ => fun
  | [d1, d2, d3] => { results := [.lit (.bool true)], args := [d1, d2, d3] }
  | _ => none }
def cookieForksRow : OpenClaim := { program := "ytaieajfgcnaedaadoor", sum := "ebf5b57c33881edba51aa559c95dc7bfcf3fc0e4fdce66f8ea90d73c26c92207", func := "trunkline/trunklinelaw06.CookieForks", spec := "cookieForks", unfollowed := true, recurses := true, named := ["trunkline/hash.k"], apart := false, laid := [("trunkline/hash.k", laid_trunkline_hash_k)] }
def CookieForksSaid : Prop := cookieForksRow.holds Tryd.pinned (OpenSpec.ofChange cookieForksSpec)

/-- ITS FALSE NEIGHBOUR: 'it returns false'. Refute it at one input. -/
def cookieForksWrong : ChangeSpec := { name := "cookieForks", fn := fun _ => fun
  | [d1, d2, d3] => { results := [.lit (.bool false)], args := [d1, d2, d3] }
  | _ => none }
def CookieForksWrongFalsely : Prop := cookieForksRow.holds Tryd.pinned (OpenSpec.ofChange cookieForksWrong)

/-- 'trunklinelaw06.CookieNone': WHATEVER THE INPUT: true; the input reads as it did. -/
def cookieNoneSpec : ChangeSpec := { name := "cookieNone", fn := fun _ => fun
  | [d1, d2, d3] => { results := [.lit (.bool true)], args := [d1, d2, d3] }
  | _ => none }
def cookieNoneRow : OpenClaim := { program := "ytaieajfgcnaedaadoor", sum := "ebf5b57c33881edba51aa559c95dc7bfcf3fc0e4fdce66f8ea90d73c26c92207", func := "trunkline/trunklinelaw06.CookieNone", spec := "cookieNone", unfollowed := true, recurses := true, named := ["trunkline/hash.k"], apart := false, laid := [("trunkline/hash.k", laid_trunkline_hash_k)] }
def CookieNoneSaid : Prop := cookieNoneRow.holds Tryd.pinned (OpenSpec.ofChange cookieNoneSpec)

/-- ITS FALSE NEIGHBOUR: 'it returns false'. Refute it at one input. -/
def cookieNoneWrong : ChangeSpec := { name := "cookieNone", fn := fun _ => fun
  | [d1, d2, d3] => { results := [.lit (.bool false)], args := [d1, d2, d3] }
  | _ => none }
def CookieNoneWrongFalsely : Prop := cookieNoneRow.holds Tryd.pinned (OpenSpec.ofChange cookieNoneWrong)

/- THE SECOND FORM. 'bulk': how many values and letters a reading holds, each counted each time it is reached (what is shared counts as often as it is met; a slice's spare places count too). A statement '..UptoSaid' is the law's where the arguments, and the package variables that the reading takes, are together of bulk at most 1048576: NARROWER than '..Said'. Prove '..Said' where nothing that the law and all that it calls make is longer than what came in: it says more and counts as full. Else prove '..UptoSaid'. A law counts once. -/
mutual
def uptoBulk {H : Type} : DataW H → Nat
  | .lit (.string bytes) => bytes.length + 1
  | .lit _ => 1
  | .nil => 1
  | .ptr d => uptoBulk d + 1
  | .slice elems spare => uptoBulkAll elems + uptoBulkAll spare + 1
  | .agg parts => uptoBulkAll parts + 1
  | .iface _ d => uptoBulk d + 1
  | .map entries => uptoBulkEntries entries + 1
  | .held _ => 1
def uptoBulkAll {H : Type} : List (DataW H) → Nat
  | [] => 0
  | d :: r => uptoBulk d + uptoBulkAll r
def uptoBulkEntries {H : Type} : List (Lit × DataW H) → Nat
  | [] => 0
  | x :: r => uptoBulkEntry x + uptoBulkEntries r
def uptoBulkEntry {H : Type} : Lit × DataW H → Nat
  | (.string bytes, d) => bytes.length + uptoBulk d + 1
  | (_, d) => uptoBulk d + 1
 end
def uptoSmall : (H : Type) → List (DataW H) → Bool := fun _ ds => decide (uptoBulkAll ds ≤ 1048576)
def OpenSpec.upto (s : _root_.Go.ChangeSpec) : _root_.Go.OpenSpec := { _root_.Go.OpenSpec.ofChange s with cond := some uptoSmall }

/-- 'trunklinelaw05.HashSums', WHERE WHAT IT READS IS OF BULK AT MOST 1048576: true; the input reads as it did. -/
def hashSumsUptoRow : OpenClaim := { program := "ytaieajfgcnaedaadoor", sum := "ebf5b57c33881edba51aa559c95dc7bfcf3fc0e4fdce66f8ea90d73c26c92207", func := "trunkline/trunklinelaw05.HashSums", spec := "hashSums", named := ["trunkline/hash.k"], apart := false, laid := [("trunkline/hash.k", laid_trunkline_hash_k)], narrowed := true }
def HashSumsUptoSaid : Prop := hashSumsUptoRow.holds Tryd.pinned (OpenSpec.upto hashSumsSpec)

/-- 'trunklinelaw05.HashMacs', WHERE WHAT IT READS IS OF BULK AT MOST 1048576: true; the input reads as it did. -/
def hashMacsUptoRow : OpenClaim := { program := "ytaieajfgcnaedaadoor", sum := "ebf5b57c33881edba51aa559c95dc7bfcf3fc0e4fdce66f8ea90d73c26c92207", func := "trunkline/trunklinelaw05.HashMacs", spec := "hashMacs", named := ["trunkline/hash.k"], apart := false, laid := [("trunkline/hash.k", laid_trunkline_hash_k)], narrowed := true }
def HashMacsUptoSaid : Prop := hashMacsUptoRow.holds Tryd.pinned (OpenSpec.upto hashMacsSpec)

/-- 'trunklinelaw05.HashSame', WHERE WHAT IT READS IS OF BULK AT MOST 1048576: true; the input reads as it did. -/
def hashSameUptoRow : OpenClaim := { program := "ytaieajfgcnaedaadoor", sum := "ebf5b57c33881edba51aa559c95dc7bfcf3fc0e4fdce66f8ea90d73c26c92207", func := "trunkline/trunklinelaw05.HashSame", spec := "hashSame", named := ["trunkline/hash.k"], apart := false, laid := [("trunkline/hash.k", laid_trunkline_hash_k)], narrowed := true }
def HashSameUptoSaid : Prop := hashSameUptoRow.holds Tryd.pinned (OpenSpec.upto hashSameSpec)

/-- 'trunklinelaw05.HashKeys', WHERE WHAT IT READS IS OF BULK AT MOST 1048576: true; the input reads as it did. -/
def hashKeysUptoRow : OpenClaim := { program := "ytaieajfgcnaedaadoor", sum := "ebf5b57c33881edba51aa559c95dc7bfcf3fc0e4fdce66f8ea90d73c26c92207", func := "trunkline/trunklinelaw05.HashKeys", spec := "hashKeys", named := ["trunkline/hash.k"], apart := false, laid := [("trunkline/hash.k", laid_trunkline_hash_k)], narrowed := true }
def HashKeysUptoSaid : Prop := hashKeysUptoRow.holds Tryd.pinned (OpenSpec.upto hashKeysSpec)

/-- 'trunklinelaw05.HashNone', WHERE WHAT IT READS IS OF BULK AT MOST 1048576: true; the input reads as it did. -/
def hashNoneUptoRow : OpenClaim := { program := "ytaieajfgcnaedaadoor", sum := "ebf5b57c33881edba51aa559c95dc7bfcf3fc0e4fdce66f8ea90d73c26c92207", func := "trunkline/trunklinelaw05.HashNone", spec := "hashNone", named := ["trunkline/hash.k"], apart := false, laid := [("trunkline/hash.k", laid_trunkline_hash_k)], narrowed := true }
def HashNoneUptoSaid : Prop := hashNoneUptoRow.holds Tryd.pinned (OpenSpec.upto hashNoneSpec)

/-- 'trunklinelaw06.CookieLife', WHERE WHAT IT READS IS OF BULK AT MOST 1048576: true; the input reads as it did. -/
def cookieLifeUptoRow : OpenClaim := { program := "ytaieajfgcnaedaadoor", sum := "ebf5b57c33881edba51aa559c95dc7bfcf3fc0e4fdce66f8ea90d73c26c92207", func := "trunkline/trunklinelaw06.CookieLife", spec := "cookieLife", unfollowed := true, recurses := true, named := ["trunkline/hash.k"], apart := false, laid := [("trunkline/hash.k", laid_trunkline_hash_k)], narrowed := true }
def CookieLifeUptoSaid : Prop := cookieLifeUptoRow.holds Tryd.pinned (OpenSpec.upto cookieLifeSpec)

/-- 'trunklinelaw06.CookieLays', WHERE WHAT IT READS IS OF BULK AT MOST 1048576: true; the input reads as it did. -/
def cookieLaysUptoRow : OpenClaim := { program := "ytaieajfgcnaedaadoor", sum := "ebf5b57c33881edba51aa559c95dc7bfcf3fc0e4fdce66f8ea90d73c26c92207", func := "trunkline/trunklinelaw06.CookieLays", spec := "cookieLays", unfollowed := true, recurses := true, named := ["trunkline/hash.k"], apart := false, laid := [("trunkline/hash.k", laid_trunkline_hash_k)], narrowed := true }
def CookieLaysUptoSaid : Prop := cookieLaysUptoRow.holds Tryd.pinned (OpenSpec.upto cookieLaysSpec)

/-- 'trunklinelaw06.CookiePlays', WHERE WHAT IT READS IS OF BULK AT MOST 1048576: true; the input reads as it did. -/
def cookiePlaysUptoRow : OpenClaim := { program := "ytaieajfgcnaedaadoor", sum := "ebf5b57c33881edba51aa559c95dc7bfcf3fc0e4fdce66f8ea90d73c26c92207", func := "trunkline/trunklinelaw06.CookiePlays", spec := "cookiePlays", unfollowed := true, recurses := true, named := ["trunkline/hash.k"], apart := false, laid := [("trunkline/hash.k", laid_trunkline_hash_k)], narrowed := true }
def CookiePlaysUptoSaid : Prop := cookiePlaysUptoRow.holds Tryd.pinned (OpenSpec.upto cookiePlaysSpec)

/-- 'trunklinelaw06.CookieBack', WHERE WHAT IT READS IS OF BULK AT MOST 1048576: true; the input reads as it did. -/
def cookieBackUptoRow : OpenClaim := { program := "ytaieajfgcnaedaadoor", sum := "ebf5b57c33881edba51aa559c95dc7bfcf3fc0e4fdce66f8ea90d73c26c92207", func := "trunkline/trunklinelaw06.CookieBack", spec := "cookieBack", unfollowed := true, recurses := true, named := ["trunkline/hash.k"], apart := false, laid := [("trunkline/hash.k", laid_trunkline_hash_k)], narrowed := true }
def CookieBackUptoSaid : Prop := cookieBackUptoRow.holds Tryd.pinned (OpenSpec.upto cookieBackSpec)

/-- 'trunklinelaw06.CookieForks', WHERE WHAT IT READS IS OF BULK AT MOST 1048576: true; the input reads as it did. -/
def cookieForksUptoRow : OpenClaim := { program := "ytaieajfgcnaedaadoor", sum := "ebf5b57c33881edba51aa559c95dc7bfcf3fc0e4fdce66f8ea90d73c26c92207", func := "trunkline/trunklinelaw06.CookieForks", spec := "cookieForks", unfollowed := true, recurses := true, named := ["trunkline/hash.k"], apart := false, laid := [("trunkline/hash.k", laid_trunkline_hash_k)], narrowed := true }
def CookieForksUptoSaid : Prop := cookieForksUptoRow.holds Tryd.pinned (OpenSpec.upto cookieForksSpec)

/-- 'trunklinelaw06.CookieNone', WHERE WHAT IT READS IS OF BULK AT MOST 1048576: true; the input reads as it did. -/
def cookieNoneUptoRow : OpenClaim := { program := "ytaieajfgcnaedaadoor", sum := "ebf5b57c33881edba51aa559c95dc7bfcf3fc0e4fdce66f8ea90d73c26c92207", func := "trunkline/trunklinelaw06.CookieNone", spec := "cookieNone", unfollowed := true, recurses := true, named := ["trunkline/hash.k"], apart := false, laid := [("trunkline/hash.k", laid_trunkline_hash_k)], narrowed := true }
def CookieNoneUptoSaid : Prop := cookieNoneUptoRow.holds Tryd.pinned (OpenSpec.upto cookieNoneSpec)

end Rows
end Go.Proofs.YtaieajfgcnaedaaDoor
