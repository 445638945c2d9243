/-
  The evaluator and the compiler of the code.
-/
import Derived.Orders
set_option linter.unusedVariables false
set_option linter.unusedSimpArgs false
namespace Go.Ev
open Go

/-! ### Keys and trees -/
inductive Pos where
  | z | o (p : Pos) | i (p : Pos)
  deriving DecidableEq, Repr, Inhabited
def Pos.succ : Pos → Pos
  | .z => .o .z
  | .o p => .i p
  | .i p => .o p.succ
/-- Nat's key: 0 ↦ z (= 1 in binary). -/
def Pos.ofNat : Nat → Pos
  | 0 => .z
  | n + 1 => (Pos.ofNat n).succ
def Pos.toNat : Pos → Nat
  | .z => 1
  | .o p => 2 * p.toNat
  | .i p => 2 * p.toNat + 1
inductive PT (α : Type) where
  | leaf
  | node (v : Option α) (l r : PT α)
  deriving Inhabited
def PT.get {α} : PT α → Pos → Option α
  | .leaf, _ => none
  | .node v _ _, .z => v
  | .node _ l _, .o p => l.get p
  | .node _ _ r, .i p => r.get p
def PT.sing {α} (v : α) : Pos → PT α
  | .z => .node (some v) .leaf .leaf
  | .o p => .node none (PT.sing v p) .leaf
  | .i p => .node none .leaf (PT.sing v p)
def PT.set {α} (v : α) : PT α → Pos → PT α
  | .leaf, p => PT.sing v p
  | .node _ l r, .z => .node (some v) l r
  | .node w l r, .o p => .node w (l.set v p) r
  | .node w l r, .i p => .node w l (r.set v p)
def PT.del {α} : PT α → Pos → PT α
  | .leaf, _ => .leaf
  | .node _ l r, .z => .node none l r
  | .node w l r, .o p => .node w (l.del p) r
  | .node w l r, .i p => .node w l (r.del p)

/-! ### Values -/
inductive AVal where
  | bool (b : Bool)
  | int (k : IntKind) (n : Int)
  | str (s : List UInt8)
  | nilptr
  | ptr (id : Pos) (off : Nat)
  | nilslice
  | slice (id : Pos) (off len : Nat) (cap : Option Nat) (sz : Nat)
  | nilmap
  | map (id : Pos)
  | func (f : FuncId) (first captured : List AVal)
  | nilfunc
  | agg (cs : List AVal)
  | tuple (vs : List AVal)
  /-- an integer that is known but for a start: the i-th unknown and c -/
  | lin (k : IntKind) (i : Nat) (c : Int)
  /-- an integer between two bounds -/
  | rng (k : IntKind) (lo hi : Int)
  /-- the i-th opaque value -/
  | opq (i : Nat)
  deriving Inhabited
def AVal.undef : AVal := .tuple []
def AVal.cells : AVal → List AVal
  | .agg cs => cs
  | v => [v]
/-- a value that fills one cell -/
def AVal.one : AVal → Bool
  | .agg _ | .tuple _ => false
  | _ => true
/-- The same plain value? (false where it isn't known) -/
def AVal.same1 : AVal → AVal → Bool
  | .bool a, .bool b => a == b
  | .int j a, .int k b => j == k && a == b
  | .str a, .str b => a == b
  | .nilptr, .nilptr | .nilslice, .nilslice | .nilmap, .nilmap | .nilfunc, .nilfunc => true
  | .ptr a m, .ptr b n => a == b && m == n
  | .slice a m l c z, .slice b n k d y => a == b && m == n && l == k && c == d && z == y
  | .map a, .map b => a == b
  | .lin j a c, .lin k b d => j == k && a == b && c == d
  | .rng j a c, .rng k b d => j == k && a == b && c == d
  | .opq a, .opq b => a == b
  | _, _ => false
def same1s : List AVal → List AVal → Bool
  | [], [] => true
  | a :: x, b :: y => AVal.same1 a b && same1s x y
  | _, _ => false
def AVal.same2 : AVal → AVal → Bool
  | .agg x, .agg y => same1s x y
  | a, b => AVal.same1 a b
def same2s : List AVal → List AVal → Bool
  | [], [] => true
  | a :: x, b :: y => AVal.same2 a b && same2s x y
  | _, _ => false
def AVal.same : AVal → AVal → Bool
  | .tuple x, .tuple y => same2s x y
  | a, b => AVal.same2 a b

inductive ABlk where
  | cells (cs : List AVal) (ro : Bool)
  | map (es : List (AVal × AVal))
  deriving Inhabited

/-! ### Code -/
inductive AOpd where
  | tmp (p : Pos)
  | val (v : AVal)
  deriving Inhabited
inductive SK where
  | b | i | s
  deriving Inhabited
inductive EqK where
  | bool | ptr | slice | map | func | agg (offs : List (Nat × SK))
  deriving Inhabited
inductive AOp where
  | move (x : AOpd)
  | pick (c a b : AOpd)
  | alloc (zero : List AVal)
  | box (x : AOpd)
  | build (zero : List AVal) (parts : List (Nat × Nat × AOpd))
  | buildSlice (zero : List AVal) (sz len : Nat) (parts : List (Nat × AOpd))
  | load (n : Option Nat) (a : AOpd)
  | store (n : Nat) (a x : AOpd)
  | nilCheck (x : AOpd)
  | bin (op : BinOp) (x y : AOpd)
  | eq (neg : Bool) (k : EqK) (x y : AOpd)
  | un (op : UnOp) (x : AOpd)
  | toInt (k : IntKind) (x : AOpd)
  | same (x : AOpd)
  | mark (x : AOpd)
  | toBytes (x : AOpd)
  | toStr (x : AOpd)
  | makeFunc (f : FuncId) (first captured : List AOpd)
  | makeMap
  | makeSlice (zero : List AVal) (sz bytes : Nat) (l c : AOpd)
  | sliceStr (x : AOpd) (lo hi : Option AOpd)
  | sliceSl (sz : Nat) (x : AOpd) (lo hi mx : Option AOpd)
  | sliceArr (n sz : Nat) (x : AOpd) (lo hi mx : Option AOpd)
  | fieldAddr (off : Nat) (x : AOpd)
  | part (off : Nat) (n : Option Nat) (x : AOpd)
  | indexAddrArr (len sz : Nat) (x i : AOpd)
  | indexAddrSl (sz : Nat) (x i : AOpd)
  | indexArr (len sz : Nat) (n : Option Nat) (x i : AOpd)
  | indexStr (x i : AOpd)
  | lookup (kk : SK) (zero : AVal) (x k : AOpd) (ok : Bool)
  | mapUpdate (kk : SK) (m k v : AOpd)
  | extract (i : Nat) (x : AOpd)
  | call (f : AOpd) (args : List AOpd)
  | append (sz bytes : Nat) (s x : AOpd)
  | appendN (sz bytes : Nat) (zero : List AVal) (s n : AOpd)
  | lenStr (x : AOpd)
  | lenSl (x : AOpd)
  | lenMap (x : AOpd)
  | lenConst (n : Nat)
  | cap (x : AOpd)
  | copy (sz : Nat) (d s : AOpd)
  | delete (kk : SK) (m k : AOpd)
  | minmax (max : Bool) (xs : List AOpd)
  deriving Inhabited
structure AOper where
  dst : Option Pos
  op : AOp
  guard : Option (Pos × Bool)
  /-- of a region that draws: between which operations of the chain it may come up; the operations ahead of it -/
  lo : Nat
  hi : Nat
  pre : Nat
  deriving Inhabited
inductive ACode where
  | skip
  | region (ops : List AOper) (drawn : Bool)
  | seq (a b : ACode)
  | cond (c : AOpd) (a b : ACode)
  | block (id : Nat) (b : ACode)
  | loop (b : ACode)
  | exit (id : Nat)
  | ret
  | none
  deriving Inhabited
inductive ARes where
  | tmp (p : Pos)
  | cell (p : Pos) (n : Option Nat)
  deriving Inhabited
structure AFun where
  body : ACode
  res : List ARes
  deriving Inhabited
inductive Ex where
  | normal | ret | exit (id : Nat)
  deriving Inhabited
structure Hp where
  t : PT ABlk
  nx : Pos
  deriving Inhabited
structure St where
  tm : PT AVal
  hp : Hp
  deriving Inhabited

/-! ### Heap -/
def Hp.alloc (h : Hp) (b : ABlk) : Pos × Hp := (h.nx, { t := h.t.set b h.nx, nx := h.nx.succ })
def takeN : Nat → List AVal → Option (List AVal)
  | 0, _ => some []
  | _ + 1, [] => none
  | n + 1, x :: xs => (takeN n xs).map (x :: ·)
def dropN : Nat → List AVal → List AVal
  | 0, xs => xs
  | _ + 1, [] => []
  | n + 1, _ :: xs => dropN n xs
def nth : Nat → List AVal → Option AVal
  | _, [] => none
  | 0, x :: _ => some x
  | n + 1, _ :: xs => nth n xs
/-- cells off.. of a row become vs; none: they don't fit -/
def putAt : Nat → List AVal → List AVal → Option (List AVal)
  | _, [], cs => some cs
  | _, _ :: _, [] => none
  | 0, v :: vs, _ :: cs => if v.one then (putAt 0 vs cs).map (v :: ·) else none
  | n + 1, vs, c :: cs => (putAt n vs cs).map (c :: ·)
def allOne : List AVal → Bool
  | [] => true
  | v :: vs => v.one && allOne vs
def Hp.load (h : Hp) (id : Pos) (off n : Nat) : Option (List AVal) :=
  match h.t.get id with
  | some (.cells cs _) => takeN n (dropN off cs)
  | _ => none
def Hp.load1 (h : Hp) (id : Pos) (off : Nat) : Option AVal :=
  match h.t.get id with
  | some (.cells cs _) => nth off cs
  | _ => none
def Hp.store (h : Hp) (id : Pos) (off : Nat) (vs : List AVal) : Option Hp :=
  match h.t.get id with
  | some (.cells cs false) => (putAt off vs cs).map fun cs => { h with t := h.t.set (.cells cs false) id }
  | _ => none

def AOpd.names : AOpd → List Pos
  | .tmp p => [p]
  | .val _ => []
def namesOpt : Option AOpd → List Pos
  | some x => x.names
  | none => []
/-- the temporaries that an operation looks at -/
def AOp.names : AOp → List Pos
  | .move x | .box x | .load _ x | .nilCheck x | .un _ x | .toInt _ x | .same x | .mark x | .toBytes x | .toStr x | .fieldAddr _ x | .part _ _ x | .extract _ x | .lenStr x | .lenSl x | .lenMap x | .cap x => x.names
  | .pick a b c => a.names ++ b.names ++ c.names
  | .alloc _ | .makeMap | .lenConst _ => []
  | .build _ ps => ps.flatMap fun p => p.2.2.names
  | .buildSlice _ _ _ ps => ps.flatMap fun p => p.2.names
  | .store _ a x | .bin _ a x | .eq _ _ a x | .makeSlice _ _ _ a x | .indexAddrArr _ _ a x | .indexAddrSl _ a x | .indexArr _ _ _ a x | .indexStr a x | .lookup _ _ a x _ | .append _ _ a x | .appendN _ _ _ a x | .copy _ a x | .delete _ a x => a.names ++ x.names
  | .makeFunc _ a c => a.flatMap AOpd.names ++ c.flatMap AOpd.names
  | .sliceStr x l h => x.names ++ namesOpt l ++ namesOpt h
  | .sliceSl _ x l h m | .sliceArr _ _ x l h m => x.names ++ namesOpt l ++ namesOpt h ++ namesOpt m
  | .mapUpdate _ m k v => m.names ++ k.names ++ v.names
  | .call f as => f.names ++ as.flatMap AOpd.names
  | .minmax _ xs => xs.flatMap AOpd.names
/-- 0: looks at nothing, 1: reads, 2: acts, 3: a new block of what it is handed -/
def AOp.cls : AOp → Nat
  | .alloc _ | .box _ | .buildSlice .. | .makeSlice .. => 3
  | .store .. | .toBytes _ | .makeMap | .mapUpdate .. | .call .. | .append .. | .appendN .. | .copy .. | .delete .. | .mark _ => 2
  | .load .. | .toStr _ | .lookup .. | .lenMap _ => 1
  | _ => 0
/-- the temporaries that it names: its own, its guard's, those that it looks at -/
def AOper.names (o : AOper) : List Pos := o.dst.toList ++ (match o.guard with | some (p, _) => [p] | none => []) ++ o.op.names
/-! ### Operations that look at no memory -/
def AOpd.ev (tm : PT AVal) : AOpd → AVal
  | .tmp p => match tm.get p with | some v => v | none => .undef
  | .val v => v
def evs (tm : PT AVal) : List AOpd → List AVal
  | [] => []
  | x :: xs => x.ev tm :: evs tm xs
def fillA : List (Nat × Nat × AVal) → List AVal → Option (List AVal)
  | [], cs => some cs
  | (off, sz, v) :: rest, cs =>
    if v.cells.length = sz ∧ sz ≠ 0 then
      match putAt off v.cells cs with
      | some cs => fillA rest cs
      | none => none
    else none
def bytesLt : List UInt8 → List UInt8 → Bool
  | _, [] => false
  | [], _ :: _ => true
  | a :: x, b :: y => a < b || (a == b && bytesLt x y)
def binInt (op : BinOp) (k : IntKind) (a b : Int) : Option AVal :=
  match op with
  | .add => some (.int k (k.wrap (a + b)))
  | .sub => some (.int k (k.wrap (a - b)))
  | .mul => some (.int k (k.wrap (a * b)))
  | .quo => if b = 0 then none else some (.int k (k.wrap (a.tdiv b)))
  | .rem => if b = 0 then none else some (.int k (a.tmod b))
  | .and => some (.int k (k.wrap (BitVec.ofInt k.bits a &&& BitVec.ofInt k.bits b).toNat))
  | .or => some (.int k (k.wrap (BitVec.ofInt k.bits a ||| BitVec.ofInt k.bits b).toNat))
  | .xor => some (.int k (k.wrap (BitVec.ofInt k.bits a ^^^ BitVec.ofInt k.bits b).toNat))
  | .andNot => some (.int k (k.wrap (BitVec.ofInt k.bits a &&& ~~~(BitVec.ofInt k.bits b)).toNat))
  | .eql => some (.bool (a == b))
  | .neq => some (.bool (a != b))
  | .lss => some (.bool (a < b))
  | .leq => some (.bool (a ≤ b))
  | .gtr => some (.bool (a > b))
  | .geq => some (.bool (a ≥ b))
  | _ => none
def eq1 : SK → AVal → AVal → Option Bool
  | .i, .int j a, .int k b => if j = k then some (a == b) else none
  | .b, .bool a, .bool b => some (a == b)
  | .s, .str a, .str b => some (a == b)
  | _, _, _ => none
def eqOffs : List (Nat × SK) → List AVal → List AVal → Option Bool
  | [], _, _ => some true
  | (o, k) :: r, x, y => match nth o x, nth o y with
    | some a, some b => match eq1 k a b with
      | some true => eqOffs r x y
      | some false => some false
      | none => none
    | _, _ => none
def eqA : EqK → AVal → AVal → Option Bool
  | .bool, .bool a, .bool b => some (a == b)
  | .ptr, .nilptr, .nilptr => some true
  | .ptr, .nilptr, .ptr _ _ => some false
  | .ptr, .ptr _ _, .nilptr => some false
  | .slice, .nilslice, .nilslice => some true
  | .slice, .nilslice, .slice .. => some false
  | .slice, .slice .., .nilslice => some false
  | .map, .nilmap, .nilmap => some true
  | .map, .nilmap, .map _ => some false
  | .map, .map _, .nilmap => some false
  | .func, .nilfunc, .nilfunc => some true
  | .func, .nilfunc, .func .. => some false
  | .func, .func .., .nilfunc => some false
  | .agg offs, .agg x, .agg y => eqOffs offs x y
  | _, _, _ => none
/-- between which bounds the unknowns lie -/
abbrev Bnds := List (Int × Int)
def bndOf : Bnds → Nat → Option (Int × Int)
  | [], _ => none
  | b :: _, 0 => if b.1 ≤ b.2 then some b else none
  | _ :: r, n + 1 => bndOf r n
/-- two unknowns that are not the same: told by an entry (j, i) with i < j -/
def apartOf (B : Bnds) (i j : Nat) : Bool := B.any fun b => b.2 < b.1 && ((b.1 == (i : Int) && b.2 == (j : Int)) || (b.1 == (j : Int) && b.2 == (i : Int)))
def iv (B : Bnds) : AVal → Option (IntKind × Int × Int)
  | .int k n => some (k, n, n)
  | .lin k i c => (bndOf B i).map fun (lo, hi) => (k, lo + c, hi + c)
  | .rng k lo hi => some (k, lo, hi)
  | _ => none
def full (k : IntKind) : AVal := .rng k k.min k.max
def mkRng (k : IntKind) (lo hi : Int) : AVal := if k.min ≤ lo ∧ hi ≤ k.max then .rng k lo hi else full k
/-- integers of which one at least isn't known -/
def binS (B : Bnds) (op : BinOp) (x y : AVal) : Option AVal :=
  match iv B x, iv B y with
  | some (k, a, b), some (j, c, d) =>
    if k ≠ j then none else
    match op with
    | .add => match x, y with
      | .lin _ i e, .int _ n => if k.min ≤ a + n ∧ b + n ≤ k.max then some (.lin k i (e + n)) else some (full k)
      | .int _ n, .lin _ i e => if k.min ≤ c + n ∧ d + n ≤ k.max then some (.lin k i (e + n)) else some (full k)
      | _, _ => some (mkRng k (a + c) (b + d))
    | .sub => match x, y with
      | .lin _ i e, .int _ n => if k.min ≤ a - n ∧ b - n ≤ k.max then some (.lin k i (e - n)) else some (full k)
      | .lin _ i e, .lin _ l f => if i = l then some (.int k (k.wrap (e - f))) else some (mkRng k (a - d) (b - c))
      | _, _ => some (mkRng k (a - d) (b - c))
    | .mul | .and | .or | .xor | .andNot => some (full k)
    | .lss => match x, y with
      | .lin _ i e, .lin _ l f => if i = l then some (.bool (e < f)) else none
      | _, _ => if b < c then some (.bool true) else if d ≤ a then some (.bool false) else none
    | .leq => match x, y with
      | .lin _ i e, .lin _ l f => if i = l then some (.bool (e ≤ f)) else none
      | _, _ => if b ≤ c then some (.bool true) else if d < a then some (.bool false) else none
    | .gtr => match x, y with
      | .lin _ i e, .lin _ l f => if i = l then some (.bool (e > f)) else none
      | _, _ => if d < a then some (.bool true) else if b ≤ c then some (.bool false) else none
    | .geq => match x, y with
      | .lin _ i e, .lin _ l f => if i = l then some (.bool (e ≥ f)) else none
      | _, _ => if d ≤ a then some (.bool true) else if b < c then some (.bool false) else none
    | .eql => match x, y with
      | .lin _ i e, .lin _ l f => if i = l then some (.bool (e == f)) else if e = f ∧ apartOf B i l = true then some (.bool false) else none
      | _, _ => if b < c ∨ d < a then some (.bool false) else none
    | .neq => match x, y with
      | .lin _ i e, .lin _ l f => if i = l then some (.bool (e != f)) else if e = f ∧ apartOf B i l = true then some (.bool true) else none
      | _, _ => if b < c ∨ d < a then some (.bool true) else none
    | _ => none
  | _, _ => none
def binA (B : Bnds) (op : BinOp) (x y : AVal) : Option AVal :=
  match x, y with
  | .int k a, .int j b =>
    match op with
    | .shl => if b < 0 then none else some (.int k (k.wrap (a * 2 ^ (min b.toNat k.bits))))
    | .shr => if b < 0 then none else some (.int k (a.fdiv (2 ^ (min b.toNat k.bits))))
    | _ => if k = j then binInt op k a b else none
  | .str a, .str b =>
    match op with
    | .add => if ((a.length + b.length : Nat) : Int) > IntKind.i64.max then none else some (.str (a ++ b))
    | .eql => some (.bool (a == b))
    | .neq => some (.bool (!(a == b)))
    | .lss => some (.bool (bytesLt a b))
    | .leq => some (.bool (bytesLt a b || a == b))
    | .gtr => some (.bool (!(bytesLt a b || a == b)))
    | .geq => some (.bool (!bytesLt a b))
    | _ => none
  | x, y => binS B op x y
def toIntA (B : Bnds) (k : IntKind) (x : AVal) : Option AVal :=
  match x with
  | .int _ n => some (.int k (k.wrap n))
  | x => match iv B x with
    | some (_, a, b) => if k.min ≤ a ∧ b ≤ k.max then (match x with | .lin _ i c => some (.lin k i c) | _ => some (.rng k a b)) else some (full k)
    | none => none
def unA (op : UnOp) (x : AVal) : Option AVal :=
  match op, x with
  | .neg, .int k n => some (.int k (k.wrap (0 - n)))
  | .xor, .int k n => binInt .xor k (if k.signed then -1 else k.max) n
  | .not, .bool b => some (.bool !b)
  | _, _ => none
def idx (v : AVal) (len : Nat) : Option Nat :=
  match v with
  | .int _ n => if 0 ≤ n ∧ n < len then some n.toNat else none
  | _ => none
def bnd (v : AVal) (top : Nat) : Option Nat :=
  match v with
  | .int _ n => if 0 ≤ n ∧ n ≤ top then some n.toNat else none
  | _ => none
/-- low, high, max within cap -/
def bM (cap : Nat) : Option AVal → Option Nat
  | some v => bnd v cap
  | none => some cap
def bH (len m : Nat) : Option AVal → Bool → Option Nat
  | some v, _ => bnd v m
  | none, false => some len
  | none, true => none
def bL (h : Nat) : Option AVal → Option Nat
  | some v => bnd v h
  | none => some 0
def bounds (len cap : Nat) (lo hi mx : Option AVal) : Option (Nat × Nat × Nat) :=
  (bM cap mx).bind fun m => (bH len m hi mx.isSome).bind fun h => (bL h lo).bind fun l => some (l, h, m)
def partA (n : Option Nat) (cs : List AVal) (off : Nat) : Option AVal :=
  match n with
  | some n => (takeN n (dropN off cs)).map .agg
  | none => nth off cs
def bytesOf : List AVal → Option (List UInt8)
  | [] => some []
  | .int .u8 n :: r => (bytesOf r).map (UInt8.ofNat n.toNat :: ·)
  | _ => none
def ofBytes (l : List UInt8) : List AVal := l.map fun b => .int .u8 b.toNat
def rep (zero : List AVal) : Nat → List AVal
  | 0 => []
  | n + 1 => zero ++ rep zero n
/-- at which place of a map's entries a key is -/
def idxK (kk : SK) (k : AVal) : List (AVal × AVal) → Option (Option Nat)
  | [] => match kk, k with
    | .i, .int _ _ => some none
    | .s, .str _ => some none
    | _, _ => none
  | (a, _) :: r => match kk, k, a with
    | .i, .int i x, .int j y => if i = j then (if x == y then some (some 0) else (idxK kk k r).map (·.map (· + 1))) else none
    | .s, .str x, .str y => if x == y then some (some 0) else (idxK kk k r).map (·.map (· + 1))
    | _, _, _ => none
def nthE : Nat → List (AVal × AVal) → Option AVal
  | _, [] => none
  | 0, (_, v) :: _ => some v
  | n + 1, _ :: r => nthE n r
def setE (k v : AVal) : Nat → List (AVal × AVal) → List (AVal × AVal)
  | _, [] => []
  | 0, _ :: r => (k, v) :: r
  | n + 1, e :: r => e :: setE k v n r
def delE : Nat → List (AVal × AVal) → List (AVal × AVal)
  | _, [] => []
  | 0, _ :: r => r
  | n + 1, e :: r => e :: delE n r
/-- the cells of what append and copy take -/
def srcCells (h : Hp) (sz : Nat) : AVal → Option (List AVal × Nat)
  | .nilslice => some ([], 0)
  | .slice id off len _ z => if z = sz then (h.load id off (len * sz)).map (·, len) else none
  | .str s => if sz = 1 then some (ofBytes s, s.length) else none
  | _ => none
def rowLen (h : Hp) (id : Pos) : Nat :=
  match h.t.get id with
  | some (.cells cs _) => cs.length
  | _ => 0
/-- too much for a slice -/
def tooBig (bytes need : Nat) : Bool := 2 ^ 40 < (8 * need + 4096) * bytes
def appendA (h : Hp) (sz bytes : Nat) (s : AVal) (new : List AVal) (n : Nat) : Option (AVal × Hp) :=
  match s with
  | .nilslice =>
    if n = 0 then some (.nilslice, h)
    else if tooBig bytes n then none
    else some (.slice (h.alloc (.cells new false)).1 0 n none sz, (h.alloc (.cells new false)).2)
  | .slice id off len cap z =>
    if z ≠ sz then none else
    match cap with
    | some c =>
      if len + n ≤ c then
        if n = 0 then some (.slice id off len cap sz, h)
        else (h.store id (off + len * sz) new).map (.slice id off (len + n) cap sz, ·)
      else if tooBig bytes (len + n) then none
      else match h.load id off (len * sz) with
        | none => none
        | some old => some (.slice (h.alloc (.cells (old ++ new) false)).1 0 (len + n) none sz, (h.alloc (.cells (old ++ new) false)).2)
    | none =>
      if n = 0 then some (.slice id off len none sz, h)
      else match h.t.get id with
        | some (.cells cs false) =>
          if off + len * sz + n * sz ≤ cs.length then (h.store id (off + len * sz) new).map (.slice id off (len + n) none sz, ·)
          else if off + len * sz ≠ cs.length then none
          else if tooBig bytes (len + n) || !allOne new then none
          else some (.slice h.nx 0 (len + n) none sz, { t := (h.t.del id).set (.cells (dropN off cs ++ new) false) h.nx, nx := h.nx.succ })
        | _ => none
  | _ => none

/-! ### Operations -/
def optEv (tm : PT AVal) : Option AOpd → Option AVal
  | none => none
  | some x => some (x.ev tm)
def toStrA (h : Hp) : AVal → Option AVal
  | .nilslice => some (.str [])
  | .slice id off len _ _ => match h.load id off len with
    | some cs => (bytesOf cs).map .str
    | none => none
  | _ => none
def copyA (h : Hp) (sz : Nat) (cs : List AVal) (n : Nat) : AVal → Option (AVal × Hp)
  | .nilslice => some (.int .i64 0, h)
  | .slice id off len _ z =>
    if z ≠ sz then none
    else if min n len = 0 then some (.int .i64 0, h)
    else (h.store id off (cs.take (min n len * sz))).map (.int .i64 (min n len : Nat), ·)
  | _ => none
def mapEs (h : Hp) : AVal → Option (List (AVal × AVal))
  | .nilmap => some []
  | .map id => match h.t.get id with
    | some (.map es) => some es
    | _ => none
  | _ => none
def lookA (kk : SK) (zero key : AVal) (ok : Bool) (es : List (AVal × AVal)) : Option AVal :=
  match idxK kk key es with
  | none => none
  | some none => some (if ok then .tuple [zero, .bool false] else zero)
  | some (some j) => match nthE j es with
    | some v => some (if ok then .tuple [v, .bool true] else v)
    | none => none
def updA (h : Hp) (kk : SK) (id : Pos) (key v : AVal) (es : List (AVal × AVal)) : Option Hp :=
  match idxK kk key es with
  | none => none
  | some none => some { h with t := h.t.set (.map (es ++ [(key, v)])) id }
  | some (some j) => some { h with t := h.t.set (.map (setE key v j es)) id }
def delA (h : Hp) (kk : SK) (id : Pos) (key : AVal) (es : List (AVal × AVal)) : Option Hp :=
  match idxK kk key es with
  | none => none
  | some none => some { h with t := h.t.set (.map es) id }
  | some (some j) => some { h with t := h.t.set (.map (delE j es)) id }
def loadA (h : Hp) (n : Option Nat) (id : Pos) (off : Nat) : Option AVal :=
  match n with
  | some n => (h.load id off n).map .agg
  | none => h.load1 id off
def sliceSlA (sz : Nat) (lo hi mx : Option AVal) : AVal → Option AVal
  | .nilslice => (bounds 0 0 lo hi mx).map fun _ => .nilslice
  | .slice id off len cap z =>
    if z ≠ sz then none else
    match cap with
    | some c => if len ≤ c then (bounds len c lo hi mx).map fun (l, t, m) => .slice id (if m = l then off else off + l * sz) (t - l) (some (m - l)) sz else none
    | none => match mx with
      | none => (bounds len len lo hi none).map fun (l, t, _) => .slice id (off + l * sz) (t - l) none sz
      | some _ => if len = 0 then none else (bounds len len lo hi mx).map fun (l, t, m) => .slice id (if m = l then off else off + l * sz) (t - l) (some (m - l)) sz
  | _ => none
/-- An operation that is no call. -/
def evOp (B : Bnds) (op : AOp) (tm : PT AVal) (h : Hp) : Option (AVal × Hp) :=
  match op with
  | .move x => some (x.ev tm, h)
  | .pick c a b => match c.ev tm with
    | .bool true => some (a.ev tm, h)
    | .bool false => some (b.ev tm, h)
    | _ => none
  | .alloc zero => let (id, h) := h.alloc (.cells zero false); some (.ptr id 0, h)
  | .box x => let (id, h) := h.alloc (.cells (x.ev tm).cells false); some (.ptr id 0, h)
  | .build zero parts => (fillA (parts.map fun (o, s, x) => (o, s, x.ev tm)) zero).map fun cs => (.agg cs, h)
  | .buildSlice zero sz len parts =>
    match fillA (parts.map fun (o, x) => (o, sz, x.ev tm)) zero with
    | some cs => let (id, h) := h.alloc (.cells cs false); some (.slice id 0 len (some len) sz, h)
    | none => none
  | .load n a => match a.ev tm with
    | .ptr id off => (loadA h n id off).map (·, h)
    | _ => none
  | .store n a x => match a.ev tm with
    | .ptr id off =>
      let cs := (x.ev tm).cells
      if cs.length = n then (h.store id off cs).map (.undef, ·) else none
    | _ => none
  | .nilCheck x => match x.ev tm with
    | .ptr id off => some (.ptr id off, h)
    | .func f a c => some (.func f a c, h)
    | _ => none
  | .bin op x y => (binA B op (x.ev tm) (y.ev tm)).map (·, h)
  | .eq neg k x y => (eqA k (x.ev tm) (y.ev tm)).map fun b => (.bool (b != neg), h)
  | .un op x => (unA op (x.ev tm)).map (·, h)
  | .toInt k x => (toIntA B k (x.ev tm)).map (·, h)
  | .same x => match x.ev tm with
    | .str s => some (.str s, h)
    | _ => none
  | .mark x => match x.ev tm with
    | .slice id off len cap sz => match h.t.get id with
      | some (.cells _ false) => some (.slice id off len cap sz, h)
      | _ => none
    | _ => none
  | .toBytes x => match x.ev tm with
    | .str s => let (id, h) := h.alloc (.cells (ofBytes s) false); some (.slice id 0 s.length none 1, h)
    | _ => none
  | .toStr x => (toStrA h (x.ev tm)).map (·, h)
  | .makeFunc f first captured => some (.func f (evs tm first) (evs tm captured), h)
  | .makeMap => let (id, h) := h.alloc (.map []); some (.map id, h)
  | .makeSlice zero sz bytes l c => match l.ev tm, c.ev tm with
    | .int _ l, .int _ c =>
      if 0 ≤ l ∧ l ≤ c ∧ bytes * c ≤ 2 ^ 40 ∧ c ≤ 2 ^ 40 then
        let (id, h) := h.alloc (.cells (rep zero c.toNat) false)
        some (.slice id 0 l.toNat (some c.toNat) sz, h)
      else none
    | _, _ => none
  | .sliceStr x lo hi => match x.ev tm with
    | .str s => (bounds s.length s.length (optEv tm lo) (optEv tm hi) none).map fun (l, t, _) => (.str ((s.take t).drop l), h)
    | _ => none
  | .sliceSl sz x lo hi mx => (sliceSlA sz (optEv tm lo) (optEv tm hi) (optEv tm mx) (x.ev tm)).map (·, h)
  | .sliceArr n sz x lo hi mx => match x.ev tm with
    | .ptr id off => (bounds n n (optEv tm lo) (optEv tm hi) (optEv tm mx)).map fun (l, t, m) => (.slice id (if m = l then off else off + l * sz) (t - l) (some (m - l)) sz, h)
    | _ => none
  | .fieldAddr o x => match x.ev tm with
    | .ptr id off => some (.ptr id (off + o), h)
    | _ => none
  | .part o n x => match x.ev tm with
    | .agg cs => (partA n cs o).map (·, h)
    | _ => none
  | .indexAddrArr len sz x i => match x.ev tm, idx (i.ev tm) len with
    | .ptr id off, some k => some (.ptr id (off + k * sz), h)
    | _, _ => none
  | .indexAddrSl sz x i => match x.ev tm with
    | .slice id off len _ z => match idx (i.ev tm) len with
      | some k => if z = sz then some (.ptr id (off + k * sz), h) else none
      | none => none
    | _ => none
  | .indexArr len sz n x i => match x.ev tm, idx (i.ev tm) len with
    | .agg cs, some k => (partA n cs (k * sz)).map (·, h)
    | _, _ => none
  | .indexStr x i => match x.ev tm with
    | .str s => match idx (i.ev tm) s.length with
      | some k => (s[k]?).map fun b => (.int .u8 b.toNat, h)
      | none => none
    | _ => none
  | .lookup kk zero x k ok => match mapEs h (x.ev tm) with
    | some es => (lookA kk zero (k.ev tm) ok es).map (·, h)
    | none => none
  | .mapUpdate kk m k v => match m.ev tm with
    | .map id => match h.t.get id with
      | some (.map es) => (updA h kk id (k.ev tm) (v.ev tm) es).map (.undef, ·)
      | _ => none
    | _ => none
  | .extract i x => match x.ev tm with
    | .tuple vs => (nth i vs).map (·, h)
    | _ => none
  | .call _ _ => none
  | .append sz bytes s x => match srcCells h sz (x.ev tm) with
    | some (new, n) => appendA h sz bytes (s.ev tm) new n
    | none => none
  | .appendN sz bytes zero s n => match n.ev tm with
    | .int _ n => if 0 ≤ n ∧ n ≤ 2 ^ 40 ∧ n * bytes ≤ 2 ^ 40 then appendA h sz bytes (s.ev tm) (rep zero n.toNat) n.toNat else none
    | _ => none
  | .lenStr x => match x.ev tm with
    | .str s => some (.int .i64 s.length, h)
    | _ => none
  | .lenSl x => match x.ev tm with
    | .nilslice => some (.int .i64 0, h)
    | .slice _ _ len _ _ => some (.int .i64 len, h)
    | _ => none
  | .lenMap x => match x.ev tm with
    | .nilmap => some (.int .i64 0, h)
    | .map id => match h.t.get id with
      | some (.map es) => some (.int .i64 es.length, h)
      | _ => none
    | _ => none
  | .lenConst n => some (.int .i64 n, h)
  | .cap x => match x.ev tm with
    | .nilslice => some (.int .i64 0, h)
    | .slice _ _ _ (some c) _ => some (.int .i64 c, h)
    | _ => none
  | .copy sz d s => match srcCells h sz (s.ev tm) with
    | none => none
    | some (cs, n) => copyA h sz cs n (d.ev tm)
  | .delete kk m k => match m.ev tm with
    | .map id => match h.t.get id with
      | some (.map es) => (delA h kk id (k.ev tm) es).map (.tuple [], ·)
      | _ => none
    | _ => none
  | .minmax mx xs => match evs tm xs with
    | .int k a :: rest => (mm k mx a rest).map (·, h)
    | _ => none
where
  mm (k : IntKind) (mx : Bool) (a : Int) : List AVal → Option AVal
  | [] => some (.int k a)
  | .int j b :: r => if j = k then mm k mx (if mx then (if b > a then b else a) else (if b < a then b else a)) r else none
  | _ => none

def resA (h : Hp) (tm : PT AVal) : List ARes → Option (List AVal)
  | [] => some []
  | .tmp p :: r => (resA h tm r).map ((AOpd.tmp p).ev tm :: ·)
  | .cell p n :: r => match (AOpd.tmp p).ev tm with
    | .ptr id off =>
      match loadA h n id off, resA h tm r with
      | some v, some vs => some (v :: vs)
      | _, _ => none
    | _ => none
def resVal : List AVal → AVal
  | [v] => v
  | vs => .tuple vs
def enterTm : Pos → List AVal → PT AVal → PT AVal
  | _, [], t => t
  | p, v :: vs, t => enterTm p.succ vs (t.set v p)

structure Env where
  fns : FuncId → Option AFun
  bnds : Bnds := []
  hook : FuncId → Option (List AVal → Hp → Option (AVal × Hp))

abbrev Run := ACode → St → Option (Ex × St)
def callA (E : Env) (ih : Run) (f : FuncId) (args : List AVal) (h : Hp) : Option (AVal × Hp) :=
  match E.hook f with
  | some k => k args h
  | none => match E.fns f with
    | none => none
    | some fn => match ih fn.body { tm := enterTm .z args .leaf, hp := h } with
      | some (.exit _, _) | none => none
      | some (_, s) => match resA s.hp s.tm fn.res with
        | some vs => some (resVal vs, s.hp)
        | none => none
def opA (E : Env) (ih : Run) (op : AOp) (tm : PT AVal) (h : Hp) : Option (AVal × Hp) :=
  match op with
  | .call f args => match f.ev tm with
    | .func f first captured => callA E ih f (first ++ evs tm args ++ captured) h
    | _ => none
  | op => evOp E.bnds op tm h
def putD (d : Option Pos) (v : AVal) (tm : PT AVal) : PT AVal :=
  match d with
  | some p => tm.set v p
  | none => tm
/-- is a guarded operation wanted? none: that isn't known -/
def wantA (g : Option (Pos × Bool)) (tm : PT AVal) : Option Bool :=
  match g with
  | none => some true
  | some (p, w) => match tm.get p with
    | some (.bool b) => some (b == w)
    | some (.tuple []) => some false
    | none => some false
    | _ => none
def runOps (E : Env) (ih : Run) : List AOper → St → Option St
  | [], s => some s
  | o :: r, s =>
    match wantA o.guard s.tm with
    | some true => match opA E ih o.op s.tm s.hp with
      | some (v, h) => runOps E ih r { tm := putD o.dst v s.tm, hp := h }
      | none => none
    | some false => runOps E ih r { tm := putD o.dst .undef s.tm, hp := s.hp }
    | none => none
/-- a read that floats: what it read, where it may come up, and how it reads -/
structure Fl where
  lo : Nat
  hi : Nat
  v : AVal
  op : AOp
  tm : PT AVal
def flOk1 (B : Bnds) (f : Fl) (n : Nat) (h : Hp) : Bool :=
  if f.lo ≤ n && n ≤ f.hi then (match evOp B f.op f.tm h with | some (v, _) => v.same f.v | none => false) else true
def flOk (B : Bnds) : List Hp → Nat → Fl → Bool
  | [], _, _ => true
  | h :: r, n, f => flOk1 B f n h && flOk B r (n + 1) f
/-- what a new block's operation hands back -/
inductive Fr where
  | ptr
  | slice (len cap sz : Nat)
def Fr.val : Fr → Pos → AVal
  | .ptr, id => .ptr id 0
  | .slice len cap sz, id => .slice id 0 len (some cap) sz
def freshA (op : AOp) (tm : PT AVal) : Option (List AVal × Fr) :=
  match op with
  | .alloc zero => some (zero, .ptr)
  | .box x => some ((x.ev tm).cells, .ptr)
  | .buildSlice zero sz len parts => (fillA (parts.map fun (o, x) => (o, sz, x.ev tm)) zero).map fun cs => (cs, .slice len len sz)
  | .makeSlice zero sz bytes l c => match l.ev tm, c.ev tm with
    | .int _ l, .int _ c =>
      if 0 ≤ l ∧ l ≤ c ∧ bytes * c ≤ 2 ^ 40 ∧ c ≤ 2 ^ 40 then some (rep zero c.toNat, .slice l.toNat c.toNat sz) else none
    | _, _ => none
  | _ => none
/-- a new block that the chain has not met yet -/
structure Pd where
  ix : Nat
  id : Pos
  cs : List AVal
def plus (t : PT ABlk) : List Pd → PT ABlk
  | [] => t
  | p :: r => plus (t.set (.cells p.cs false) p.id) r
def needs (pre : Nat) (l : List Pd) : List Pd := l.filter fun p => pre.testBit p.ix
def rests (pre : Nat) (l : List Pd) : List Pd := l.filter fun p => !pre.testBit p.ix
structure Dr where
  tm : PT AVal
  h : Hp
  rid : Pos
  pend : List Pd
  hs : List Hp
  fs : List Fl
/-- One operation of a region that draws, at place i of the text's order: the value that it leaves, and what becomes of the rest. -/
def drawDo (E : Env) (ih : Run) (i : Nat) (o : AOper) (d : Dr) : Option (AVal × Dr) :=
  match wantA o.guard d.tm with
  | some true =>
    match o.op.cls with
    | 3 => match freshA o.op d.tm with
      | some (cs, fr) => some (fr.val d.rid, { d with rid := d.rid.succ, pend := ⟨i, d.rid, cs⟩ :: d.pend })
      | none => none
    | 2 => match opA E ih o.op d.tm { d.h with t := plus d.h.t (needs o.pre d.pend) } with
      | some (v, h) => some (v, { d with h, pend := rests o.pre d.pend, hs := h :: d.hs })
      | none => none
    | 1 =>
      if o.lo = o.hi then match evOp E.bnds o.op d.tm { d.h with t := plus d.h.t (needs o.pre d.pend) } with
        | some (v, _) => some (v, d)
        | none => none
      else match evOp E.bnds o.op d.tm d.h with
        | some (v, _) => some (v, { d with fs := { lo := o.lo, hi := o.hi, v, op := o.op, tm := d.tm } :: d.fs })
        | none => none
    | _ => match evOp E.bnds o.op d.tm d.h with
      | some (v, _) => some (v, d)
      | none => none
  | some false => some (.undef, { d with rid := if o.op.cls = 3 then d.rid.succ else d.rid, hs := if o.op.cls = 2 then d.h :: d.hs else d.hs })
  | none => none
def drawStep (E : Env) (ih : Run) (i : Nat) (o : AOper) (d : Dr) : Option Dr :=
  match drawDo E ih i o d with
  | some (v, d) => some { d with tm := putD o.dst v d.tm }
  | none => none
def drawRun (E : Env) (ih : Run) : List AOper → Nat → Dr → Option Dr
  | [], _, d => some d
  | o :: r, i, d => match drawStep E ih i o d with
    | some d => drawRun E ih r (i + 1) d
    | none => none
/-- so many names are kept for the region's new blocks -/
def keep : List AOper → Pos → Pos
  | [], p => p
  | o :: r, p => keep r (if o.op.cls = 3 then p.succ else p)
def stepC (E : Env) (ih : Run) : Run
  | .skip, s => some (.normal, s)
  | .region ops false, s => (runOps E ih ops s).map (.normal, ·)
  | .region ops true, s => match drawRun E ih ops 0 { tm := s.tm, h := { s.hp with nx := keep ops s.hp.nx }, rid := s.hp.nx, pend := [], hs := [{ s.hp with nx := keep ops s.hp.nx }], fs := [] } with
    | some d => if d.fs.all (flOk E.bnds d.hs.reverse 0) then some (.normal, { tm := d.tm, hp := { d.h with t := plus d.h.t d.pend } }) else none
    | none => none
  | .seq a b, s => match ih a s with
    | some (.normal, s) => ih b s
    | r => r
  | .cond c a b, s => match c.ev s.tm with
    | .bool true => ih a s
    | .bool false => ih b s
    | _ => none
  | .block id b, s => match ih b s with
    | some (.exit j, s) => if j = id then some (.normal, s) else some (.exit j, s)
    | r => r
  | .loop b, s => match ih b s with
    | some (.normal, s) => ih (.loop b) s
    | r => r
  | .exit id, s => some (.exit id, s)
  | .ret, s => some (.ret, s)
  | .none, _ => none
def exec (E : Env) (n : Nat) : Run := Nat.rec (fun _ _ => none) (fun _ ih => stepC E ih) n
end Go.Ev
namespace Go.Ev
open Go
def of1 : Value → Option AVal
  | .bool b => some (.bool b)
  | .int k n => some (.int k n)
  | .string s => some (.str s.data.toList)
  | .pointer none => some .nilptr
  | .slice none 0 0 => some .nilslice
  | .map none => some .nilmap
  | .nilFunc => some .nilfunc
  | .func (.func f) a c => if a.toList.isEmpty && c.toList.isEmpty then some (.func f [] []) else none
  | _ => none
def of1s : List Value → Option (List AVal)
  | [] => some []
  | v :: r => do pure ((← of1 v) :: (← of1s r))
def ofConst : Value → Option AVal
  | .agg cs => (of1s cs.toList).map .agg
  | .tuple cs => (of1s cs.toList).map .tuple
  | v => of1 v
section
variable (gs : List Nat)
def cOpd : Operand → Option AOpd
  | .tmp t => some (.tmp (.ofNat t))
  | .const v => (ofConst v).map .val
  | .global g => if gs.contains g then some (.val (.ptr (.ofNat g) 0)) else none
  | .func f => some (.val (.func f [] []))
def cOpds : List Operand → Option (List AOpd)
  | [] => some []
  | x :: r => do pure ((← cOpd gs x) :: (← cOpds r))
def cOpt : Option Operand → Option (Option AOpd)
  | none => some none
  | some x => (cOpd gs x).map some
end
section
variable (P : Program) (gs : List Nat)
/-- of a type: none: one cell; some n: an aggregate of n cells -/
def cAgg (t : TypeId) : Option (Option Nat) :=
  match P.underlying t, P.info? t with
  | some (.struct _), some i | some (.array _ _), some i => some (some i.size)
  | some _, some _ => some none
  | _, _ => none
def cZero (t : TypeId) : Option AVal := do ofConst (← (← P.info? t).zero)
def cParts (f : Nat → Option (Nat × Nat)) : List (Nat × Operand) → Option (List (Nat × Nat × AOpd))
  | [] => some []
  | (i, x) :: r => do let (o, s) ← f i; pure ((o, s, ← cOpd gs x) :: (← cParts f r))
def cPartsI (sz : Nat) : List (Nat × Operand) → Option (List (Nat × AOpd))
  | [] => some []
  | (i, x) :: r => do pure ((i * sz, ← cOpd gs x) :: (← cPartsI sz r))
def scalarT (t : TypeId) : Option SK := match P.underlying t with
  | some .bool => some .b
  | some (.int _) => some .i
  | some .string => some .s
  | _ => none
def cEqFs : List Field → Option (List (Nat × SK))
  | [] => some []
  | f :: r => if f.name = "_" then none else do pure ((f.offset, ← scalarT P f.type) :: (← cEqFs r))
def cEqK (t : TypeId) : Option EqK := match P.underlying t with
  | some .bool => some .bool
  | some (.pointer _) => some .ptr
  | some (.slice _) => some .slice
  | some (.map _ _) => some .map
  | some (.func _ _ _) => some .func
  | some (.struct fs) =>
    if P.stoodInHeld t || P.eqGuardType P.depth t then none else (cEqFs P fs.toList).map .agg
  | some (.array n e) =>
    match scalarT P e, P.info? e with
    | some k, some i => if i.size = 1 && !P.eqGuardType P.depth t then some (.agg ((List.range n).map (·, k))) else none
    | _, _ => none
  | _ => none
def cBin (op : BinOp) (xt : TypeId) (x y : AOpd) : Option AOp :=
  let eq (neg : Bool) : Option AOp := match P.underlying xt with
    | some (.int _) | some .string => some (.bin op x y)
    | _ => (cEqK P xt).map fun k => .eq neg k x y
  match op with
  | .eql => eq false
  | .neq => eq true
  | _ => some (.bin op x y)
def cOp (o : Oper) : Option AOp :=
  match o.op with
  | .move x | .assign x => do pure (.move (← cOpd gs x))
  | .pick c a b => do pure (.pick (← cOpd gs c) (← cOpd gs a) (← cOpd gs b))
  | .alloc t => do pure (.alloc (← cZero P t).cells)
  | .box _ x => do pure (.box (← cOpd gs x))
  | .build t parts => match P.underlying t with
    | some (.struct fs) => if !fs.all (fun f => (P.info? f.type).isSome) then none else do
      let ps ← cParts gs (fun i => (fs[i]?).bind fun f => (P.info? f.type).map fun j => (f.offset, j.size)) parts.toList
      pure (.build (← cZero P t).cells ps)
    | some (.array _ e) => do
      let s := (← P.info? e).size
      pure (.build (← cZero P t).cells (← cParts gs (fun i => some (i * s, s)) parts.toList))
    | _ => none
  | .buildSlice t len parts => match P.underlying t with
    | some (.slice e) => do
      let s := (← P.info? e).size
      let z ← cZero P e
      if s = 0 ∨ len * s > 2 ^ 20 ∨ z.cells.length ≠ s then none else
      pure (.buildSlice (rep z.cells len) s len (← cPartsI gs s parts.toList))
    | _ => none
  | .load t a => do pure (.load (← cAgg P t) (← cOpd gs a))
  | .store t a x => do pure (.store (← P.info? t).size (← cOpd gs a) (← cOpd gs x))
  | .nilCheck x => do pure (.nilCheck (← cOpd gs x))
  | .binOp op xt x y _ => do cBin P op xt (← cOpd gs x) (← cOpd gs y)
  | .unOp op _ x => do pure (.un op (← cOpd gs x))
  | .convert s d x => match P.underlying s, P.underlying d with
    | some (.int _), some (.int k) => do pure (.toInt k (← cOpd gs x))
    | some .string, some .string => do pure (.same (← cOpd gs x))
    | some .string, some (.slice e) => match P.underlying e with
      | some (.int .u8) => do if (← P.info? e).size = 1 then pure (.toBytes (← cOpd gs x)) else none
      | _ => none
    | some (.slice _), some (.slice e) => match P.underlying e with
      | some (.int .u8) => do if s = d then pure (.mark (← cOpd gs x)) else none
      | _ => none
    | some (.slice e), some .string => match P.underlying e with
      | some (.int .u8) => do pure (.toStr (← cOpd gs x))
      | _ => none
    | _, _ => none
  | .makeFunc (.func f) first captured => do pure (.makeFunc f (← cOpds gs first.toList) (← cOpds gs captured.toList))
  | .makeMap _ none => some .makeMap
  | .makeMap t (some x) => match P.underlying t, x with
    | some (.map _ _), .const (.int _ _) => some .makeMap
    | _, _ => none
  | .makeSlice t l c => match P.underlying t with
    | some (.slice e) => do
      let i ← P.info? e
      let z ← cZero P e
      if i.size = 0 ∨ z.cells.length ≠ i.size then none else
      pure (.makeSlice z.cells i.size i.bytes (← cOpd gs l) (← cOpd gs c))
    | _ => none
  | .slice t x lo hi mx => match P.underlying t with
    | some .string => match mx with
      | none => do pure (.sliceStr (← cOpd gs x) (← cOpt gs lo) (← cOpt gs hi))
      | some _ => none
    | some (.slice e) => do
      let i ← P.info? e
      if i.size = 0 then none else pure (.sliceSl i.size (← cOpd gs x) (← cOpt gs lo) (← cOpt gs hi) (← cOpt gs mx))
    | some (.array n e) => do
      let i ← P.info? e
      if i.size = 0 then none else pure (.sliceArr n i.size (← cOpd gs x) (← cOpt gs lo) (← cOpt gs hi) (← cOpt gs mx))
    | some (.pointer a) => match P.underlying a with
      | some (.array n e) => do
        let i ← P.info? e
        if i.size = 0 then none else pure (.sliceArr n i.size (← cOpd gs x) (← cOpt gs lo) (← cOpt gs hi) (← cOpt gs mx))
      | _ => none
    | _ => none
  | .fieldAddr s x f => match P.underlying s with
    | some (.struct fs) => do
      let g ← fs[f]?
      if (← P.info? g.type).size = 0 then none else pure (.fieldAddr g.offset (← cOpd gs x))
    | _ => none
  | .field t x f => match P.underlying t with
    | some (.struct fs) => do
      let g ← fs[f]?
      pure (.part g.offset (← cAgg P g.type) (← cOpd gs x))
    | _ => none
  | .indexAddr t x i => match P.underlying t with
    | some (.array n e) => do
      let j ← P.info? e
      if j.size = 0 then none else pure (.indexAddrArr n j.size (← cOpd gs x) (← cOpd gs i))
    | some (.slice e) => do
      let j ← P.info? e
      if j.size = 0 then none else pure (.indexAddrSl j.size (← cOpd gs x) (← cOpd gs i))
    | _ => none
  | .index t x i => match P.underlying t with
    | some (.array n e) => do pure (.indexArr n (← P.info? e).size (← cAgg P e) (← cOpd gs x) (← cOpd gs i))
    | some .string => do pure (.indexStr (← cOpd gs x) (← cOpd gs i))
    | _ => none
  | .lookup t x k ok => match P.underlying t with
    | some (.map kt e) => match P.underlying kt with
      | some (.int _) => do pure (.lookup .i (← cZero P e) (← cOpd gs x) (← cOpd gs k) ok)
      | some .string => do pure (.lookup .s (← cZero P e) (← cOpd gs x) (← cOpd gs k) ok)
      | _ => none
    | _ => none
  | .mapUpdate t m k v => match P.underlying t with
    | some (.map kt _) => match P.underlying kt with
      | some (.int _) => do pure (.mapUpdate .i (← cOpd gs m) (← cOpd gs k) (← cOpd gs v))
      | some .string => do pure (.mapUpdate .s (← cOpd gs m) (← cOpd gs k) (← cOpd gs v))
      | _ => none
    | _ => none
  | .extract x i => do pure (.extract i (← cOpd gs x))
  | .call { callee := .value f, args, .. } => do pure (.call (← cOpd gs f) (← cOpds gs args.toList))
  | .call { callee := .builtin b, args, argTypes } =>
    match b, args.toList, argTypes.toList with
    | .append, [s, x], [st, xt] => match P.underlying st with
      | some (.slice e) => do
        let i ← P.info? e
        let z := (← cZero P e).cells
        if i.size = 0 || i.bytes = 0 || z.length != i.size then none else
        match P.underlying xt with
        | some (.int _) => pure (.appendN i.size i.bytes z (← cOpd gs s) (← cOpd gs x))
        | some _ => pure (.append i.size i.bytes (← cOpd gs s) (← cOpd gs x))
        | none => none
      | _ => none
    | .len, [x], [t] => match P.underlying t with
      | some .string => do pure (.lenStr (← cOpd gs x))
      | some (.slice _) => do pure (.lenSl (← cOpd gs x))
      | some (.map _ _) => do pure (.lenMap (← cOpd gs x))
      | some (.array n _) => some (.lenConst n)
      | some (.pointer a) => match P.underlying a with
        | some (.array n _) => some (.lenConst n)
        | _ => none
      | _ => none
    | .cap, [x], [t] => match P.underlying t with
      | some (.slice _) => do pure (.cap (← cOpd gs x))
      | some (.array n _) => some (.lenConst n)
      | _ => none
    | .copy, [d, s], t :: _ => match P.underlying t with
      | some (.slice e) => do
        let i ← P.info? e
        if i.size = 0 then none else pure (.copy i.size (← cOpd gs d) (← cOpd gs s))
      | _ => none
    | .delete, [m, k], t :: _ => match P.underlying t with
      | some (.map kt _) => match P.underlying kt with
        | some (.int _) => do pure (.delete .i (← cOpd gs m) (← cOpd gs k))
        | some .string => do pure (.delete .s (← cOpd gs m) (← cOpd gs k))
        | _ => none
      | _ => none
    | .min, xs, _ => do pure (.minmax false (← cOpds gs xs))
    | .max, xs, _ => do pure (.minmax true (← cOpds gs xs))
    | _, _, _ => none
  | _ => none
/-- a call, or a new block, comes of one -/
def kindOk : AOp → Op → Bool
  | .call _ _, .call { callee := .value _, .. } => true
  | .call _ _, _ => false
  | .alloc _, .alloc _ => true
  | .alloc _, _ => false
  | .box _, .box _ _ => true
  | .box _, _ => false
  | .buildSlice .., .buildSlice .. => true
  | .buildSlice .., _ => false
  | .makeSlice .., .makeSlice .. => true
  | .makeSlice .., _ => false
  | _, _ => true
def cOpK (o : Oper) : Option AOp := match cOp P gs o with
  | some A => if kindOk A o.op then some A else none
  | none => none
def cOpers : List Oper → Option (List (Oper × AOp))
  | [] => some []
  | o :: r => do pure ((o, ← cOpK P gs o) :: (← cOpers r))
def chainOk (bf : Array Nat) : List Nat → Bool
  | a :: b :: r => (bf.getD b 0).testBit a && chainOk bf (b :: r)
  | _ => true
/-- two operations, of which one sets what the other names, come up in the text's order -/
def orderedAt (i : Nat) (x y : AOper) : Bool :=
  y.pre.testBit i ||
  ((match x.dst with | some d => !y.names.contains d | none => true) && (match y.dst with | some d => !x.names.contains d | none => true))
def orderedAll (l : List (AOper × Nat)) : Bool :=
  l.all fun (y, j) => l.all fun (x, i) => j ≤ i || orderedAt i x y
def edgesBack (l : List (Oper × Nat)) : Bool := l.all fun (o, i) => o.after.all fun e => !Region.binds .any e || e.on < i
def cGuard (ops : Array Oper) (o : Oper) : Option (Option (Pos × Bool)) :=
  match o.guard with
  | none => some none
  | some (j, w) => match (ops[j]?).bind (·.dst) with
    | some d => some (some (Pos.ofNat d, w))
    | none => none
def chainFrom : List (Oper × AOp) → Nat → List Nat
  | [], _ => []
  | x :: r, k => if x.2.cls = 2 then k :: chainFrom r (k + 1) else chainFrom r (k + 1)
def cOper (ops : Array Oper) (bf : Array Nat) (chain : List Nat) (x : (Oper × AOp) × Nat) : Option AOper := do
  let g ← cGuard ops x.1.1
  pure { dst := x.1.1.dst.map Pos.ofNat, op := x.1.2, guard := g,
         lo := (chain.filter fun c => (bf.getD x.2 0).testBit c).length,
         hi := (chain.filter fun c => c != x.2 && !(bf.getD c 0).testBit x.2).length,
         pre := bf.getD x.2 0 }
def cOperAll (ops : Array Oper) (bf : Array Nat) (chain : List Nat) : List (Oper × AOp) → Nat → Option (List AOper)
  | [], _ => some []
  | x :: r, k => do pure ((← cOper ops bf chain (x, k)) :: (← cOperAll ops bf chain r (k + 1)))
def cRegion (N : Nat) (ops : Array Oper) (draw : Bool) : Option ACode := do
  let l ← cOpers P gs ops.toList
  let bf := if draw then Region.before ops else #[]
  let chain := if draw then chainFrom l 0 else []
  if !(ops.toList.all fun o => match o.dst with | some d => d < N | none => true) then none else
  let l ← cOperAll ops bf chain l 0
  if draw && !(chainOk bf chain && edgesBack ops.toList.zipIdx && orderedAll l.zipIdx) then none else
  pure (.region l draw)
def cCode (N : Nat) : Code → Option ACode
  | .skip => some .skip
  | .region _ ops d => some ((cRegion P gs N ops d).getD .none)
  | .seq a b => do pure (.seq (← cCode N a) (← cCode N b))
  | .cond c a b => do pure (.cond (← cOpd gs c) (← cCode N a) (← cCode N b))
  | .block id b => do pure (.block id (← cCode N b))
  | .loop b => do pure (.loop (← cCode N b))
  | .exit id => some (.exit id)
  | .ret => some .ret
  | _ => some .none
def cRes : List ResultVar → Option (List ARes)
  | [] => some []
  | .tmp t :: r => do pure (.tmp (.ofNat t) :: (← cRes r))
  | .cell t ty :: r => do pure (.cell (.ofNat t) (← cAgg P ty) :: (← cRes r))
def cFun (f : Func) : Option AFun := if f.name = "runtime.NumGoroutine" then none else do
  let b ← f.body
  pure { body := ← cCode P gs f.ntmps b, res := ← cRes P f.results.toList }
def cFuns : List Func → Nat → PT AFun
  | [], _ => .leaf
  | f :: r, n => match cFun P gs f with
    | some a => (cFuns r (n + 1)).set a (.ofNat n)
    | none => cFuns r (n + 1)
end
end Go.Ev
