/-
  The cases of a host's settings.
-/
import Derived.Test.YtebjbnohljndjaaGreatDoorEvLv
set_option linter.unusedVariables false
set_option linter.unusedSimpArgs false
namespace Go.Proofs.YtebjbnohljndjaaGreatDoor
open Go Go.RowKit Go.Ev Go.Proofs

def argO (ring : AVal) (aeq peq : Bool) : AVal := .agg [.lin .u64 2 0, .lin .u64 3 0, .lin .u32 5 0, (if aeq then .lin .u32 5 0 else .lin .u32 6 0), .lin .u32 7 0, (if peq then .lin .u32 7 0 else .lin .u32 8 0), .lin .i64 0 0, ring, .lin .i64 1 0]
def bO (m s r a b : Int × Int) (aeq peq : Bool) : Bnds := [m, s, a, b, r, (0, 4294967295), (0, 4294967295), (0, 4294967295), (0, 4294967295)] ++ ((if aeq then [] else [(6, 5)]) ++ (if peq then [] else [(8, 7)]))
def mL : Int × Int := (-9223372036854775808, 191)
def mM : Int × Int := (192, 1500)
def mH : Int × Int := (1501, 9223372036854775807)
def sL : Int × Int := (-9223372036854775808, 0)
def sM : Int × Int := (1, 8)
def sH : Int × Int := (9, 9223372036854775807)
def rL : Int × Int := (-9223372036854775808, 0)
def rM : Int × Int := (1, 64)
def rH : Int × Int := (65, 9223372036854775807)
def aL : Int × Int := (0, 281474976710654)
def aH : Int × Int := (281474976710655, 18446744073709551615)
noncomputable def EO (B : Bnds) : Env := { fns := fun f => (Tryz.prog.funcs[f]?).bind (cFun Tryz.prog []), hook := hookLv, bnds := B }
noncomputable def runO (ring : AVal) (B : Bnds) (aeq peq : Bool) : Bool := isTrue (callA (EO B) (exec (EO B) 1000) 5 [argO ring aeq peq] hp0)
/-- the cases in which the ring's length plays no part, or is none -/
noncomputable def runS (m s : Int × Int) (rs : List (Int × Int)) (aps : List (Bool × Bool)) : Bool :=
  rs.all fun r => [aL, aH].all fun a => [aL, aH].all fun b => aps.all fun (x, y) => runO (.lin .i64 4 0) (bO m s r a b x y) x y
noncomputable def runR (a b : Int × Int) (rs : List Int) : Bool := rs.all fun r => runO (.int .i64 r) (bO mM sM rM a b false false) false false
end Go.Proofs.YtebjbnohljndjaaGreatDoor
