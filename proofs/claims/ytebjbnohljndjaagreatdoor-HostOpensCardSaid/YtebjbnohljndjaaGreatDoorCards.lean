/-
  DERIVED. GIVEN WITH THE SEED: THE CARDS: each row of YtebjbnohljndjaaGreatDoorRows.lean that lists a variable, with what it lists TIED to the program's text (the seventh form; the later family's looks); each row that meets fmt, with fmt's text TOLD by the authors' own Lean function (tested against real Go, not proved from fmt's source: count such statements apart). THE CARD IS WHAT COUNTS. Prove the row's statement (the work); the ties are given (YtebjbnohljndjaaGreatDoorTie.lean); close each card by the builder's one call (the guide's Derived/Test/ToyasCard.lean, 'card_holds'). Laid BY PROGRAM, IN A SANDBOX (cutbox-door.mjs). By AI agents, Wed Nov 11 2026. No macro, syntax, notation, axiom, sorry.
-/
import Derived.Test.YtebjbnohljndjaaGreatDoorRows
import GoSem.ClaimSeven
namespace Go.Proofs.YtebjbnohljndjaaGreatDoor
namespace Rows

/-- THE TIED CARD OF 'trunklinelaw17.HostEchoes'. -/
def hostEchoesCard : Claim7 := { stood := { row := hostEchoesRow, standIns := [], harness := (true, "cb3a7f2a92e4575e23242b1cfb0549c90f7f3526f8b68fa41a34c8fd2a1fa9ac"), looks := true }, kinds := [], alts := [], laidByText := true, laidKinds := [.data], laidTests := true, laidLooks := .later }
def HostEchoesCardSaid : Prop := Claim7.holds Tryz.pinned (.plain (OpenSpec.ofChange hostEchoesSpec)) hostEchoesCard

/-- THE TIED CARD OF 'trunklinelaw17.HostRefuses'. -/
def hostRefusesCard : Claim7 := { stood := { row := hostRefusesRow, standIns := [], harness := (true, "cb3a7f2a92e4575e23242b1cfb0549c90f7f3526f8b68fa41a34c8fd2a1fa9ac"), looks := true }, kinds := [], alts := [], laidByText := true, laidKinds := [.data], laidTests := true, laidLooks := .later }
def HostRefusesCardSaid : Prop := Claim7.holds Tryz.pinned (.plain (OpenSpec.ofChange hostRefusesSpec)) hostRefusesCard

/-- THE TIED CARD OF 'trunklinelaw17.HostOpens'. -/
def hostOpensCard : Claim7 := { stood := { row := hostOpensRow, standIns := [], harness := (true, "cb3a7f2a92e4575e23242b1cfb0549c90f7f3526f8b68fa41a34c8fd2a1fa9ac"), looks := true }, kinds := [], alts := [], laidByText := true, laidKinds := [.data], laidTests := true, laidLooks := .later }
def HostOpensCardSaid : Prop := Claim7.holds Tryz.pinned (.plain (OpenSpec.ofChange hostOpensSpec)) hostOpensCard

/-- THE TIED CARD OF 'trunklinelaw17.HostAsked'. -/
def hostAskedCard : Claim7 := { stood := { row := hostAskedRow, standIns := [], harness := (true, "cb3a7f2a92e4575e23242b1cfb0549c90f7f3526f8b68fa41a34c8fd2a1fa9ac"), looks := true }, kinds := [], alts := [], laidByText := true, laidKinds := [.data], laidTests := true, laidLooks := .later }
def HostAskedCardSaid : Prop := Claim7.holds Tryz.pinned (.plain (OpenSpec.ofChange hostAskedSpec)) hostAskedCard

/-- THE TIED CARD OF 'trunklinelaw17.HostLimits'. -/
def hostLimitsCard : Claim7 := { stood := { row := hostLimitsRow, standIns := [], harness := (true, "cb3a7f2a92e4575e23242b1cfb0549c90f7f3526f8b68fa41a34c8fd2a1fa9ac"), looks := true }, kinds := [], alts := [], laidByText := true, laidKinds := [.data], laidTests := true, laidLooks := .later }
def HostLimitsCardSaid : Prop := Claim7.holds Tryz.pinned (.plain (OpenSpec.ofChange hostLimitsSpec)) hostLimitsCard

/-- THE TIED CARD OF 'trunklinelaw17.HostSockets'. -/
def hostSocketsCard : Claim7 := { stood := { row := hostSocketsRow, standIns := [], harness := (true, "cb3a7f2a92e4575e23242b1cfb0549c90f7f3526f8b68fa41a34c8fd2a1fa9ac"), looks := true }, kinds := [], alts := [], laidByText := true, laidKinds := [.data], laidTests := true, laidLooks := .later }
def HostSocketsCardSaid : Prop := Claim7.holds Tryz.pinned (.plain (OpenSpec.ofChange hostSocketsSpec)) hostSocketsCard

/-- THE TIED CARD OF 'trunklinelaw17.HostNone'. -/
def hostNoneCard : Claim7 := { stood := { row := hostNoneRow, standIns := [], harness := (true, "cb3a7f2a92e4575e23242b1cfb0549c90f7f3526f8b68fa41a34c8fd2a1fa9ac"), looks := true }, kinds := [], alts := [], laidByText := true, laidKinds := [.data], laidTests := true, laidLooks := .later }
def HostNoneCardSaid : Prop := Claim7.holds Tryz.pinned (.plain (OpenSpec.ofChange hostNoneSpec)) hostNoneCard

/-- THE SECOND FORM's CARD OF 'trunklinelaw17.HostEchoes'. -/
def hostEchoesUptoCard : Claim7 := { stood := { row := hostEchoesUptoRow, standIns := [], harness := (true, "cb3a7f2a92e4575e23242b1cfb0549c90f7f3526f8b68fa41a34c8fd2a1fa9ac"), looks := true }, kinds := [], alts := [], laidByText := true, laidKinds := [.data], laidTests := true, laidLooks := .later }
def HostEchoesUptoCardSaid : Prop := Claim7.holds Tryz.pinned (.plain (OpenSpec.upto hostEchoesSpec)) hostEchoesUptoCard

/-- THE SECOND FORM's CARD OF 'trunklinelaw17.HostRefuses'. -/
def hostRefusesUptoCard : Claim7 := { stood := { row := hostRefusesUptoRow, standIns := [], harness := (true, "cb3a7f2a92e4575e23242b1cfb0549c90f7f3526f8b68fa41a34c8fd2a1fa9ac"), looks := true }, kinds := [], alts := [], laidByText := true, laidKinds := [.data], laidTests := true, laidLooks := .later }
def HostRefusesUptoCardSaid : Prop := Claim7.holds Tryz.pinned (.plain (OpenSpec.upto hostRefusesSpec)) hostRefusesUptoCard

/-- THE SECOND FORM's CARD OF 'trunklinelaw17.HostOpens'. -/
def hostOpensUptoCard : Claim7 := { stood := { row := hostOpensUptoRow, standIns := [], harness := (true, "cb3a7f2a92e4575e23242b1cfb0549c90f7f3526f8b68fa41a34c8fd2a1fa9ac"), looks := true }, kinds := [], alts := [], laidByText := true, laidKinds := [.data], laidTests := true, laidLooks := .later }
def HostOpensUptoCardSaid : Prop := Claim7.holds Tryz.pinned (.plain (OpenSpec.upto hostOpensSpec)) hostOpensUptoCard

/-- THE SECOND FORM's CARD OF 'trunklinelaw17.HostAsked'. -/
def hostAskedUptoCard : Claim7 := { stood := { row := hostAskedUptoRow, standIns := [], harness := (true, "cb3a7f2a92e4575e23242b1cfb0549c90f7f3526f8b68fa41a34c8fd2a1fa9ac"), looks := true }, kinds := [], alts := [], laidByText := true, laidKinds := [.data], laidTests := true, laidLooks := .later }
def HostAskedUptoCardSaid : Prop := Claim7.holds Tryz.pinned (.plain (OpenSpec.upto hostAskedSpec)) hostAskedUptoCard

/-- THE SECOND FORM's CARD OF 'trunklinelaw17.HostLimits'. -/
def hostLimitsUptoCard : Claim7 := { stood := { row := hostLimitsUptoRow, standIns := [], harness := (true, "cb3a7f2a92e4575e23242b1cfb0549c90f7f3526f8b68fa41a34c8fd2a1fa9ac"), looks := true }, kinds := [], alts := [], laidByText := true, laidKinds := [.data], laidTests := true, laidLooks := .later }
def HostLimitsUptoCardSaid : Prop := Claim7.holds Tryz.pinned (.plain (OpenSpec.upto hostLimitsSpec)) hostLimitsUptoCard

/-- THE SECOND FORM's CARD OF 'trunklinelaw17.HostSockets'. -/
def hostSocketsUptoCard : Claim7 := { stood := { row := hostSocketsUptoRow, standIns := [], harness := (true, "cb3a7f2a92e4575e23242b1cfb0549c90f7f3526f8b68fa41a34c8fd2a1fa9ac"), looks := true }, kinds := [], alts := [], laidByText := true, laidKinds := [.data], laidTests := true, laidLooks := .later }
def HostSocketsUptoCardSaid : Prop := Claim7.holds Tryz.pinned (.plain (OpenSpec.upto hostSocketsSpec)) hostSocketsUptoCard

/-- THE SECOND FORM's CARD OF 'trunklinelaw17.HostNone'. -/
def hostNoneUptoCard : Claim7 := { stood := { row := hostNoneUptoRow, standIns := [], harness := (true, "cb3a7f2a92e4575e23242b1cfb0549c90f7f3526f8b68fa41a34c8fd2a1fa9ac"), looks := true }, kinds := [], alts := [], laidByText := true, laidKinds := [.data], laidTests := true, laidLooks := .later }
def HostNoneUptoCardSaid : Prop := Claim7.holds Tryz.pinned (.plain (OpenSpec.upto hostNoneSpec)) hostNoneUptoCard
end Rows
end Go.Proofs.YtebjbnohljndjaaGreatDoor
