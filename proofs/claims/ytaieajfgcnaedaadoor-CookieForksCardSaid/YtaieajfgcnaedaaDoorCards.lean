/-
  DERIVED. GIVEN WITH THE SEED: THE CARDS: each row of YtaieajfgcnaedaaDoorRows.lean that lists a variable, with what it lists TIED to the program's text (the seventh form; the later family's looks); each row that meets fmt, with fmt's text TOLD by the authors' own Lean function (tested against real Go, not proved from fmt's source: count such statements apart). THE CARD IS WHAT COUNTS. Prove the row's statement (the work); the ties are given (YtaieajfgcnaedaaDoorTie.lean); close each card by the builder's one call (the guide's Derived/Test/ToyasCard.lean, 'card_holds'). Laid BY PROGRAM, IN A SANDBOX (cutbox-door.mjs). By AI agents, Wed Nov 11 2026. No macro, syntax, notation, axiom, sorry.
-/
import Derived.Test.YtaieajfgcnaedaaDoorRows
import GoSem.ClaimSeven
namespace Go.Proofs.YtaieajfgcnaedaaDoor
namespace Rows

/-- THE TIED CARD OF 'trunklinelaw05.HashSums'. -/
def hashSumsCard : Claim7 := { stood := { row := hashSumsRow, standIns := [], harness := (true, "9b8077c4320926c6978f174e6083e937be5f79f7cab39be3c87bb1e4dd0455a0"), looks := false }, kinds := [], alts := [], laidByText := true, laidKinds := [.data], laidTests := true, laidLooks := .later }
def HashSumsCardSaid : Prop := Claim7.holds Tryd.pinned (.plain (OpenSpec.ofChange hashSumsSpec)) hashSumsCard

/-- THE TIED CARD OF 'trunklinelaw05.HashMacs'. -/
def hashMacsCard : Claim7 := { stood := { row := hashMacsRow, standIns := [], harness := (true, "9b8077c4320926c6978f174e6083e937be5f79f7cab39be3c87bb1e4dd0455a0"), looks := false }, kinds := [], alts := [], laidByText := true, laidKinds := [.data], laidTests := true, laidLooks := .later }
def HashMacsCardSaid : Prop := Claim7.holds Tryd.pinned (.plain (OpenSpec.ofChange hashMacsSpec)) hashMacsCard

/-- THE TIED CARD OF 'trunklinelaw05.HashSame'. -/
def hashSameCard : Claim7 := { stood := { row := hashSameRow, standIns := [], harness := (true, "9b8077c4320926c6978f174e6083e937be5f79f7cab39be3c87bb1e4dd0455a0"), looks := false }, kinds := [], alts := [], laidByText := true, laidKinds := [.data], laidTests := true, laidLooks := .later }
def HashSameCardSaid : Prop := Claim7.holds Tryd.pinned (.plain (OpenSpec.ofChange hashSameSpec)) hashSameCard

/-- THE TIED CARD OF 'trunklinelaw05.HashKeys'. -/
def hashKeysCard : Claim7 := { stood := { row := hashKeysRow, standIns := [], harness := (true, "9b8077c4320926c6978f174e6083e937be5f79f7cab39be3c87bb1e4dd0455a0"), looks := false }, kinds := [], alts := [], laidByText := true, laidKinds := [.data], laidTests := true, laidLooks := .later }
def HashKeysCardSaid : Prop := Claim7.holds Tryd.pinned (.plain (OpenSpec.ofChange hashKeysSpec)) hashKeysCard

/-- THE TIED CARD OF 'trunklinelaw05.HashNone'. -/
def hashNoneCard : Claim7 := { stood := { row := hashNoneRow, standIns := [], harness := (true, "9b8077c4320926c6978f174e6083e937be5f79f7cab39be3c87bb1e4dd0455a0"), looks := false }, kinds := [], alts := [], laidByText := true, laidKinds := [.data], laidTests := true, laidLooks := .later }
def HashNoneCardSaid : Prop := Claim7.holds Tryd.pinned (.plain (OpenSpec.ofChange hashNoneSpec)) hashNoneCard

/-- THE TIED CARD OF 'trunklinelaw06.CookieLife'. -/
def cookieLifeCard : Claim7 := { stood := { row := cookieLifeRow, standIns := [], harness := (true, "9b8077c4320926c6978f174e6083e937be5f79f7cab39be3c87bb1e4dd0455a0"), looks := false }, kinds := [], alts := [], laidByText := true, laidKinds := [.data], laidTests := true, laidLooks := .later }
def CookieLifeCardSaid : Prop := Claim7.holds Tryd.pinned (.plain (OpenSpec.ofChange cookieLifeSpec)) cookieLifeCard

/-- THE TIED CARD OF 'trunklinelaw06.CookieLays'. -/
def cookieLaysCard : Claim7 := { stood := { row := cookieLaysRow, standIns := [], harness := (true, "9b8077c4320926c6978f174e6083e937be5f79f7cab39be3c87bb1e4dd0455a0"), looks := false }, kinds := [], alts := [], laidByText := true, laidKinds := [.data], laidTests := true, laidLooks := .later }
def CookieLaysCardSaid : Prop := Claim7.holds Tryd.pinned (.plain (OpenSpec.ofChange cookieLaysSpec)) cookieLaysCard

/-- THE TIED CARD OF 'trunklinelaw06.CookiePlays'. -/
def cookiePlaysCard : Claim7 := { stood := { row := cookiePlaysRow, standIns := [], harness := (true, "9b8077c4320926c6978f174e6083e937be5f79f7cab39be3c87bb1e4dd0455a0"), looks := false }, kinds := [], alts := [], laidByText := true, laidKinds := [.data], laidTests := true, laidLooks := .later }
def CookiePlaysCardSaid : Prop := Claim7.holds Tryd.pinned (.plain (OpenSpec.ofChange cookiePlaysSpec)) cookiePlaysCard

/-- THE TIED CARD OF 'trunklinelaw06.CookieBack'. -/
def cookieBackCard : Claim7 := { stood := { row := cookieBackRow, standIns := [], harness := (true, "9b8077c4320926c6978f174e6083e937be5f79f7cab39be3c87bb1e4dd0455a0"), looks := false }, kinds := [], alts := [], laidByText := true, laidKinds := [.data], laidTests := true, laidLooks := .later }
def CookieBackCardSaid : Prop := Claim7.holds Tryd.pinned (.plain (OpenSpec.ofChange cookieBackSpec)) cookieBackCard

/-- THE TIED CARD OF 'trunklinelaw06.CookieForks'. -/
def cookieForksCard : Claim7 := { stood := { row := cookieForksRow, standIns := [], harness := (true, "9b8077c4320926c6978f174e6083e937be5f79f7cab39be3c87bb1e4dd0455a0"), looks := false }, kinds := [], alts := [], laidByText := true, laidKinds := [.data], laidTests := true, laidLooks := .later }
def CookieForksCardSaid : Prop := Claim7.holds Tryd.pinned (.plain (OpenSpec.ofChange cookieForksSpec)) cookieForksCard

/-- THE TIED CARD OF 'trunklinelaw06.CookieNone'. -/
def cookieNoneCard : Claim7 := { stood := { row := cookieNoneRow, standIns := [], harness := (true, "9b8077c4320926c6978f174e6083e937be5f79f7cab39be3c87bb1e4dd0455a0"), looks := false }, kinds := [], alts := [], laidByText := true, laidKinds := [.data], laidTests := true, laidLooks := .later }
def CookieNoneCardSaid : Prop := Claim7.holds Tryd.pinned (.plain (OpenSpec.ofChange cookieNoneSpec)) cookieNoneCard

/-- THE SECOND FORM's CARD OF 'trunklinelaw05.HashSums'. -/
def hashSumsUptoCard : Claim7 := { stood := { row := hashSumsUptoRow, standIns := [], harness := (true, "9b8077c4320926c6978f174e6083e937be5f79f7cab39be3c87bb1e4dd0455a0"), looks := false }, kinds := [], alts := [], laidByText := true, laidKinds := [.data], laidTests := true, laidLooks := .later }
def HashSumsUptoCardSaid : Prop := Claim7.holds Tryd.pinned (.plain (OpenSpec.upto hashSumsSpec)) hashSumsUptoCard

/-- THE SECOND FORM's CARD OF 'trunklinelaw05.HashMacs'. -/
def hashMacsUptoCard : Claim7 := { stood := { row := hashMacsUptoRow, standIns := [], harness := (true, "9b8077c4320926c6978f174e6083e937be5f79f7cab39be3c87bb1e4dd0455a0"), looks := false }, kinds := [], alts := [], laidByText := true, laidKinds := [.data], laidTests := true, laidLooks := .later }
def HashMacsUptoCardSaid : Prop := Claim7.holds Tryd.pinned (.plain (OpenSpec.upto hashMacsSpec)) hashMacsUptoCard

/-- THE SECOND FORM's CARD OF 'trunklinelaw05.HashSame'. -/
def hashSameUptoCard : Claim7 := { stood := { row := hashSameUptoRow, standIns := [], harness := (true, "9b8077c4320926c6978f174e6083e937be5f79f7cab39be3c87bb1e4dd0455a0"), looks := false }, kinds := [], alts := [], laidByText := true, laidKinds := [.data], laidTests := true, laidLooks := .later }
def HashSameUptoCardSaid : Prop := Claim7.holds Tryd.pinned (.plain (OpenSpec.upto hashSameSpec)) hashSameUptoCard

/-- THE SECOND FORM's CARD OF 'trunklinelaw05.HashKeys'. -/
def hashKeysUptoCard : Claim7 := { stood := { row := hashKeysUptoRow, standIns := [], harness := (true, "9b8077c4320926c6978f174e6083e937be5f79f7cab39be3c87bb1e4dd0455a0"), looks := false }, kinds := [], alts := [], laidByText := true, laidKinds := [.data], laidTests := true, laidLooks := .later }
def HashKeysUptoCardSaid : Prop := Claim7.holds Tryd.pinned (.plain (OpenSpec.upto hashKeysSpec)) hashKeysUptoCard

/-- THE SECOND FORM's CARD OF 'trunklinelaw05.HashNone'. -/
def hashNoneUptoCard : Claim7 := { stood := { row := hashNoneUptoRow, standIns := [], harness := (true, "9b8077c4320926c6978f174e6083e937be5f79f7cab39be3c87bb1e4dd0455a0"), looks := false }, kinds := [], alts := [], laidByText := true, laidKinds := [.data], laidTests := true, laidLooks := .later }
def HashNoneUptoCardSaid : Prop := Claim7.holds Tryd.pinned (.plain (OpenSpec.upto hashNoneSpec)) hashNoneUptoCard

/-- THE SECOND FORM's CARD OF 'trunklinelaw06.CookieLife'. -/
def cookieLifeUptoCard : Claim7 := { stood := { row := cookieLifeUptoRow, standIns := [], harness := (true, "9b8077c4320926c6978f174e6083e937be5f79f7cab39be3c87bb1e4dd0455a0"), looks := false }, kinds := [], alts := [], laidByText := true, laidKinds := [.data], laidTests := true, laidLooks := .later }
def CookieLifeUptoCardSaid : Prop := Claim7.holds Tryd.pinned (.plain (OpenSpec.upto cookieLifeSpec)) cookieLifeUptoCard

/-- THE SECOND FORM's CARD OF 'trunklinelaw06.CookieLays'. -/
def cookieLaysUptoCard : Claim7 := { stood := { row := cookieLaysUptoRow, standIns := [], harness := (true, "9b8077c4320926c6978f174e6083e937be5f79f7cab39be3c87bb1e4dd0455a0"), looks := false }, kinds := [], alts := [], laidByText := true, laidKinds := [.data], laidTests := true, laidLooks := .later }
def CookieLaysUptoCardSaid : Prop := Claim7.holds Tryd.pinned (.plain (OpenSpec.upto cookieLaysSpec)) cookieLaysUptoCard

/-- THE SECOND FORM's CARD OF 'trunklinelaw06.CookiePlays'. -/
def cookiePlaysUptoCard : Claim7 := { stood := { row := cookiePlaysUptoRow, standIns := [], harness := (true, "9b8077c4320926c6978f174e6083e937be5f79f7cab39be3c87bb1e4dd0455a0"), looks := false }, kinds := [], alts := [], laidByText := true, laidKinds := [.data], laidTests := true, laidLooks := .later }
def CookiePlaysUptoCardSaid : Prop := Claim7.holds Tryd.pinned (.plain (OpenSpec.upto cookiePlaysSpec)) cookiePlaysUptoCard

/-- THE SECOND FORM's CARD OF 'trunklinelaw06.CookieBack'. -/
def cookieBackUptoCard : Claim7 := { stood := { row := cookieBackUptoRow, standIns := [], harness := (true, "9b8077c4320926c6978f174e6083e937be5f79f7cab39be3c87bb1e4dd0455a0"), looks := false }, kinds := [], alts := [], laidByText := true, laidKinds := [.data], laidTests := true, laidLooks := .later }
def CookieBackUptoCardSaid : Prop := Claim7.holds Tryd.pinned (.plain (OpenSpec.upto cookieBackSpec)) cookieBackUptoCard

/-- THE SECOND FORM's CARD OF 'trunklinelaw06.CookieForks'. -/
def cookieForksUptoCard : Claim7 := { stood := { row := cookieForksUptoRow, standIns := [], harness := (true, "9b8077c4320926c6978f174e6083e937be5f79f7cab39be3c87bb1e4dd0455a0"), looks := false }, kinds := [], alts := [], laidByText := true, laidKinds := [.data], laidTests := true, laidLooks := .later }
def CookieForksUptoCardSaid : Prop := Claim7.holds Tryd.pinned (.plain (OpenSpec.upto cookieForksSpec)) cookieForksUptoCard

/-- THE SECOND FORM's CARD OF 'trunklinelaw06.CookieNone'. -/
def cookieNoneUptoCard : Claim7 := { stood := { row := cookieNoneUptoRow, standIns := [], harness := (true, "9b8077c4320926c6978f174e6083e937be5f79f7cab39be3c87bb1e4dd0455a0"), looks := false }, kinds := [], alts := [], laidByText := true, laidKinds := [.data], laidTests := true, laidLooks := .later }
def CookieNoneUptoCardSaid : Prop := Claim7.holds Tryd.pinned (.plain (OpenSpec.upto cookieNoneSpec)) cookieNoneUptoCard
end Rows
end Go.Proofs.YtaieajfgcnaedaaDoor
