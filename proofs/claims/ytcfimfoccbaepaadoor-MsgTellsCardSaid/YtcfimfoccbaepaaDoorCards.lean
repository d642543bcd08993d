/-
  DERIVED. GIVEN WITH THE SEED: THE CARDS: each row of YtcfimfoccbaepaaDoorRows.lean that lists a variable, with what it lists TIED to the program's text (the seventh form; the later family's looks); each row that meets fmt, with fmt's text TOLD by the authors' own Lean function (tested against real Go, not proved from fmt's source: count such statements apart). THE CARD IS WHAT COUNTS. Prove the row's statement (the work); the ties are given (YtcfimfoccbaepaaDoorTie.lean); close each card by the builder's one call (the guide's Derived/Test/ToyasCard.lean, 'card_holds'). Laid BY PROGRAM, IN A SANDBOX (cutbox-door.mjs). By AI agents, Wed Nov 11 2026. No macro, syntax, notation, axiom, sorry.
-/
import Derived.Test.YtcfimfoccbaepaaDoorRows
import GoSem.ClaimSeven
namespace Go.Proofs.YtcfimfoccbaepaaDoor
namespace Rows

/-- THE TIED CARD OF 'gossamerlaw26.MsgTells'. -/
def msgTellsCard : Claim7 := { stood := { row := msgTellsRow, standIns := [], harness := (true, "0f83fcd38f3d3263ed28ee1a475181c18994d708d69b16a77062f7c0c6711ca1"), looks := false }, kinds := [], alts := [], laidByText := true, laidKinds := [.data], laidTests := true, laidLooks := .later }
def MsgTellsCardSaid : Prop := Claim7.holds Tryd.pinned (.plain (OpenSpec.ofChange msgTellsSpec)) msgTellsCard

/-- THE TIED CARD OF 'gossamerlaw26.MsgBack'. -/
def msgBackCard : Claim7 := { stood := { row := msgBackRow, standIns := [], harness := (true, "0f83fcd38f3d3263ed28ee1a475181c18994d708d69b16a77062f7c0c6711ca1"), looks := false }, kinds := [], alts := [], laidByText := true, laidKinds := [.data], laidTests := true, laidLooks := .later }
def MsgBackCardSaid : Prop := Claim7.holds Tryd.pinned (.plain (OpenSpec.ofChange msgBackSpec)) msgBackCard

/-- THE TIED CARD OF 'gossamerlaw26.MsgText'. -/
def msgTextCard : Claim7 := { stood := { row := msgTextRow, standIns := [], harness := (true, "0f83fcd38f3d3263ed28ee1a475181c18994d708d69b16a77062f7c0c6711ca1"), looks := false }, kinds := [], alts := [], laidByText := true, laidKinds := [.data], laidTests := true, laidLooks := .later }
def MsgTextCardSaid : Prop := Claim7.holds Tryd.pinned (.plain (OpenSpec.ofChange msgTextSpec)) msgTextCard

/-- THE TIED CARD OF 'gossamerlaw26.MsgApart'. -/
def msgApartCard : Claim7 := { stood := { row := msgApartRow, standIns := [], harness := (true, "0f83fcd38f3d3263ed28ee1a475181c18994d708d69b16a77062f7c0c6711ca1"), looks := false }, kinds := [], alts := [], laidByText := true, laidKinds := [.data], laidTests := true, laidLooks := .later }
def MsgApartCardSaid : Prop := Claim7.holds Tryd.pinned (.plain (OpenSpec.ofChange msgApartSpec)) msgApartCard

/-- THE TIED CARD OF 'gossamerlaw26.MsgKinds'. -/
def msgKindsCard : Claim7 := { stood := { row := msgKindsRow, standIns := [], harness := (true, "0f83fcd38f3d3263ed28ee1a475181c18994d708d69b16a77062f7c0c6711ca1"), looks := false }, kinds := [], alts := [], laidByText := true, laidKinds := [.data], laidTests := true, laidLooks := .later }
def MsgKindsCardSaid : Prop := Claim7.holds Tryd.pinned (.plain (OpenSpec.ofChange msgKindsSpec)) msgKindsCard

/-- THE SECOND FORM's CARD OF 'gossamerlaw26.MsgTells'. -/
def msgTellsUptoCard : Claim7 := { stood := { row := msgTellsUptoRow, standIns := [], harness := (true, "0f83fcd38f3d3263ed28ee1a475181c18994d708d69b16a77062f7c0c6711ca1"), looks := false }, kinds := [], alts := [], laidByText := true, laidKinds := [.data], laidTests := true, laidLooks := .later }
def MsgTellsUptoCardSaid : Prop := Claim7.holds Tryd.pinned (.plain (OpenSpec.upto msgTellsSpec)) msgTellsUptoCard

/-- THE SECOND FORM's CARD OF 'gossamerlaw26.MsgBack'. -/
def msgBackUptoCard : Claim7 := { stood := { row := msgBackUptoRow, standIns := [], harness := (true, "0f83fcd38f3d3263ed28ee1a475181c18994d708d69b16a77062f7c0c6711ca1"), looks := false }, kinds := [], alts := [], laidByText := true, laidKinds := [.data], laidTests := true, laidLooks := .later }
def MsgBackUptoCardSaid : Prop := Claim7.holds Tryd.pinned (.plain (OpenSpec.upto msgBackSpec)) msgBackUptoCard

/-- THE SECOND FORM's CARD OF 'gossamerlaw26.MsgText'. -/
def msgTextUptoCard : Claim7 := { stood := { row := msgTextUptoRow, standIns := [], harness := (true, "0f83fcd38f3d3263ed28ee1a475181c18994d708d69b16a77062f7c0c6711ca1"), looks := false }, kinds := [], alts := [], laidByText := true, laidKinds := [.data], laidTests := true, laidLooks := .later }
def MsgTextUptoCardSaid : Prop := Claim7.holds Tryd.pinned (.plain (OpenSpec.upto msgTextSpec)) msgTextUptoCard

/-- THE SECOND FORM's CARD OF 'gossamerlaw26.MsgApart'. -/
def msgApartUptoCard : Claim7 := { stood := { row := msgApartUptoRow, standIns := [], harness := (true, "0f83fcd38f3d3263ed28ee1a475181c18994d708d69b16a77062f7c0c6711ca1"), looks := false }, kinds := [], alts := [], laidByText := true, laidKinds := [.data], laidTests := true, laidLooks := .later }
def MsgApartUptoCardSaid : Prop := Claim7.holds Tryd.pinned (.plain (OpenSpec.upto msgApartSpec)) msgApartUptoCard

/-- THE SECOND FORM's CARD OF 'gossamerlaw26.MsgKinds'. -/
def msgKindsUptoCard : Claim7 := { stood := { row := msgKindsUptoRow, standIns := [], harness := (true, "0f83fcd38f3d3263ed28ee1a475181c18994d708d69b16a77062f7c0c6711ca1"), looks := false }, kinds := [], alts := [], laidByText := true, laidKinds := [.data], laidTests := true, laidLooks := .later }
def MsgKindsUptoCardSaid : Prop := Claim7.holds Tryd.pinned (.plain (OpenSpec.upto msgKindsSpec)) msgKindsUptoCard
end Rows
end Go.Proofs.YtcfimfoccbaepaaDoor
