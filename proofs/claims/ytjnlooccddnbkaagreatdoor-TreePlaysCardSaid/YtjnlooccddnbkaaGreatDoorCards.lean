/-
  DERIVED. GIVEN WITH THE SEED: THE CARDS: each row of YtjnlooccddnbkaaGreatDoorRows.lean that lists a variable, with what it lists TIED to the program's text (the seventh form; the later family's looks); each row that meets fmt, with fmt's text TOLD by the authors' own Lean function (tested against real Go, not proved from fmt's source: count such statements apart). THE CARD IS WHAT COUNTS. Prove the row's statement (the work); the ties are given (YtjnlooccddnbkaaGreatDoorTie.lean); close each card by the builder's one call (the guide's Derived/Test/ToyasCard.lean, 'card_holds'). Laid BY PROGRAM, IN A SANDBOX (cutbox-door.mjs). By AI agents, Wed Nov 11 2026. No macro, syntax, notation, axiom, sorry.
-/
import Derived.Test.YtjnlooccddnbkaaGreatDoorRows
import GoSem.ClaimSeven
namespace Go.Proofs.YtjnlooccddnbkaaGreatDoor
namespace Rows

/-- THE TIED CARD OF 'gossamerlaw19.TreeLacks'. -/
def treeLacksCard : Claim7 := { stood := { row := treeLacksRow, standIns := [], harness := (true, "a0b6fd3b42f5e5ada840d8212d410aa0f7243adb8341466084c3611d3de1b54d"), looks := false }, kinds := [], alts := [], laidByText := true, laidKinds := [.data, .data], laidTests := true, laidLooks := .later }
def TreeLacksCardSaid : Prop := Claim7.holds Tryz.pinned (.plain (OpenSpec.ofChange treeLacksSpec)) treeLacksCard

/-- THE TIED CARD OF 'gossamerlaw19.TreeTouch'. -/
def treeTouchCard : Claim7 := { stood := { row := treeTouchRow, standIns := [], harness := (true, "a0b6fd3b42f5e5ada840d8212d410aa0f7243adb8341466084c3611d3de1b54d"), looks := false }, kinds := [], alts := [], laidByText := true, laidKinds := [.data, .data], laidTests := true, laidLooks := .later }
def TreeTouchCardSaid : Prop := Claim7.holds Tryz.pinned (.plain (OpenSpec.ofChange treeTouchSpec)) treeTouchCard

/-- THE TIED CARD OF 'gossamerlaw19.TreeOrder'. -/
def treeOrderCard : Claim7 := { stood := { row := treeOrderRow, standIns := [], harness := (true, "a0b6fd3b42f5e5ada840d8212d410aa0f7243adb8341466084c3611d3de1b54d"), looks := false }, kinds := [], alts := [], laidByText := true, laidKinds := [.data, .data], laidTests := true, laidLooks := .later }
def TreeOrderCardSaid : Prop := Claim7.holds Tryz.pinned (.plain (OpenSpec.ofChange treeOrderSpec)) treeOrderCard

/-- THE TIED CARD OF 'gossamerlaw19.TreeNodes'. -/
def treeNodesCard : Claim7 := { stood := { row := treeNodesRow, standIns := [], harness := (true, "a0b6fd3b42f5e5ada840d8212d410aa0f7243adb8341466084c3611d3de1b54d"), looks := false }, kinds := [], alts := [], laidByText := true, laidKinds := [.data, .data], laidTests := true, laidLooks := .later }
def TreeNodesCardSaid : Prop := Claim7.holds Tryz.pinned (.plain (OpenSpec.ofChange treeNodesSpec)) treeNodesCard

/-- THE TIED CARD OF 'gossamerlaw19.TreePlays'. -/
def treePlaysCard : Claim7 := { stood := { row := treePlaysRow, standIns := [], harness := (true, "a0b6fd3b42f5e5ada840d8212d410aa0f7243adb8341466084c3611d3de1b54d"), looks := false }, kinds := [], alts := [], laidByText := true, laidKinds := [.data, .data], laidTests := true, laidLooks := .later }
def TreePlaysCardSaid : Prop := Claim7.holds Tryz.pinned (.plain (OpenSpec.ofChange treePlaysSpec)) treePlaysCard

/-- THE TIED CARD OF 'gossamerlaw19.TreeNone'. -/
def treeNoneCard : Claim7 := { stood := { row := treeNoneRow, standIns := [], harness := (true, "a0b6fd3b42f5e5ada840d8212d410aa0f7243adb8341466084c3611d3de1b54d"), looks := false }, kinds := [], alts := [], laidByText := true, laidKinds := [.data, .data], laidTests := true, laidLooks := .later }
def TreeNoneCardSaid : Prop := Claim7.holds Tryz.pinned (.plain (OpenSpec.ofChange treeNoneSpec)) treeNoneCard

/-- THE SECOND FORM's CARD OF 'gossamerlaw19.TreeLacks'. -/
def treeLacksUptoCard : Claim7 := { stood := { row := treeLacksUptoRow, standIns := [], harness := (true, "a0b6fd3b42f5e5ada840d8212d410aa0f7243adb8341466084c3611d3de1b54d"), looks := false }, kinds := [], alts := [], laidByText := true, laidKinds := [.data, .data], laidTests := true, laidLooks := .later }
def TreeLacksUptoCardSaid : Prop := Claim7.holds Tryz.pinned (.plain (OpenSpec.upto treeLacksSpec)) treeLacksUptoCard

/-- THE SECOND FORM's CARD OF 'gossamerlaw19.TreeTouch'. -/
def treeTouchUptoCard : Claim7 := { stood := { row := treeTouchUptoRow, standIns := [], harness := (true, "a0b6fd3b42f5e5ada840d8212d410aa0f7243adb8341466084c3611d3de1b54d"), looks := false }, kinds := [], alts := [], laidByText := true, laidKinds := [.data, .data], laidTests := true, laidLooks := .later }
def TreeTouchUptoCardSaid : Prop := Claim7.holds Tryz.pinned (.plain (OpenSpec.upto treeTouchSpec)) treeTouchUptoCard

/-- THE SECOND FORM's CARD OF 'gossamerlaw19.TreeOrder'. -/
def treeOrderUptoCard : Claim7 := { stood := { row := treeOrderUptoRow, standIns := [], harness := (true, "a0b6fd3b42f5e5ada840d8212d410aa0f7243adb8341466084c3611d3de1b54d"), looks := false }, kinds := [], alts := [], laidByText := true, laidKinds := [.data, .data], laidTests := true, laidLooks := .later }
def TreeOrderUptoCardSaid : Prop := Claim7.holds Tryz.pinned (.plain (OpenSpec.upto treeOrderSpec)) treeOrderUptoCard

/-- THE SECOND FORM's CARD OF 'gossamerlaw19.TreeNodes'. -/
def treeNodesUptoCard : Claim7 := { stood := { row := treeNodesUptoRow, standIns := [], harness := (true, "a0b6fd3b42f5e5ada840d8212d410aa0f7243adb8341466084c3611d3de1b54d"), looks := false }, kinds := [], alts := [], laidByText := true, laidKinds := [.data, .data], laidTests := true, laidLooks := .later }
def TreeNodesUptoCardSaid : Prop := Claim7.holds Tryz.pinned (.plain (OpenSpec.upto treeNodesSpec)) treeNodesUptoCard

/-- THE SECOND FORM's CARD OF 'gossamerlaw19.TreePlays'. -/
def treePlaysUptoCard : Claim7 := { stood := { row := treePlaysUptoRow, standIns := [], harness := (true, "a0b6fd3b42f5e5ada840d8212d410aa0f7243adb8341466084c3611d3de1b54d"), looks := false }, kinds := [], alts := [], laidByText := true, laidKinds := [.data, .data], laidTests := true, laidLooks := .later }
def TreePlaysUptoCardSaid : Prop := Claim7.holds Tryz.pinned (.plain (OpenSpec.upto treePlaysSpec)) treePlaysUptoCard

/-- THE SECOND FORM's CARD OF 'gossamerlaw19.TreeNone'. -/
def treeNoneUptoCard : Claim7 := { stood := { row := treeNoneUptoRow, standIns := [], harness := (true, "a0b6fd3b42f5e5ada840d8212d410aa0f7243adb8341466084c3611d3de1b54d"), looks := false }, kinds := [], alts := [], laidByText := true, laidKinds := [.data, .data], laidTests := true, laidLooks := .later }
def TreeNoneUptoCardSaid : Prop := Claim7.holds Tryz.pinned (.plain (OpenSpec.upto treeNoneSpec)) treeNoneUptoCard
end Rows
end Go.Proofs.YtjnlooccddnbkaaGreatDoor
