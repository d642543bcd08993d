/-
  DERIVED. GIVEN WITH THE SEED: THE CARDS: each row of YtibdpjhiblhnmaaDoorRows.lean that lists a variable, with what it lists TIED to the program's text (the seventh form; the later family's looks); each row that meets fmt, with fmt's text TOLD by the authors' own Lean function (tested against real Go, not proved from fmt's source: count such statements apart). THE CARD IS WHAT COUNTS. Prove the row's statement (the work); the ties are given (YtibdpjhiblhnmaaDoorTie.lean); close each card by the builder's one call (the guide's Derived/Test/ToyasCard.lean, 'card_holds'). Laid BY PROGRAM, IN A SANDBOX (cutbox-door.mjs). By AI agents, Wed Nov 11 2026. No macro, syntax, notation, axiom, sorry.
-/
import Derived.Test.YtibdpjhiblhnmaaDoorRows
import GoSem.ClaimSeven
namespace Go.Proofs.YtibdpjhiblhnmaaDoor
namespace Rows

/-- THE TIED CARD OF 'gossamerlaw18.ShardOf'. -/
def shardOfCard : Claim7 := { stood := { row := shardOfRow, standIns := [], harness := (true, "6760d32542065d7234ab3052b7048e0d2e842d2304bb9e086040fc65b8106af2"), looks := false }, kinds := [], alts := [], laidByText := true, laidKinds := [.data, .data], laidTests := true, laidLooks := .later }
def ShardOfCardSaid : Prop := Claim7.holds Tryd.pinned (.plain (OpenSpec.ofChange shardOfSpec)) shardOfCard

/-- THE TIED CARD OF 'gossamerlaw18.ShardKeeps'. -/
def shardKeepsCard : Claim7 := { stood := { row := shardKeepsRow, standIns := [], harness := (true, "6760d32542065d7234ab3052b7048e0d2e842d2304bb9e086040fc65b8106af2"), looks := false }, kinds := [], alts := [], laidByText := true, laidKinds := [.data, .data], laidTests := true, laidLooks := .later }
def ShardKeepsCardSaid : Prop := Claim7.holds Tryd.pinned (.plain (OpenSpec.ofChange shardKeepsSpec)) shardKeepsCard

/-- THE SECOND FORM's CARD OF 'gossamerlaw18.ShardOf'. -/
def shardOfUptoCard : Claim7 := { stood := { row := shardOfUptoRow, standIns := [], harness := (true, "6760d32542065d7234ab3052b7048e0d2e842d2304bb9e086040fc65b8106af2"), looks := false }, kinds := [], alts := [], laidByText := true, laidKinds := [.data, .data], laidTests := true, laidLooks := .later }
def ShardOfUptoCardSaid : Prop := Claim7.holds Tryd.pinned (.plain (OpenSpec.upto shardOfSpec)) shardOfUptoCard

/-- THE SECOND FORM's CARD OF 'gossamerlaw18.ShardKeeps'. -/
def shardKeepsUptoCard : Claim7 := { stood := { row := shardKeepsUptoRow, standIns := [], harness := (true, "6760d32542065d7234ab3052b7048e0d2e842d2304bb9e086040fc65b8106af2"), looks := false }, kinds := [], alts := [], laidByText := true, laidKinds := [.data, .data], laidTests := true, laidLooks := .later }
def ShardKeepsUptoCardSaid : Prop := Claim7.holds Tryd.pinned (.plain (OpenSpec.upto shardKeepsSpec)) shardKeepsUptoCard
end Rows
end Go.Proofs.YtibdpjhiblhnmaaDoor
