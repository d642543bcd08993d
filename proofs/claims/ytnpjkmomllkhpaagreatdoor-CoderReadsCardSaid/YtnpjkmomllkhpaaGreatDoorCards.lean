/-
  DERIVED. GIVEN WITH THE SEED: THE CARDS: each row of YtnpjkmomllkhpaaGreatDoorRows.lean that lists a variable, with what it lists TIED to the program's text (the seventh form; the later family's looks); each row that meets fmt, with fmt's text TOLD by the authors' own Lean function (tested against real Go, not proved from fmt's source: count such statements apart). THE CARD IS WHAT COUNTS. Prove the row's statement (the work); the ties are given (YtnpjkmomllkhpaaGreatDoorTie.lean); close each card by the builder's one call (the guide's Derived/Test/ToyasCard.lean, 'card_holds'). Laid BY PROGRAM, IN A SANDBOX (cutbox-door.mjs). By AI agents, Wed Nov 11 2026. No macro, syntax, notation, axiom, sorry.
-/
import Derived.Test.YtnpjkmomllkhpaaGreatDoorRows
import GoSem.ClaimSeven
namespace Go.Proofs.YtnpjkmomllkhpaaGreatDoor
namespace Rows

/-- THE TIED CARD OF 'gossamerlaw25.CoderWrites'. -/
def coderWritesCard : Claim7 := { stood := { row := coderWritesRow, standIns := [], harness := (true, "ba9fd8fb7db250afb9bfdb37ab98672ec450ff44f49649fbd07fb1834802c872"), looks := false }, kinds := [], alts := [], laidByText := true, laidKinds := [.data, .pinned], laidTests := true, laidLooks := .later }
def CoderWritesCardSaid : Prop := Claim7.holds Tryz.pinned (.plain (OpenSpec.ofChange coderWritesSpec)) coderWritesCard

/-- THE TIED CARD OF 'gossamerlaw25.CoderReads'. -/
def coderReadsCard : Claim7 := { stood := { row := coderReadsRow, standIns := [], harness := (true, "ba9fd8fb7db250afb9bfdb37ab98672ec450ff44f49649fbd07fb1834802c872"), looks := false }, kinds := [], alts := [], laidByText := true, laidKinds := [.data, .pinned], laidTests := true, laidLooks := .later }
def CoderReadsCardSaid : Prop := Claim7.holds Tryz.pinned (.plain (OpenSpec.ofChange coderReadsSpec)) coderReadsCard

/-- THE SECOND FORM's CARD OF 'gossamerlaw25.CoderWrites'. -/
def coderWritesUptoCard : Claim7 := { stood := { row := coderWritesUptoRow, standIns := [], harness := (true, "ba9fd8fb7db250afb9bfdb37ab98672ec450ff44f49649fbd07fb1834802c872"), looks := false }, kinds := [], alts := [], laidByText := true, laidKinds := [.data, .pinned], laidTests := true, laidLooks := .later }
def CoderWritesUptoCardSaid : Prop := Claim7.holds Tryz.pinned (.plain (OpenSpec.upto coderWritesSpec)) coderWritesUptoCard

/-- THE SECOND FORM's CARD OF 'gossamerlaw25.CoderReads'. -/
def coderReadsUptoCard : Claim7 := { stood := { row := coderReadsUptoRow, standIns := [], harness := (true, "ba9fd8fb7db250afb9bfdb37ab98672ec450ff44f49649fbd07fb1834802c872"), looks := false }, kinds := [], alts := [], laidByText := true, laidKinds := [.data, .pinned], laidTests := true, laidLooks := .later }
def CoderReadsUptoCardSaid : Prop := Claim7.holds Tryz.pinned (.plain (OpenSpec.upto coderReadsSpec)) coderReadsUptoCard
end Rows
end Go.Proofs.YtnpjkmomllkhpaaGreatDoor
