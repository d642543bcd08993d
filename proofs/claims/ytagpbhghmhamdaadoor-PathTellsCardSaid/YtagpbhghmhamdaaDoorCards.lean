/-
  DERIVED. GIVEN WITH THE SEED: THE CARDS: each row of YtagpbhghmhamdaaDoorRows.lean that lists a variable, with what it lists TIED to the program's text (the seventh form; the later family's looks); each row that meets fmt, with fmt's text TOLD by the authors' own Lean function (tested against real Go, not proved from fmt's source: count such statements apart). THE CARD IS WHAT COUNTS. Prove the row's statement (the work); the ties are given (YtagpbhghmhamdaaDoorTie.lean); close each card by the builder's one call (the guide's Derived/Test/ToyasCard.lean, 'card_holds'). Laid BY PROGRAM, IN A SANDBOX (cutbox-door.mjs). By AI agents, Wed Nov 11 2026. No macro, syntax, notation, axiom, sorry.
-/
import Derived.Test.YtagpbhghmhamdaaDoorRows
import GoSem.ClaimSeven
namespace Go.Proofs.YtagpbhghmhamdaaDoor
namespace Rows

/-- THE TIED CARD OF 'gossamerlaw10.PathTells'. -/
def pathTellsCard : Claim7 := { stood := { row := pathTellsRow, standIns := [], harness := (true, "3a3be9f1e9589b444432d1d15f060db9c4864e6f1781222923b94779dab48944"), looks := false }, kinds := [], alts := [], laidByText := true, laidKinds := [.data, .data, .data], laidTests := true, laidLooks := .later }
def PathTellsCardSaid : Prop := Claim7.holds Tryd.pinned (.plain (OpenSpec.ofChange pathTellsSpec)) pathTellsCard

/-- THE TIED CARD OF 'gossamerlaw10.PathTree'. -/
def pathTreeCard : Claim7 := { stood := { row := pathTreeRow, standIns := [], harness := (true, "3a3be9f1e9589b444432d1d15f060db9c4864e6f1781222923b94779dab48944"), looks := false }, kinds := [], alts := [], laidByText := true, laidKinds := [.data, .data, .data], laidTests := true, laidLooks := .later }
def PathTreeCardSaid : Prop := Claim7.holds Tryd.pinned (.plain (OpenSpec.ofChange pathTreeSpec)) pathTreeCard

/-- THE TIED CARD OF 'gossamerlaw10.PathOrder'. -/
def pathOrderCard : Claim7 := { stood := { row := pathOrderRow, standIns := [], harness := (true, "3a3be9f1e9589b444432d1d15f060db9c4864e6f1781222923b94779dab48944"), looks := false }, kinds := [], alts := [], laidByText := true, laidKinds := [.data, .data, .data], laidTests := true, laidLooks := .later }
def PathOrderCardSaid : Prop := Claim7.holds Tryd.pinned (.plain (OpenSpec.ofChange pathOrderSpec)) pathOrderCard

/-- THE TIED CARD OF 'gossamerlaw10.PathDeep'. -/
def pathDeepCard : Claim7 := { stood := { row := pathDeepRow, standIns := [], harness := (true, "3a3be9f1e9589b444432d1d15f060db9c4864e6f1781222923b94779dab48944"), looks := false }, kinds := [], alts := [], laidByText := true, laidKinds := [.data, .data, .data], laidTests := true, laidLooks := .later }
def PathDeepCardSaid : Prop := Claim7.holds Tryd.pinned (.plain (OpenSpec.ofChange pathDeepSpec)) pathDeepCard

/-- THE SECOND FORM's CARD OF 'gossamerlaw10.PathTells'. -/
def pathTellsUptoCard : Claim7 := { stood := { row := pathTellsUptoRow, standIns := [], harness := (true, "3a3be9f1e9589b444432d1d15f060db9c4864e6f1781222923b94779dab48944"), looks := false }, kinds := [], alts := [], laidByText := true, laidKinds := [.data, .data, .data], laidTests := true, laidLooks := .later }
def PathTellsUptoCardSaid : Prop := Claim7.holds Tryd.pinned (.plain (OpenSpec.upto pathTellsSpec)) pathTellsUptoCard

/-- THE SECOND FORM's CARD OF 'gossamerlaw10.PathTree'. -/
def pathTreeUptoCard : Claim7 := { stood := { row := pathTreeUptoRow, standIns := [], harness := (true, "3a3be9f1e9589b444432d1d15f060db9c4864e6f1781222923b94779dab48944"), looks := false }, kinds := [], alts := [], laidByText := true, laidKinds := [.data, .data, .data], laidTests := true, laidLooks := .later }
def PathTreeUptoCardSaid : Prop := Claim7.holds Tryd.pinned (.plain (OpenSpec.upto pathTreeSpec)) pathTreeUptoCard

/-- THE SECOND FORM's CARD OF 'gossamerlaw10.PathOrder'. -/
def pathOrderUptoCard : Claim7 := { stood := { row := pathOrderUptoRow, standIns := [], harness := (true, "3a3be9f1e9589b444432d1d15f060db9c4864e6f1781222923b94779dab48944"), looks := false }, kinds := [], alts := [], laidByText := true, laidKinds := [.data, .data, .data], laidTests := true, laidLooks := .later }
def PathOrderUptoCardSaid : Prop := Claim7.holds Tryd.pinned (.plain (OpenSpec.upto pathOrderSpec)) pathOrderUptoCard

/-- THE SECOND FORM's CARD OF 'gossamerlaw10.PathDeep'. -/
def pathDeepUptoCard : Claim7 := { stood := { row := pathDeepUptoRow, standIns := [], harness := (true, "3a3be9f1e9589b444432d1d15f060db9c4864e6f1781222923b94779dab48944"), looks := false }, kinds := [], alts := [], laidByText := true, laidKinds := [.data, .data, .data], laidTests := true, laidLooks := .later }
def PathDeepUptoCardSaid : Prop := Claim7.holds Tryd.pinned (.plain (OpenSpec.upto pathDeepSpec)) pathDeepUptoCard
end Rows
end Go.Proofs.YtagpbhghmhamdaaDoor
