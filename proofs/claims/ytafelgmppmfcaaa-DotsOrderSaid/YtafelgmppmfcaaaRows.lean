/-
  No cell of these rows narrows 'for every input' (looked for: loops, veiled, ifaces, maps, wideKeys, modest, calm, conditions, laid).
  DERIVED. THE GIVEN ROWS OF THIS SEAT. 5 by the template 'for every input the law returns true; each argument reads behind the call as it read before'; 0 by the template 'total and deterministic' (their statements: YtafelgmppmfcaaaTotals.lean).
  GIVEN WITH THE SEED: the statements are not yours to turn. If you find one false, say at which input.
  Laid BY PROGRAM, IN A SANDBOX (cutbox-rows.mjs): the forced cells as the released guide's own fill.sh prints them over the translation 3b3ac151372c44bc… (all of the seat's roots in one cut). By AI agents, Wed Nov 11 2026. No macro, syntax, notation, axiom, sorry.
-/
import Derived.Test.YtafelgmppmfcaaaChecked
import GoSem.Claim
import GoSem.ClaimJoined
import GoSem.ClaimMapViews
import Derived.JoinedTies
import Derived.KernelRfl
namespace Go.Proofs.Ytafelgmppmfcaaa
/- THE CELL 'sum', in the pinned program and in every row, IS THE sha256 OF THE DUMP (.gsa) THAT YtafelgmppmfcaaaProg.lean LOADS. Nothing in Lean hashes anything: it is a label: what it is worth is what the hold of that sum in a sandbox is worth. -/
noncomputable def Try.pinned : Pinned := { name := "ytafelgmppmfcaaa", sum := "3b3ac151372c44bceaab768c5a6f60d467872f0da1c374eaef49c2ac3b1c5b53", checked := Try.checked }
namespace Rows
def none {H : Type} : Left H := { results := [], args := [] }

/-- 'gossamerlaw11.DotsTells': WHATEVER THE INPUT: true; the input reads as it did. -/
def dotsTellsSpec : ChangeSpec := { name := "dotsTells", fn := fun _ => fun
  | [d1, d2, d3] => { results := [.lit (.bool true)], args := [d1, d2, d3] }
  | _ => none }
def dotsTellsRow : OpenClaim := { program := "ytafelgmppmfcaaa", sum := "3b3ac151372c44bceaab768c5a6f60d467872f0da1c374eaef49c2ac3b1c5b53", func := "gossamer/gossamerlaw11.DotsTells", spec := "dotsTells", inPlace := ["internal/bytealg.abigen_runtime_cmpstring"], unfollowed := true, recurses := true, apart := false }
def DotsTellsSaid : Prop := dotsTellsRow.holds Try.pinned (OpenSpec.ofChange dotsTellsSpec)

/-- ITS FALSE NEIGHBOUR: 'it returns false'. Refute it at one input. -/
def dotsTellsWrong : ChangeSpec := { name := "dotsTells", fn := fun _ => fun
  | [d1, d2, d3] => { results := [.lit (.bool false)], args := [d1, d2, d3] }
  | _ => none }
def DotsTellsWrongFalsely : Prop := dotsTellsRow.holds Try.pinned (OpenSpec.ofChange dotsTellsWrong)

/-- 'gossamerlaw11.DotsMakes': WHATEVER THE INPUT: true; the input reads as it did. -/
def dotsMakesSpec : ChangeSpec := { name := "dotsMakes", fn := fun _ => fun
  | [d1, d2, d3, d4] => { results := [.lit (.bool true)], args := [d1, d2, d3, d4] }
  | _ => none }
def dotsMakesRow : OpenClaim := { program := "ytafelgmppmfcaaa", sum := "3b3ac151372c44bceaab768c5a6f60d467872f0da1c374eaef49c2ac3b1c5b53", func := "gossamer/gossamerlaw11.DotsMakes", spec := "dotsMakes", inPlace := ["internal/bytealg.abigen_runtime_cmpstring"], unfollowed := true, recurses := true, apart := false }
def DotsMakesSaid : Prop := dotsMakesRow.holds Try.pinned (OpenSpec.ofChange dotsMakesSpec)

/-- ITS FALSE NEIGHBOUR: 'it returns false'. Refute it at one input. -/
def dotsMakesWrong : ChangeSpec := { name := "dotsMakes", fn := fun _ => fun
  | [d1, d2, d3, d4] => { results := [.lit (.bool false)], args := [d1, d2, d3, d4] }
  | _ => none }
def DotsMakesWrongFalsely : Prop := dotsMakesRow.holds Try.pinned (OpenSpec.ofChange dotsMakesWrong)

/-- 'gossamerlaw11.DotsJoin': WHATEVER THE INPUT: true; the input reads as it did. -/
def dotsJoinSpec : ChangeSpec := { name := "dotsJoin", fn := fun _ => fun
  | [d1, d2, d3, d4] => { results := [.lit (.bool true)], args := [d1, d2, d3, d4] }
  | _ => none }
def dotsJoinRow : OpenClaim := { program := "ytafelgmppmfcaaa", sum := "3b3ac151372c44bceaab768c5a6f60d467872f0da1c374eaef49c2ac3b1c5b53", func := "gossamer/gossamerlaw11.DotsJoin", spec := "dotsJoin", inPlace := ["internal/bytealg.abigen_runtime_cmpstring"], unfollowed := true, recurses := true, apart := false }
def DotsJoinSaid : Prop := dotsJoinRow.holds Try.pinned (OpenSpec.ofChange dotsJoinSpec)

/-- ITS FALSE NEIGHBOUR: 'it returns false'. Refute it at one input. -/
def dotsJoinWrong : ChangeSpec := { name := "dotsJoin", fn := fun _ => fun
  | [d1, d2, d3, d4] => { results := [.lit (.bool false)], args := [d1, d2, d3, d4] }
  | _ => none }
def DotsJoinWrongFalsely : Prop := dotsJoinRow.holds Try.pinned (OpenSpec.ofChange dotsJoinWrong)

/-- 'gossamerlaw11.DotsSet': WHATEVER THE INPUT: true; the input reads as it did. -/
def dotsSetSpec : ChangeSpec := { name := "dotsSet", fn := fun _ => fun
  | [d1, d2, d3, d4, d5] => { results := [.lit (.bool true)], args := [d1, d2, d3, d4, d5] }
  | _ => none }
def dotsSetRow : OpenClaim := { program := "ytafelgmppmfcaaa", sum := "3b3ac151372c44bceaab768c5a6f60d467872f0da1c374eaef49c2ac3b1c5b53", func := "gossamer/gossamerlaw11.DotsSet", spec := "dotsSet", inPlace := ["internal/bytealg.abigen_runtime_cmpstring"], unfollowed := true, recurses := true, apart := false }
def DotsSetSaid : Prop := dotsSetRow.holds Try.pinned (OpenSpec.ofChange dotsSetSpec)

/-- ITS FALSE NEIGHBOUR: 'it returns false'. Refute it at one input. -/
def dotsSetWrong : ChangeSpec := { name := "dotsSet", fn := fun _ => fun
  | [d1, d2, d3, d4, d5] => { results := [.lit (.bool false)], args := [d1, d2, d3, d4, d5] }
  | _ => none }
def DotsSetWrongFalsely : Prop := dotsSetRow.holds Try.pinned (OpenSpec.ofChange dotsSetWrong)

/-- 'gossamerlaw11.DotsOrder': WHATEVER THE INPUT: true; the input reads as it did. -/
def dotsOrderSpec : ChangeSpec := { name := "dotsOrder", fn := fun _ => fun
  | [d1, d2, d3, d4, d5, d6] => { results := [.lit (.bool true)], args := [d1, d2, d3, d4, d5, d6] }
  | _ => none }
def dotsOrderRow : OpenClaim := { program := "ytafelgmppmfcaaa", sum := "3b3ac151372c44bceaab768c5a6f60d467872f0da1c374eaef49c2ac3b1c5b53", func := "gossamer/gossamerlaw11.DotsOrder", spec := "dotsOrder", inPlace := ["internal/bytealg.abigen_runtime_cmpstring"], unfollowed := true, recurses := true, apart := false }
def DotsOrderSaid : Prop := dotsOrderRow.holds Try.pinned (OpenSpec.ofChange dotsOrderSpec)

/-- ITS FALSE NEIGHBOUR: 'it returns false'. Refute it at one input. -/
def dotsOrderWrong : ChangeSpec := { name := "dotsOrder", fn := fun _ => fun
  | [d1, d2, d3, d4, d5, d6] => { results := [.lit (.bool false)], args := [d1, d2, d3, d4, d5, d6] }
  | _ => none }
def DotsOrderWrongFalsely : Prop := dotsOrderRow.holds Try.pinned (OpenSpec.ofChange dotsOrderWrong)

/- THE SECOND FORM. 'bulk': how many values and letters a reading holds, each counted each time it is reached (what is shared counts as often as it is met; a slice's spare places count too). A statement '..UptoSaid' is the law's where the arguments, and the package variables that the reading takes, are together of bulk at most 1048576: NARROWER than '..Said'. Prove '..Said' where nothing that the law and all that it calls make is longer than what came in: it says more and counts as full. Else prove '..UptoSaid'. A law counts once. -/
mutual
def uptoBulk {H : Type} : DataW H → Nat
  | .lit (.string bytes) => bytes.length + 1
  | .lit _ => 1
  | .nil => 1
  | .ptr d => uptoBulk d + 1
  | .slice elems spare => uptoBulkAll elems + uptoBulkAll spare + 1
  | .agg parts => uptoBulkAll parts + 1
  | .iface _ d => uptoBulk d + 1
  | .map entries => uptoBulkEntries entries + 1
  | .held _ => 1
def uptoBulkAll {H : Type} : List (DataW H) → Nat
  | [] => 0
  | d :: r => uptoBulk d + uptoBulkAll r
def uptoBulkEntries {H : Type} : List (Lit × DataW H) → Nat
  | [] => 0
  | x :: r => uptoBulkEntry x + uptoBulkEntries r
def uptoBulkEntry {H : Type} : Lit × DataW H → Nat
  | (.string bytes, d) => bytes.length + uptoBulk d + 1
  | (_, d) => uptoBulk d + 1
 end
def uptoSmall : (H : Type) → List (DataW H) → Bool := fun _ ds => decide (uptoBulkAll ds ≤ 1048576)
def OpenSpec.upto (s : _root_.Go.ChangeSpec) : _root_.Go.OpenSpec := { _root_.Go.OpenSpec.ofChange s with cond := some uptoSmall }

/-- 'gossamerlaw11.DotsTells', WHERE WHAT IT READS IS OF BULK AT MOST 1048576: true; the input reads as it did. -/
def dotsTellsUptoRow : OpenClaim := { program := "ytafelgmppmfcaaa", sum := "3b3ac151372c44bceaab768c5a6f60d467872f0da1c374eaef49c2ac3b1c5b53", func := "gossamer/gossamerlaw11.DotsTells", spec := "dotsTells", inPlace := ["internal/bytealg.abigen_runtime_cmpstring"], unfollowed := true, recurses := true, apart := false, narrowed := true }
def DotsTellsUptoSaid : Prop := dotsTellsUptoRow.holds Try.pinned (OpenSpec.upto dotsTellsSpec)

/-- 'gossamerlaw11.DotsMakes', WHERE WHAT IT READS IS OF BULK AT MOST 1048576: true; the input reads as it did. -/
def dotsMakesUptoRow : OpenClaim := { program := "ytafelgmppmfcaaa", sum := "3b3ac151372c44bceaab768c5a6f60d467872f0da1c374eaef49c2ac3b1c5b53", func := "gossamer/gossamerlaw11.DotsMakes", spec := "dotsMakes", inPlace := ["internal/bytealg.abigen_runtime_cmpstring"], unfollowed := true, recurses := true, apart := false, narrowed := true }
def DotsMakesUptoSaid : Prop := dotsMakesUptoRow.holds Try.pinned (OpenSpec.upto dotsMakesSpec)

/-- 'gossamerlaw11.DotsJoin', WHERE WHAT IT READS IS OF BULK AT MOST 1048576: true; the input reads as it did. -/
def dotsJoinUptoRow : OpenClaim := { program := "ytafelgmppmfcaaa", sum := "3b3ac151372c44bceaab768c5a6f60d467872f0da1c374eaef49c2ac3b1c5b53", func := "gossamer/gossamerlaw11.DotsJoin", spec := "dotsJoin", inPlace := ["internal/bytealg.abigen_runtime_cmpstring"], unfollowed := true, recurses := true, apart := false, narrowed := true }
def DotsJoinUptoSaid : Prop := dotsJoinUptoRow.holds Try.pinned (OpenSpec.upto dotsJoinSpec)

/-- 'gossamerlaw11.DotsSet', WHERE WHAT IT READS IS OF BULK AT MOST 1048576: true; the input reads as it did. -/
def dotsSetUptoRow : OpenClaim := { program := "ytafelgmppmfcaaa", sum := "3b3ac151372c44bceaab768c5a6f60d467872f0da1c374eaef49c2ac3b1c5b53", func := "gossamer/gossamerlaw11.DotsSet", spec := "dotsSet", inPlace := ["internal/bytealg.abigen_runtime_cmpstring"], unfollowed := true, recurses := true, apart := false, narrowed := true }
def DotsSetUptoSaid : Prop := dotsSetUptoRow.holds Try.pinned (OpenSpec.upto dotsSetSpec)

/-- 'gossamerlaw11.DotsOrder', WHERE WHAT IT READS IS OF BULK AT MOST 1048576: true; the input reads as it did. -/
def dotsOrderUptoRow : OpenClaim := { program := "ytafelgmppmfcaaa", sum := "3b3ac151372c44bceaab768c5a6f60d467872f0da1c374eaef49c2ac3b1c5b53", func := "gossamer/gossamerlaw11.DotsOrder", spec := "dotsOrder", inPlace := ["internal/bytealg.abigen_runtime_cmpstring"], unfollowed := true, recurses := true, apart := false, narrowed := true }
def DotsOrderUptoSaid : Prop := dotsOrderUptoRow.holds Try.pinned (OpenSpec.upto dotsOrderSpec)

end Rows
end Go.Proofs.Ytafelgmppmfcaaa
