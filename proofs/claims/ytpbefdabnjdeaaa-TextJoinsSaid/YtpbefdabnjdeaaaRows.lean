/-
  No cell of these rows narrows 'for every input' (looked for: loops, veiled, ifaces, maps, wideKeys, modest, calm, conditions, laid).
  DERIVED. THE GIVEN ROWS OF THIS SEAT. 7 by the template 'for every input the law returns true; each argument reads behind the call as it read before'; 0 by the template 'total and deterministic' (their statements: YtpbefdabnjdeaaaTotals.lean).
  GIVEN WITH THE SEED: the statements are not yours to turn. If you find one false, say at which input.
  Laid BY PROGRAM, IN A SANDBOX (cutbox-rows.mjs): the forced cells as the released guide's own fill.sh prints them over the translation c1b80eee503f6ce4… (all of the seat's roots in one cut). By AI agents, Wed Nov 11 2026. No macro, syntax, notation, axiom, sorry.
-/
import Derived.Test.YtpbefdabnjdeaaaChecked
import GoSem.Claim
import GoSem.ClaimJoined
import GoSem.ClaimMapViews
import Derived.JoinedTies
import Derived.KernelRfl
namespace Go.Proofs.Ytpbefdabnjdeaaa
/- THE CELL 'sum', in the pinned program and in every row, IS THE sha256 OF THE DUMP (.gsa) THAT YtpbefdabnjdeaaaProg.lean LOADS. Nothing in Lean hashes anything: it is a label: what it is worth is what the hold of that sum in a sandbox is worth. -/
noncomputable def Try.pinned : Pinned := { name := "ytpbefdabnjdeaaa", sum := "c1b80eee503f6ce4fdd7b975cccd74bfba3528debb146ed55b7f9f45cf97b523", checked := Try.checked }
namespace Rows
def none {H : Type} : Left H := { results := [], args := [] }

/-- 'gossamerlaw01.TextTells': WHATEVER THE INPUT: true; the input reads as it did. -/
def textTellsSpec : ChangeSpec := { name := "textTells", fn := fun _ => fun
  | [d] => { results := [.lit (.bool true)], args := [d] }
  | _ => none }
def textTellsRow : OpenClaim := { program := "ytpbefdabnjdeaaa", sum := "c1b80eee503f6ce4fdd7b975cccd74bfba3528debb146ed55b7f9f45cf97b523", func := "gossamer/gossamerlaw01.TextTells", spec := "textTells", inPlace := ["internal/bytealg.abigen_runtime_cmpstring"], apart := false }
def TextTellsSaid : Prop := textTellsRow.holds Try.pinned (OpenSpec.ofChange textTellsSpec)

/-- ITS FALSE NEIGHBOUR: 'it returns false'. Refute it at one input. -/
def textTellsWrong : ChangeSpec := { name := "textTells", fn := fun _ => fun
  | [d] => { results := [.lit (.bool false)], args := [d] }
  | _ => none }
def TextTellsWrongFalsely : Prop := textTellsRow.holds Try.pinned (OpenSpec.ofChange textTellsWrong)

/-- 'gossamerlaw01.TextOrder': WHATEVER THE INPUT: true; the input reads as it did. -/
def textOrderSpec : ChangeSpec := { name := "textOrder", fn := fun _ => fun
  | [d1, d2, d3] => { results := [.lit (.bool true)], args := [d1, d2, d3] }
  | _ => none }
def textOrderRow : OpenClaim := { program := "ytpbefdabnjdeaaa", sum := "c1b80eee503f6ce4fdd7b975cccd74bfba3528debb146ed55b7f9f45cf97b523", func := "gossamer/gossamerlaw01.TextOrder", spec := "textOrder", inPlace := ["internal/bytealg.abigen_runtime_cmpstring"], apart := false }
def TextOrderSaid : Prop := textOrderRow.holds Try.pinned (OpenSpec.ofChange textOrderSpec)

/-- ITS FALSE NEIGHBOUR: 'it returns false'. Refute it at one input. -/
def textOrderWrong : ChangeSpec := { name := "textOrder", fn := fun _ => fun
  | [d1, d2, d3] => { results := [.lit (.bool false)], args := [d1, d2, d3] }
  | _ => none }
def TextOrderWrongFalsely : Prop := textOrderRow.holds Try.pinned (OpenSpec.ofChange textOrderWrong)

/-- 'gossamerlaw01.TextJoins': WHATEVER THE INPUT: true; the input reads as it did. -/
def textJoinsSpec : ChangeSpec := { name := "textJoins", fn := fun _ => fun
  | [d1, d2, d3] => { results := [.lit (.bool true)], args := [d1, d2, d3] }
  | _ => none }
def textJoinsRow : OpenClaim := { program := "ytpbefdabnjdeaaa", sum := "c1b80eee503f6ce4fdd7b975cccd74bfba3528debb146ed55b7f9f45cf97b523", func := "gossamer/gossamerlaw01.TextJoins", spec := "textJoins", inPlace := ["internal/bytealg.abigen_runtime_cmpstring"], apart := false }
def TextJoinsSaid : Prop := textJoinsRow.holds Try.pinned (OpenSpec.ofChange textJoinsSpec)

/-- ITS FALSE NEIGHBOUR: 'it returns false'. Refute it at one input. -/
def textJoinsWrong : ChangeSpec := { name := "textJoins", fn := fun _ => fun
  | [d1, d2, d3] => { results := [.lit (.bool false)], args := [d1, d2, d3] }
  | _ => none }
def TextJoinsWrongFalsely : Prop := textJoinsRow.holds Try.pinned (OpenSpec.ofChange textJoinsWrong)

/-- 'gossamerlaw01.TextBytes': WHATEVER THE INPUT: true; the input reads as it did. -/
def textBytesSpec : ChangeSpec := { name := "textBytes", fn := fun _ => fun
  | [d] => { results := [.lit (.bool true)], args := [d] }
  | _ => none }
def textBytesRow : OpenClaim := { program := "ytpbefdabnjdeaaa", sum := "c1b80eee503f6ce4fdd7b975cccd74bfba3528debb146ed55b7f9f45cf97b523", func := "gossamer/gossamerlaw01.TextBytes", spec := "textBytes", inPlace := ["internal/bytealg.abigen_runtime_cmpstring"], apart := false }
def TextBytesSaid : Prop := textBytesRow.holds Try.pinned (OpenSpec.ofChange textBytesSpec)

/-- ITS FALSE NEIGHBOUR: 'it returns false'. Refute it at one input. -/
def textBytesWrong : ChangeSpec := { name := "textBytes", fn := fun _ => fun
  | [d] => { results := [.lit (.bool false)], args := [d] }
  | _ => none }
def TextBytesWrongFalsely : Prop := textBytesRow.holds Try.pinned (OpenSpec.ofChange textBytesWrong)

/-- 'gossamerlaw01.TextKeys': WHATEVER THE INPUT: true; the input reads as it did. -/
def textKeysSpec : ChangeSpec := { name := "textKeys", fn := fun _ => fun
  | [d1, d2, d3] => { results := [.lit (.bool true)], args := [d1, d2, d3] }
  | _ => none }
def textKeysRow : OpenClaim := { program := "ytpbefdabnjdeaaa", sum := "c1b80eee503f6ce4fdd7b975cccd74bfba3528debb146ed55b7f9f45cf97b523", func := "gossamer/gossamerlaw01.TextKeys", spec := "textKeys", inPlace := ["internal/bytealg.abigen_runtime_cmpstring"], apart := false }
def TextKeysSaid : Prop := textKeysRow.holds Try.pinned (OpenSpec.ofChange textKeysSpec)

/-- ITS FALSE NEIGHBOUR: 'it returns false'. Refute it at one input. -/
def textKeysWrong : ChangeSpec := { name := "textKeys", fn := fun _ => fun
  | [d1, d2, d3] => { results := [.lit (.bool false)], args := [d1, d2, d3] }
  | _ => none }
def TextKeysWrongFalsely : Prop := textKeysRow.holds Try.pinned (OpenSpec.ofChange textKeysWrong)

/-- 'gossamerlaw01.TextCuts': WHATEVER THE INPUT: true; the input reads as it did. -/
def textCutsSpec : ChangeSpec := { name := "textCuts", fn := fun _ => fun
  | [d1, d2, d3] => { results := [.lit (.bool true)], args := [d1, d2, d3] }
  | _ => none }
def textCutsRow : OpenClaim := { program := "ytpbefdabnjdeaaa", sum := "c1b80eee503f6ce4fdd7b975cccd74bfba3528debb146ed55b7f9f45cf97b523", func := "gossamer/gossamerlaw01.TextCuts", spec := "textCuts", inPlace := ["internal/bytealg.abigen_runtime_cmpstring"], apart := false }
def TextCutsSaid : Prop := textCutsRow.holds Try.pinned (OpenSpec.ofChange textCutsSpec)

/-- ITS FALSE NEIGHBOUR: 'it returns false'. Refute it at one input. -/
def textCutsWrong : ChangeSpec := { name := "textCuts", fn := fun _ => fun
  | [d1, d2, d3] => { results := [.lit (.bool false)], args := [d1, d2, d3] }
  | _ => none }
def TextCutsWrongFalsely : Prop := textCutsRow.holds Try.pinned (OpenSpec.ofChange textCutsWrong)

/-- 'gossamerlaw01.TextSpoilt': WHATEVER THE INPUT: true; the input reads as it did. -/
def textSpoiltSpec : ChangeSpec := { name := "textSpoilt", fn := fun _ => fun
  | [d1, d2, d3] => { results := [.lit (.bool true)], args := [d1, d2, d3] }
  | _ => none }
def textSpoiltRow : OpenClaim := { program := "ytpbefdabnjdeaaa", sum := "c1b80eee503f6ce4fdd7b975cccd74bfba3528debb146ed55b7f9f45cf97b523", func := "gossamer/gossamerlaw01.TextSpoilt", spec := "textSpoilt", inPlace := ["internal/bytealg.abigen_runtime_cmpstring"], apart := false }
def TextSpoiltSaid : Prop := textSpoiltRow.holds Try.pinned (OpenSpec.ofChange textSpoiltSpec)

/-- ITS FALSE NEIGHBOUR: 'it returns false'. Refute it at one input. -/
def textSpoiltWrong : ChangeSpec := { name := "textSpoilt", fn := fun _ => fun
  | [d1, d2, d3] => { results := [.lit (.bool false)], args := [d1, d2, d3] }
  | _ => none }
def TextSpoiltWrongFalsely : Prop := textSpoiltRow.holds Try.pinned (OpenSpec.ofChange textSpoiltWrong)

/- THE SECOND FORM. 'bulk': how many values and letters a reading holds, each counted each time it is reached (what is shared counts as often as it is met; a slice's spare places count too). A statement '..UptoSaid' is the law's where the arguments, and the package variables that the reading takes, are together of bulk at most 1048576: NARROWER than '..Said'. Prove '..Said' where nothing that the law and all that it calls make is longer than what came in: it says more and counts as full. Else prove '..UptoSaid'. A law counts once. -/
mutual
def uptoBulk {H : Type} : DataW H → Nat
  | .lit (.string bytes) => bytes.length + 1
  | .lit _ => 1
  | .nil => 1
  | .ptr d => uptoBulk d + 1
  | .slice elems spare => uptoBulkAll elems + uptoBulkAll spare + 1
  | .agg parts => uptoBulkAll parts + 1
  | .iface _ d => uptoBulk d + 1
  | .map entries => uptoBulkEntries entries + 1
  | .held _ => 1
def uptoBulkAll {H : Type} : List (DataW H) → Nat
  | [] => 0
  | d :: r => uptoBulk d + uptoBulkAll r
def uptoBulkEntries {H : Type} : List (Lit × DataW H) → Nat
  | [] => 0
  | x :: r => uptoBulkEntry x + uptoBulkEntries r
def uptoBulkEntry {H : Type} : Lit × DataW H → Nat
  | (.string bytes, d) => bytes.length + uptoBulk d + 1
  | (_, d) => uptoBulk d + 1
 end
def uptoSmall : (H : Type) → List (DataW H) → Bool := fun _ ds => decide (uptoBulkAll ds ≤ 1048576)
def OpenSpec.upto (s : _root_.Go.ChangeSpec) : _root_.Go.OpenSpec := { _root_.Go.OpenSpec.ofChange s with cond := some uptoSmall }

/-- 'gossamerlaw01.TextTells', WHERE WHAT IT READS IS OF BULK AT MOST 1048576: true; the input reads as it did. -/
def textTellsUptoRow : OpenClaim := { program := "ytpbefdabnjdeaaa", sum := "c1b80eee503f6ce4fdd7b975cccd74bfba3528debb146ed55b7f9f45cf97b523", func := "gossamer/gossamerlaw01.TextTells", spec := "textTells", inPlace := ["internal/bytealg.abigen_runtime_cmpstring"], apart := false, narrowed := true }
def TextTellsUptoSaid : Prop := textTellsUptoRow.holds Try.pinned (OpenSpec.upto textTellsSpec)

/-- 'gossamerlaw01.TextOrder', WHERE WHAT IT READS IS OF BULK AT MOST 1048576: true; the input reads as it did. -/
def textOrderUptoRow : OpenClaim := { program := "ytpbefdabnjdeaaa", sum := "c1b80eee503f6ce4fdd7b975cccd74bfba3528debb146ed55b7f9f45cf97b523", func := "gossamer/gossamerlaw01.TextOrder", spec := "textOrder", inPlace := ["internal/bytealg.abigen_runtime_cmpstring"], apart := false, narrowed := true }
def TextOrderUptoSaid : Prop := textOrderUptoRow.holds Try.pinned (OpenSpec.upto textOrderSpec)

/-- 'gossamerlaw01.TextJoins', WHERE WHAT IT READS IS OF BULK AT MOST 1048576: true; the input reads as it did. -/
def textJoinsUptoRow : OpenClaim := { program := "ytpbefdabnjdeaaa", sum := "c1b80eee503f6ce4fdd7b975cccd74bfba3528debb146ed55b7f9f45cf97b523", func := "gossamer/gossamerlaw01.TextJoins", spec := "textJoins", inPlace := ["internal/bytealg.abigen_runtime_cmpstring"], apart := false, narrowed := true }
def TextJoinsUptoSaid : Prop := textJoinsUptoRow.holds Try.pinned (OpenSpec.upto textJoinsSpec)

/-- 'gossamerlaw01.TextBytes', WHERE WHAT IT READS IS OF BULK AT MOST 1048576: true; the input reads as it did. -/
def textBytesUptoRow : OpenClaim := { program := "ytpbefdabnjdeaaa", sum := "c1b80eee503f6ce4fdd7b975cccd74bfba3528debb146ed55b7f9f45cf97b523", func := "gossamer/gossamerlaw01.TextBytes", spec := "textBytes", inPlace := ["internal/bytealg.abigen_runtime_cmpstring"], apart := false, narrowed := true }
def TextBytesUptoSaid : Prop := textBytesUptoRow.holds Try.pinned (OpenSpec.upto textBytesSpec)

/-- 'gossamerlaw01.TextKeys', WHERE WHAT IT READS IS OF BULK AT MOST 1048576: true; the input reads as it did. -/
def textKeysUptoRow : OpenClaim := { program := "ytpbefdabnjdeaaa", sum := "c1b80eee503f6ce4fdd7b975cccd74bfba3528debb146ed55b7f9f45cf97b523", func := "gossamer/gossamerlaw01.TextKeys", spec := "textKeys", inPlace := ["internal/bytealg.abigen_runtime_cmpstring"], apart := false, narrowed := true }
def TextKeysUptoSaid : Prop := textKeysUptoRow.holds Try.pinned (OpenSpec.upto textKeysSpec)

/-- 'gossamerlaw01.TextCuts', WHERE WHAT IT READS IS OF BULK AT MOST 1048576: true; the input reads as it did. -/
def textCutsUptoRow : OpenClaim := { program := "ytpbefdabnjdeaaa", sum := "c1b80eee503f6ce4fdd7b975cccd74bfba3528debb146ed55b7f9f45cf97b523", func := "gossamer/gossamerlaw01.TextCuts", spec := "textCuts", inPlace := ["internal/bytealg.abigen_runtime_cmpstring"], apart := false, narrowed := true }
def TextCutsUptoSaid : Prop := textCutsUptoRow.holds Try.pinned (OpenSpec.upto textCutsSpec)

/-- 'gossamerlaw01.TextSpoilt', WHERE WHAT IT READS IS OF BULK AT MOST 1048576: true; the input reads as it did. -/
def textSpoiltUptoRow : OpenClaim := { program := "ytpbefdabnjdeaaa", sum := "c1b80eee503f6ce4fdd7b975cccd74bfba3528debb146ed55b7f9f45cf97b523", func := "gossamer/gossamerlaw01.TextSpoilt", spec := "textSpoilt", inPlace := ["internal/bytealg.abigen_runtime_cmpstring"], apart := false, narrowed := true }
def TextSpoiltUptoSaid : Prop := textSpoiltUptoRow.holds Try.pinned (OpenSpec.upto textSpoiltSpec)

end Rows
end Go.Proofs.Ytpbefdabnjdeaaa
