/-
  No cell of these rows narrows 'for every input' (looked for: loops, veiled, ifaces, maps, wideKeys, modest, calm, conditions, laid).
  DERIVED. THE GIVEN ROWS OF THIS SEAT. 4 by the template 'for every input the law returns true; each argument reads behind the call as it read before'; 0 by the template 'total and deterministic' (their statements: YtcbnkncgacbniaaTotals.lean).
  GIVEN WITH THE SEED: the statements are not yours to turn. If you find one false, say at which input.
  Laid BY PROGRAM, IN A SANDBOX (cutbox-rows.mjs): the forced cells as the released guide's own fill.sh prints them over the translation f8411790c92c3377… (all of the seat's roots in one cut). By AI agents, Wed Nov 11 2026. No macro, syntax, notation, axiom, sorry.
-/
import Derived.Test.YtcbnkncgacbniaaChecked
import GoSem.Claim
import GoSem.ClaimJoined
import GoSem.ClaimMapViews
import Derived.JoinedTies
import Derived.KernelRfl
namespace Go.Proofs.Ytcbnkncgacbniaa
/- THE CELL 'sum', in the pinned program and in every row, IS THE sha256 OF THE DUMP (.gsa) THAT YtcbnkncgacbniaaProg.lean LOADS. Nothing in Lean hashes anything: it is a label: what it is worth is what the hold of that sum in a sandbox is worth. -/
noncomputable def Try.pinned : Pinned := { name := "ytcbnkncgacbniaa", sum := "f8411790c92c3377662c85f8865bd485e33c87c386e59c2e30e5a15dd35a28c3", checked := Try.checked }
namespace Rows
def none {H : Type} : Left H := { results := [], args := [] }

/-- 'gossamerlaw27.PeersGrow': WHATEVER THE INPUT: true; the input reads as it did. -/
def peersGrowSpec : ChangeSpec := { name := "peersGrow", fn := fun _ => fun
  | [d1, d2] => { results := [.lit (.bool true)], args := [d1, d2] }
  | _ => none }
def peersGrowRow : OpenClaim := { program := "ytcbnkncgacbniaa", sum := "f8411790c92c3377662c85f8865bd485e33c87c386e59c2e30e5a15dd35a28c3", func := "gossamer/gossamerlaw27.PeersGrow", spec := "peersGrow", inPlace := ["internal/bytealg.abigen_runtime_cmpstring"], unfollowed := true, recurses := true, apart := false }
def PeersGrowSaid : Prop := peersGrowRow.holds Try.pinned (OpenSpec.ofChange peersGrowSpec)

/-- ITS FALSE NEIGHBOUR: 'it returns false'. Refute it at one input. -/
def peersGrowWrong : ChangeSpec := { name := "peersGrow", fn := fun _ => fun
  | [d1, d2] => { results := [.lit (.bool false)], args := [d1, d2] }
  | _ => none }
def PeersGrowWrongFalsely : Prop := peersGrowRow.holds Try.pinned (OpenSpec.ofChange peersGrowWrong)

/-- 'gossamerlaw27.PeersLack': WHATEVER THE INPUT: true; the input reads as it did. -/
def peersLackSpec : ChangeSpec := { name := "peersLack", fn := fun _ => fun
  | [d1, d2, d3] => { results := [.lit (.bool true)], args := [d1, d2, d3] }
  | _ => none }
def peersLackRow : OpenClaim := { program := "ytcbnkncgacbniaa", sum := "f8411790c92c3377662c85f8865bd485e33c87c386e59c2e30e5a15dd35a28c3", func := "gossamer/gossamerlaw27.PeersLack", spec := "peersLack", inPlace := ["internal/bytealg.abigen_runtime_cmpstring"], unfollowed := true, recurses := true, apart := false }
def PeersLackSaid : Prop := peersLackRow.holds Try.pinned (OpenSpec.ofChange peersLackSpec)

/-- ITS FALSE NEIGHBOUR: 'it returns false'. Refute it at one input. -/
def peersLackWrong : ChangeSpec := { name := "peersLack", fn := fun _ => fun
  | [d1, d2, d3] => { results := [.lit (.bool false)], args := [d1, d2, d3] }
  | _ => none }
def PeersLackWrongFalsely : Prop := peersLackRow.holds Try.pinned (OpenSpec.ofChange peersLackWrong)

/-- 'gossamerlaw27.PeersTurn': WHATEVER THE INPUT: true; the input reads as it did. -/
def peersTurnSpec : ChangeSpec := { name := "peersTurn", fn := fun _ => fun
  | [d1, d2, d3] => { results := [.lit (.bool true)], args := [d1, d2, d3] }
  | _ => none }
def peersTurnRow : OpenClaim := { program := "ytcbnkncgacbniaa", sum := "f8411790c92c3377662c85f8865bd485e33c87c386e59c2e30e5a15dd35a28c3", func := "gossamer/gossamerlaw27.PeersTurn", spec := "peersTurn", inPlace := ["internal/bytealg.abigen_runtime_cmpstring", "internal/bytealg.IndexByteString", "internal/bytealg.IndexString"], unfollowed := true, recurses := true, named := ["internal/bytealg.MaxLen"], apart := false }
def PeersTurnSaid : Prop := peersTurnRow.holds Try.pinned (OpenSpec.ofChange peersTurnSpec)

/-- ITS FALSE NEIGHBOUR: 'it returns false'. Refute it at one input. -/
def peersTurnWrong : ChangeSpec := { name := "peersTurn", fn := fun _ => fun
  | [d1, d2, d3] => { results := [.lit (.bool false)], args := [d1, d2, d3] }
  | _ => none }
def PeersTurnWrongFalsely : Prop := peersTurnRow.holds Try.pinned (OpenSpec.ofChange peersTurnWrong)

/-- 'gossamerlaw27.PeersNone': WHATEVER THE INPUT: true; the input reads as it did. -/
def peersNoneSpec : ChangeSpec := { name := "peersNone", fn := fun _ => fun
  | [d1, d2] => { results := [.lit (.bool true)], args := [d1, d2] }
  | _ => none }
def peersNoneRow : OpenClaim := { program := "ytcbnkncgacbniaa", sum := "f8411790c92c3377662c85f8865bd485e33c87c386e59c2e30e5a15dd35a28c3", func := "gossamer/gossamerlaw27.PeersNone", spec := "peersNone", inPlace := ["internal/bytealg.abigen_runtime_cmpstring", "internal/bytealg.IndexByteString", "internal/bytealg.IndexString"], unfollowed := true, recurses := true, named := ["internal/bytealg.MaxLen"], apart := false }
def PeersNoneSaid : Prop := peersNoneRow.holds Try.pinned (OpenSpec.ofChange peersNoneSpec)

/-- ITS FALSE NEIGHBOUR: 'it returns false'. Refute it at one input. -/
def peersNoneWrong : ChangeSpec := { name := "peersNone", fn := fun _ => fun
  | [d1, d2] => { results := [.lit (.bool false)], args := [d1, d2] }
  | _ => none }
def PeersNoneWrongFalsely : Prop := peersNoneRow.holds Try.pinned (OpenSpec.ofChange peersNoneWrong)

/- THE SECOND FORM. 'bulk': how many values and letters a reading holds, each counted each time it is reached (what is shared counts as often as it is met; a slice's spare places count too). A statement '..UptoSaid' is the law's where the arguments, and the package variables that the reading takes, are together of bulk at most 1048576: NARROWER than '..Said'. Prove '..Said' where nothing that the law and all that it calls make is longer than what came in: it says more and counts as full. Else prove '..UptoSaid'. A law counts once. -/
mutual
def uptoBulk {H : Type} : DataW H → Nat
  | .lit (.string bytes) => bytes.length + 1
  | .lit _ => 1
  | .nil => 1
  | .ptr d => uptoBulk d + 1
  | .slice elems spare => uptoBulkAll elems + uptoBulkAll spare + 1
  | .agg parts => uptoBulkAll parts + 1
  | .iface _ d => uptoBulk d + 1
  | .map entries => uptoBulkEntries entries + 1
  | .held _ => 1
def uptoBulkAll {H : Type} : List (DataW H) → Nat
  | [] => 0
  | d :: r => uptoBulk d + uptoBulkAll r
def uptoBulkEntries {H : Type} : List (Lit × DataW H) → Nat
  | [] => 0
  | x :: r => uptoBulkEntry x + uptoBulkEntries r
def uptoBulkEntry {H : Type} : Lit × DataW H → Nat
  | (.string bytes, d) => bytes.length + uptoBulk d + 1
  | (_, d) => uptoBulk d + 1
 end
def uptoSmall : (H : Type) → List (DataW H) → Bool := fun _ ds => decide (uptoBulkAll ds ≤ 1048576)
def OpenSpec.upto (s : _root_.Go.ChangeSpec) : _root_.Go.OpenSpec := { _root_.Go.OpenSpec.ofChange s with cond := some uptoSmall }

/-- 'gossamerlaw27.PeersGrow', WHERE WHAT IT READS IS OF BULK AT MOST 1048576: true; the input reads as it did. -/
def peersGrowUptoRow : OpenClaim := { program := "ytcbnkncgacbniaa", sum := "f8411790c92c3377662c85f8865bd485e33c87c386e59c2e30e5a15dd35a28c3", func := "gossamer/gossamerlaw27.PeersGrow", spec := "peersGrow", inPlace := ["internal/bytealg.abigen_runtime_cmpstring"], unfollowed := true, recurses := true, apart := false, narrowed := true }
def PeersGrowUptoSaid : Prop := peersGrowUptoRow.holds Try.pinned (OpenSpec.upto peersGrowSpec)

/-- 'gossamerlaw27.PeersLack', WHERE WHAT IT READS IS OF BULK AT MOST 1048576: true; the input reads as it did. -/
def peersLackUptoRow : OpenClaim := { program := "ytcbnkncgacbniaa", sum := "f8411790c92c3377662c85f8865bd485e33c87c386e59c2e30e5a15dd35a28c3", func := "gossamer/gossamerlaw27.PeersLack", spec := "peersLack", inPlace := ["internal/bytealg.abigen_runtime_cmpstring"], unfollowed := true, recurses := true, apart := false, narrowed := true }
def PeersLackUptoSaid : Prop := peersLackUptoRow.holds Try.pinned (OpenSpec.upto peersLackSpec)

/-- 'gossamerlaw27.PeersTurn', WHERE WHAT IT READS IS OF BULK AT MOST 1048576: true; the input reads as it did. -/
def peersTurnUptoRow : OpenClaim := { program := "ytcbnkncgacbniaa", sum := "f8411790c92c3377662c85f8865bd485e33c87c386e59c2e30e5a15dd35a28c3", func := "gossamer/gossamerlaw27.PeersTurn", spec := "peersTurn", inPlace := ["internal/bytealg.abigen_runtime_cmpstring", "internal/bytealg.IndexByteString", "internal/bytealg.IndexString"], unfollowed := true, recurses := true, named := ["internal/bytealg.MaxLen"], apart := false, narrowed := true }
def PeersTurnUptoSaid : Prop := peersTurnUptoRow.holds Try.pinned (OpenSpec.upto peersTurnSpec)

/-- 'gossamerlaw27.PeersNone', WHERE WHAT IT READS IS OF BULK AT MOST 1048576: true; the input reads as it did. -/
def peersNoneUptoRow : OpenClaim := { program := "ytcbnkncgacbniaa", sum := "f8411790c92c3377662c85f8865bd485e33c87c386e59c2e30e5a15dd35a28c3", func := "gossamer/gossamerlaw27.PeersNone", spec := "peersNone", inPlace := ["internal/bytealg.abigen_runtime_cmpstring", "internal/bytealg.IndexByteString", "internal/bytealg.IndexString"], unfollowed := true, recurses := true, named := ["internal/bytealg.MaxLen"], apart := false, narrowed := true }
def PeersNoneUptoSaid : Prop := peersNoneUptoRow.holds Try.pinned (OpenSpec.upto peersNoneSpec)

end Rows
end Go.Proofs.Ytcbnkncgacbniaa
