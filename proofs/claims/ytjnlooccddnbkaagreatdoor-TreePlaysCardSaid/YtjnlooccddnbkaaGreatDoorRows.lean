/-
  NARROWER THAN 'FOR EVERY INPUT', by the rows' own cells (each row's printed sentence says how): TreeLacks: laid · TreeTouch: laid · TreeOrder: laid · TreeNodes: laid · TreePlays: laid · TreeNone: laid.
  DERIVED. THE GIVEN ROWS OF THIS SEAT. 6 by the template 'for every input the law returns true; each argument reads behind the call as it read before'; 0 by the template 'total and deterministic' (their statements: YtjnlooccddnbkaaGreatDoorTotals.lean).
  GIVEN WITH THE SEED: the statements are not yours to turn. If you find one false, say at which input.
  Laid BY PROGRAM, IN A SANDBOX (cutbox-rows.mjs): the forced cells as the released guide's own fill.sh prints them over the translation 7884d04a5e340be7… (all of the seat's roots in one cut). By AI agents, Wed Nov 11 2026. No macro, syntax, notation, axiom, sorry.
-/
import Derived.Test.YtjnlooccddnbkaaGreatDoorChecked
import GoSem.Claim
import GoSem.ClaimJoined
import GoSem.ClaimMapViews
import Derived.JoinedTies
import Derived.KernelRfl
namespace Go.Proofs.YtjnlooccddnbkaaGreatDoor
/- THE CELL 'sum', in the pinned program and in every row, IS THE sha256 OF THE DUMP (.gsa) THAT YtjnlooccddnbkaaGreatDoorProg.lean LOADS. Nothing in Lean hashes anything: it is a label: what it is worth is what the hold of that sum in a sandbox is worth. -/
noncomputable def Tryz.pinned : Pinned := { name := "ytjnlooccddnbkaagreatdoor", sum := "7884d04a5e340be7efdc65e835caeb05b087978373e9557143900856b0041874", checked := Tryz.checked }
namespace Rows
def none {H : Type} : Left H := { results := [], args := [] }

/- WHAT THE LISTED PACKAGE-LEVEL VARIABLES READ AS WHEN THE CALL BEGINS. Each datum BY PROGRAM (the guide's laid-datum.mjs) off the statement by which the dump's own 'gosem.cut.vars' lays the variable. In a bare row this is a premise. The card (YtjnlooccddnbkaaGreatDoorCards.lean) ties it to the program's text. -/
def laid_gossamer_sha_start {H : Type} : DataW H := .agg [.lit (.int .u32 1779033703), .lit (.int .u32 3144134277), .lit (.int .u32 1013904242), .lit (.int .u32 2773480762), .lit (.int .u32 1359893119), .lit (.int .u32 2600822924), .lit (.int .u32 528734635), .lit (.int .u32 1541459225)]
def laid_gossamer_sha_consts {H : Type} : DataW H := .agg [.lit (.int .u32 1116352408), .lit (.int .u32 1899447441), .lit (.int .u32 3049323471), .lit (.int .u32 3921009573), .lit (.int .u32 961987163), .lit (.int .u32 1508970993), .lit (.int .u32 2453635748), .lit (.int .u32 2870763221), .lit (.int .u32 3624381080), .lit (.int .u32 310598401), .lit (.int .u32 607225278), .lit (.int .u32 1426881987), .lit (.int .u32 1925078388), .lit (.int .u32 2162078206), .lit (.int .u32 2614888103), .lit (.int .u32 3248222580), .lit (.int .u32 3835390401), .lit (.int .u32 4022224774), .lit (.int .u32 264347078), .lit (.int .u32 604807628), .lit (.int .u32 770255983), .lit (.int .u32 1249150122), .lit (.int .u32 1555081692), .lit (.int .u32 1996064986), .lit (.int .u32 2554220882), .lit (.int .u32 2821834349), .lit (.int .u32 2952996808), .lit (.int .u32 3210313671), .lit (.int .u32 3336571891), .lit (.int .u32 3584528711), .lit (.int .u32 113926993), .lit (.int .u32 338241895), .lit (.int .u32 666307205), .lit (.int .u32 773529912), .lit (.int .u32 1294757372), .lit (.int .u32 1396182291), .lit (.int .u32 1695183700), .lit (.int .u32 1986661051), .lit (.int .u32 2177026350), .lit (.int .u32 2456956037), .lit (.int .u32 2730485921), .lit (.int .u32 2820302411), .lit (.int .u32 3259730800), .lit (.int .u32 3345764771), .lit (.int .u32 3516065817), .lit (.int .u32 3600352804), .lit (.int .u32 4094571909), .lit (.int .u32 275423344), .lit (.int .u32 430227734), .lit (.int .u32 506948616), .lit (.int .u32 659060556), .lit (.int .u32 883997877), .lit (.int .u32 958139571), .lit (.int .u32 1322822218), .lit (.int .u32 1537002063), .lit (.int .u32 1747873779), .lit (.int .u32 1955562222), .lit (.int .u32 2024104815), .lit (.int .u32 2227730452), .lit (.int .u32 2361852424), .lit (.int .u32 2428436474), .lit (.int .u32 2756734187), .lit (.int .u32 3204031479), .lit (.int .u32 3329325298)]

/-- 'gossamerlaw19.TreeLacks': WHATEVER THE INPUT: true; the input reads as it did. -/
def treeLacksSpec : ChangeSpec := { name := "treeLacks", fn := fun _ => fun
  | [d1, d2] => { results := [.lit (.bool true)], args := [d1, d2] }
  | _ => none }
def treeLacksRow : OpenClaim := { program := "ytjnlooccddnbkaagreatdoor", sum := "7884d04a5e340be7efdc65e835caeb05b087978373e9557143900856b0041874", func := "gossamer/gossamerlaw19.TreeLacks", spec := "treeLacks", inPlace := ["internal/abi.NoEscape", "internal/bytealg.MakeNoZero", "internal/bytealg.abigen_runtime_cmpstring"], unfollowed := true, recurses := true, named := ["gossamer/sha.start", "gossamer/sha.consts"], apart := false, laid := [("gossamer/sha.start", laid_gossamer_sha_start), ("gossamer/sha.consts", laid_gossamer_sha_consts)] }
def TreeLacksSaid : Prop := treeLacksRow.holds Tryz.pinned (OpenSpec.ofChange treeLacksSpec)

/-- ITS FALSE NEIGHBOUR: 'it returns false'. Refute it at one input. -/
def treeLacksWrong : ChangeSpec := { name := "treeLacks", fn := fun _ => fun
  | [d1, d2] => { results := [.lit (.bool false)], args := [d1, d2] }
  | _ => none }
def TreeLacksWrongFalsely : Prop := treeLacksRow.holds Tryz.pinned (OpenSpec.ofChange treeLacksWrong)

/-- 'gossamerlaw19.TreeTouch': WHATEVER THE INPUT: true; the input reads as it did. -/
def treeTouchSpec : ChangeSpec := { name := "treeTouch", fn := fun _ => fun
  | [d1, d2, d3, d4] => { results := [.lit (.bool true)], args := [d1, d2, d3, d4] }
  | _ => none }
def treeTouchRow : OpenClaim := { program := "ytjnlooccddnbkaagreatdoor", sum := "7884d04a5e340be7efdc65e835caeb05b087978373e9557143900856b0041874", func := "gossamer/gossamerlaw19.TreeTouch", spec := "treeTouch", inPlace := ["internal/abi.NoEscape", "internal/bytealg.MakeNoZero", "internal/bytealg.abigen_runtime_cmpstring"], unfollowed := true, recurses := true, named := ["gossamer/sha.start", "gossamer/sha.consts"], apart := false, laid := [("gossamer/sha.start", laid_gossamer_sha_start), ("gossamer/sha.consts", laid_gossamer_sha_consts)] }
def TreeTouchSaid : Prop := treeTouchRow.holds Tryz.pinned (OpenSpec.ofChange treeTouchSpec)

/-- ITS FALSE NEIGHBOUR: 'it returns false'. Refute it at one input. -/
def treeTouchWrong : ChangeSpec := { name := "treeTouch", fn := fun _ => fun
  | [d1, d2, d3, d4] => { results := [.lit (.bool false)], args := [d1, d2, d3, d4] }
  | _ => none }
def TreeTouchWrongFalsely : Prop := treeTouchRow.holds Tryz.pinned (OpenSpec.ofChange treeTouchWrong)

/-- 'gossamerlaw19.TreeOrder': WHATEVER THE INPUT: true; the input reads as it did. -/
def treeOrderSpec : ChangeSpec := { name := "treeOrder", fn := fun _ => fun
  | [d1, d2] => { results := [.lit (.bool true)], args := [d1, d2] }
  | _ => none }
def treeOrderRow : OpenClaim := { program := "ytjnlooccddnbkaagreatdoor", sum := "7884d04a5e340be7efdc65e835caeb05b087978373e9557143900856b0041874", func := "gossamer/gossamerlaw19.TreeOrder", spec := "treeOrder", inPlace := ["internal/abi.NoEscape", "internal/bytealg.MakeNoZero", "internal/bytealg.abigen_runtime_cmpstring"], unfollowed := true, recurses := true, named := ["gossamer/sha.start", "gossamer/sha.consts"], apart := false, laid := [("gossamer/sha.start", laid_gossamer_sha_start), ("gossamer/sha.consts", laid_gossamer_sha_consts)] }
def TreeOrderSaid : Prop := treeOrderRow.holds Tryz.pinned (OpenSpec.ofChange treeOrderSpec)

/-- ITS FALSE NEIGHBOUR: 'it returns false'. Refute it at one input. -/
def treeOrderWrong : ChangeSpec := { name := "treeOrder", fn := fun _ => fun
  | [d1, d2] => { results := [.lit (.bool false)], args := [d1, d2] }
  | _ => none }
def TreeOrderWrongFalsely : Prop := treeOrderRow.holds Tryz.pinned (OpenSpec.ofChange treeOrderWrong)

/-- 'gossamerlaw19.TreeNodes': WHATEVER THE INPUT: true; the input reads as it did. -/
def treeNodesSpec : ChangeSpec := { name := "treeNodes", fn := fun _ => fun
  | [d] => { results := [.lit (.bool true)], args := [d] }
  | _ => none }
def treeNodesRow : OpenClaim := { program := "ytjnlooccddnbkaagreatdoor", sum := "7884d04a5e340be7efdc65e835caeb05b087978373e9557143900856b0041874", func := "gossamer/gossamerlaw19.TreeNodes", spec := "treeNodes", inPlace := ["internal/abi.NoEscape", "internal/bytealg.MakeNoZero", "internal/bytealg.abigen_runtime_cmpstring"], unfollowed := true, recurses := true, named := ["gossamer/sha.start", "gossamer/sha.consts"], apart := false, laid := [("gossamer/sha.start", laid_gossamer_sha_start), ("gossamer/sha.consts", laid_gossamer_sha_consts)] }
def TreeNodesSaid : Prop := treeNodesRow.holds Tryz.pinned (OpenSpec.ofChange treeNodesSpec)

/-- ITS FALSE NEIGHBOUR: 'it returns false'. Refute it at one input. -/
def treeNodesWrong : ChangeSpec := { name := "treeNodes", fn := fun _ => fun
  | [d] => { results := [.lit (.bool false)], args := [d] }
  | _ => none }
def TreeNodesWrongFalsely : Prop := treeNodesRow.holds Tryz.pinned (OpenSpec.ofChange treeNodesWrong)

/-- 'gossamerlaw19.TreePlays': WHATEVER THE INPUT: true; the input reads as it did. -/
def treePlaysSpec : ChangeSpec := { name := "treePlays", fn := fun _ => fun
  | [d1, d2, d3, d4] => { results := [.lit (.bool true)], args := [d1, d2, d3, d4] }
  | _ => none }
def treePlaysRow : OpenClaim := { program := "ytjnlooccddnbkaagreatdoor", sum := "7884d04a5e340be7efdc65e835caeb05b087978373e9557143900856b0041874", func := "gossamer/gossamerlaw19.TreePlays", spec := "treePlays", inPlace := ["internal/abi.NoEscape", "internal/bytealg.MakeNoZero", "internal/bytealg.abigen_runtime_cmpstring"], unfollowed := true, recurses := true, named := ["gossamer/sha.start", "gossamer/sha.consts"], apart := false, laid := [("gossamer/sha.start", laid_gossamer_sha_start), ("gossamer/sha.consts", laid_gossamer_sha_consts)] }
def TreePlaysSaid : Prop := treePlaysRow.holds Tryz.pinned (OpenSpec.ofChange treePlaysSpec)

/-- ITS FALSE NEIGHBOUR: 'it returns false'. Refute it at one input. -/
def treePlaysWrong : ChangeSpec := { name := "treePlays", fn := fun _ => fun
  | [d1, d2, d3, d4] => { results := [.lit (.bool false)], args := [d1, d2, d3, d4] }
  | _ => none }
def TreePlaysWrongFalsely : Prop := treePlaysRow.holds Tryz.pinned (OpenSpec.ofChange treePlaysWrong)

/-- 'gossamerlaw19.TreeNone': WHATEVER THE INPUT: true; the input reads as it did. -/
def treeNoneSpec : ChangeSpec := { name := "treeNone", fn := fun _ => fun
  | [d1, d2] => { results := [.lit (.bool true)], args := [d1, d2] }
  | _ => none }
def treeNoneRow : OpenClaim := { program := "ytjnlooccddnbkaagreatdoor", sum := "7884d04a5e340be7efdc65e835caeb05b087978373e9557143900856b0041874", func := "gossamer/gossamerlaw19.TreeNone", spec := "treeNone", inPlace := ["internal/abi.NoEscape", "internal/bytealg.MakeNoZero", "internal/bytealg.abigen_runtime_cmpstring"], unfollowed := true, recurses := true, named := ["gossamer/sha.start", "gossamer/sha.consts"], apart := false, laid := [("gossamer/sha.start", laid_gossamer_sha_start), ("gossamer/sha.consts", laid_gossamer_sha_consts)] }
def TreeNoneSaid : Prop := treeNoneRow.holds Tryz.pinned (OpenSpec.ofChange treeNoneSpec)

/-- ITS FALSE NEIGHBOUR: 'it returns false'. Refute it at one input. -/
def treeNoneWrong : ChangeSpec := { name := "treeNone", fn := fun _ => fun
  | [d1, d2] => { results := [.lit (.bool false)], args := [d1, d2] }
  | _ => none }
def TreeNoneWrongFalsely : Prop := treeNoneRow.holds Tryz.pinned (OpenSpec.ofChange treeNoneWrong)

/- THE SECOND FORM. 'bulk': how many values and letters a reading holds, each counted each time it is reached (what is shared counts as often as it is met; a slice's spare places count too). A statement '..UptoSaid' is the law's where the arguments, and the package variables that the reading takes, are together of bulk at most 1048576: NARROWER than '..Said'. Prove '..Said' where nothing that the law and all that it calls make is longer than what came in: it says more and counts as full. Else prove '..UptoSaid'. A law counts once. -/
mutual
def uptoBulk {H : Type} : DataW H → Nat
  | .lit (.string bytes) => bytes.length + 1
  | .lit _ => 1
  | .nil => 1
  | .ptr d => uptoBulk d + 1
  | .slice elems spare => uptoBulkAll elems + uptoBulkAll spare + 1
  | .agg parts => uptoBulkAll parts + 1
  | .iface _ d => uptoBulk d + 1
  | .map entries => uptoBulkEntries entries + 1
  | .held _ => 1
def uptoBulkAll {H : Type} : List (DataW H) → Nat
  | [] => 0
  | d :: r => uptoBulk d + uptoBulkAll r
def uptoBulkEntries {H : Type} : List (Lit × DataW H) → Nat
  | [] => 0
  | x :: r => uptoBulkEntry x + uptoBulkEntries r
def uptoBulkEntry {H : Type} : Lit × DataW H → Nat
  | (.string bytes, d) => bytes.length + uptoBulk d + 1
  | (_, d) => uptoBulk d + 1
 end
def uptoSmall : (H : Type) → List (DataW H) → Bool := fun _ ds => decide (uptoBulkAll ds ≤ 1048576)
def OpenSpec.upto (s : _root_.Go.ChangeSpec) : _root_.Go.OpenSpec := { _root_.Go.OpenSpec.ofChange s with cond := some uptoSmall }

/-- 'gossamerlaw19.TreeLacks', WHERE WHAT IT READS IS OF BULK AT MOST 1048576: true; the input reads as it did. -/
def treeLacksUptoRow : OpenClaim := { program := "ytjnlooccddnbkaagreatdoor", sum := "7884d04a5e340be7efdc65e835caeb05b087978373e9557143900856b0041874", func := "gossamer/gossamerlaw19.TreeLacks", spec := "treeLacks", inPlace := ["internal/abi.NoEscape", "internal/bytealg.MakeNoZero", "internal/bytealg.abigen_runtime_cmpstring"], unfollowed := true, recurses := true, named := ["gossamer/sha.start", "gossamer/sha.consts"], apart := false, laid := [("gossamer/sha.start", laid_gossamer_sha_start), ("gossamer/sha.consts", laid_gossamer_sha_consts)], narrowed := true }
def TreeLacksUptoSaid : Prop := treeLacksUptoRow.holds Tryz.pinned (OpenSpec.upto treeLacksSpec)

/-- 'gossamerlaw19.TreeTouch', WHERE WHAT IT READS IS OF BULK AT MOST 1048576: true; the input reads as it did. -/
def treeTouchUptoRow : OpenClaim := { program := "ytjnlooccddnbkaagreatdoor", sum := "7884d04a5e340be7efdc65e835caeb05b087978373e9557143900856b0041874", func := "gossamer/gossamerlaw19.TreeTouch", spec := "treeTouch", inPlace := ["internal/abi.NoEscape", "internal/bytealg.MakeNoZero", "internal/bytealg.abigen_runtime_cmpstring"], unfollowed := true, recurses := true, named := ["gossamer/sha.start", "gossamer/sha.consts"], apart := false, laid := [("gossamer/sha.start", laid_gossamer_sha_start), ("gossamer/sha.consts", laid_gossamer_sha_consts)], narrowed := true }
def TreeTouchUptoSaid : Prop := treeTouchUptoRow.holds Tryz.pinned (OpenSpec.upto treeTouchSpec)

/-- 'gossamerlaw19.TreeOrder', WHERE WHAT IT READS IS OF BULK AT MOST 1048576: true; the input reads as it did. -/
def treeOrderUptoRow : OpenClaim := { program := "ytjnlooccddnbkaagreatdoor", sum := "7884d04a5e340be7efdc65e835caeb05b087978373e9557143900856b0041874", func := "gossamer/gossamerlaw19.TreeOrder", spec := "treeOrder", inPlace := ["internal/abi.NoEscape", "internal/bytealg.MakeNoZero", "internal/bytealg.abigen_runtime_cmpstring"], unfollowed := true, recurses := true, named := ["gossamer/sha.start", "gossamer/sha.consts"], apart := false, laid := [("gossamer/sha.start", laid_gossamer_sha_start), ("gossamer/sha.consts", laid_gossamer_sha_consts)], narrowed := true }
def TreeOrderUptoSaid : Prop := treeOrderUptoRow.holds Tryz.pinned (OpenSpec.upto treeOrderSpec)

/-- 'gossamerlaw19.TreeNodes', WHERE WHAT IT READS IS OF BULK AT MOST 1048576: true; the input reads as it did. -/
def treeNodesUptoRow : OpenClaim := { program := "ytjnlooccddnbkaagreatdoor", sum := "7884d04a5e340be7efdc65e835caeb05b087978373e9557143900856b0041874", func := "gossamer/gossamerlaw19.TreeNodes", spec := "treeNodes", inPlace := ["internal/abi.NoEscape", "internal/bytealg.MakeNoZero", "internal/bytealg.abigen_runtime_cmpstring"], unfollowed := true, recurses := true, named := ["gossamer/sha.start", "gossamer/sha.consts"], apart := false, laid := [("gossamer/sha.start", laid_gossamer_sha_start), ("gossamer/sha.consts", laid_gossamer_sha_consts)], narrowed := true }
def TreeNodesUptoSaid : Prop := treeNodesUptoRow.holds Tryz.pinned (OpenSpec.upto treeNodesSpec)

/-- 'gossamerlaw19.TreePlays', WHERE WHAT IT READS IS OF BULK AT MOST 1048576: true; the input reads as it did. -/
def treePlaysUptoRow : OpenClaim := { program := "ytjnlooccddnbkaagreatdoor", sum := "7884d04a5e340be7efdc65e835caeb05b087978373e9557143900856b0041874", func := "gossamer/gossamerlaw19.TreePlays", spec := "treePlays", inPlace := ["internal/abi.NoEscape", "internal/bytealg.MakeNoZero", "internal/bytealg.abigen_runtime_cmpstring"], unfollowed := true, recurses := true, named := ["gossamer/sha.start", "gossamer/sha.consts"], apart := false, laid := [("gossamer/sha.start", laid_gossamer_sha_start), ("gossamer/sha.consts", laid_gossamer_sha_consts)], narrowed := true }
def TreePlaysUptoSaid : Prop := treePlaysUptoRow.holds Tryz.pinned (OpenSpec.upto treePlaysSpec)

/-- 'gossamerlaw19.TreeNone', WHERE WHAT IT READS IS OF BULK AT MOST 1048576: true; the input reads as it did. -/
def treeNoneUptoRow : OpenClaim := { program := "ytjnlooccddnbkaagreatdoor", sum := "7884d04a5e340be7efdc65e835caeb05b087978373e9557143900856b0041874", func := "gossamer/gossamerlaw19.TreeNone", spec := "treeNone", inPlace := ["internal/abi.NoEscape", "internal/bytealg.MakeNoZero", "internal/bytealg.abigen_runtime_cmpstring"], unfollowed := true, recurses := true, named := ["gossamer/sha.start", "gossamer/sha.consts"], apart := false, laid := [("gossamer/sha.start", laid_gossamer_sha_start), ("gossamer/sha.consts", laid_gossamer_sha_consts)], narrowed := true }
def TreeNoneUptoSaid : Prop := treeNoneUptoRow.holds Tryz.pinned (OpenSpec.upto treeNoneSpec)

end Rows
end Go.Proofs.YtjnlooccddnbkaaGreatDoor
