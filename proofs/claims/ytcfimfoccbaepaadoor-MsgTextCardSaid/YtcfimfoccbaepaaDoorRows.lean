/-
  NARROWER THAN 'FOR EVERY INPUT', by the rows' own cells (each row's printed sentence says how): MsgTells: laid · MsgBack: laid · MsgText: laid · MsgApart: laid · MsgKinds: laid.
  DERIVED. THE GIVEN ROWS OF THIS SEAT. 5 by the template 'for every input the law returns true; each argument reads behind the call as it read before'; 0 by the template 'total and deterministic' (their statements: YtcfimfoccbaepaaDoorTotals.lean).
  GIVEN WITH THE SEED: the statements are not yours to turn. If you find one false, say at which input.
  Laid BY PROGRAM, IN A SANDBOX (cutbox-rows.mjs): the forced cells as the released guide's own fill.sh prints them over the translation a6dc330a51d1adc8… (all of the seat's roots in one cut). By AI agents, Wed Nov 11 2026. No macro, syntax, notation, axiom, sorry.
-/
import Derived.Test.YtcfimfoccbaepaaDoorChecked
import GoSem.Claim
import GoSem.ClaimJoined
import GoSem.ClaimMapViews
import Derived.JoinedTies
import Derived.KernelRfl
namespace Go.Proofs.YtcfimfoccbaepaaDoor
/- THE CELL 'sum', in the pinned program and in every row, IS THE sha256 OF THE DUMP (.gsa) THAT YtcfimfoccbaepaaDoorProg.lean LOADS. Nothing in Lean hashes anything: it is a label: what it is worth is what the hold of that sum in a sandbox is worth. -/
noncomputable def Tryd.pinned : Pinned := { name := "ytcfimfoccbaepaadoor", sum := "a6dc330a51d1adc8b4fd0f71175d514b894f09ab536c0b1cc1963ff1fa6c0303", checked := Tryd.checked }
namespace Rows
def none {H : Type} : Left H := { results := [], args := [] }

/- WHAT THE LISTED PACKAGE-LEVEL VARIABLES READ AS WHEN THE CALL BEGINS. Each datum BY PROGRAM (the guide's laid-datum.mjs) off the statement by which the dump's own 'gosem.cut.vars' lays the variable. In a bare row this is a premise. The card (YtcfimfoccbaepaaDoorCards.lean) ties it to the program's text. -/
def laid_gossamer_crc_table {H : Type} : DataW H := .agg [.lit (.int .u32 0), .lit (.int .u32 274646895), .lit (.int .u32 549293790), .lit (.int .u32 820201905), .lit (.int .u32 1098587580), .lit (.int .u32 1361435347), .lit (.int .u32 1640403810), .lit (.int .u32 1905808397), .lit (.int .u32 2197175160), .lit (.int .u32 2460548119), .lit (.int .u32 2722870694), .lit (.int .u32 2987750089), .lit (.int .u32 3280807620), .lit (.int .u32 3553878443), .lit (.int .u32 3811616794), .lit (.int .u32 4084100981)]

/-- 'gossamerlaw26.MsgTells': WHATEVER THE INPUT: true; the input reads as it did. -/
def msgTellsSpec : ChangeSpec := { name := "msgTells", fn := fun _ => fun
  | [d1, d2] => { results := [.lit (.bool true)], args := [d1, d2] }
  | _ => none }
def msgTellsRow : OpenClaim := { program := "ytcfimfoccbaepaadoor", sum := "a6dc330a51d1adc8b4fd0f71175d514b894f09ab536c0b1cc1963ff1fa6c0303", func := "gossamer/gossamerlaw26.MsgTells", spec := "msgTells", inPlace := ["internal/bytealg.IndexByteString", "internal/bytealg.IndexString", "internal/abi.NoEscape"], unfollowed := true, recurses := true, named := ["internal/bytealg.MaxLen", "gossamer/crc.table"], apart := false, laid := [("gossamer/crc.table", laid_gossamer_crc_table)] }
def MsgTellsSaid : Prop := msgTellsRow.holds Tryd.pinned (OpenSpec.ofChange msgTellsSpec)

/-- ITS FALSE NEIGHBOUR: 'it returns false'. Refute it at one input. -/
def msgTellsWrong : ChangeSpec := { name := "msgTells", fn := fun _ => fun
  | [d1, d2] => { results := [.lit (.bool false)], args := [d1, d2] }
  | _ => none }
def MsgTellsWrongFalsely : Prop := msgTellsRow.holds Tryd.pinned (OpenSpec.ofChange msgTellsWrong)

/-- 'gossamerlaw26.MsgBack': WHATEVER THE INPUT: true; the input reads as it did. -/
def msgBackSpec : ChangeSpec := { name := "msgBack", fn := fun _ => fun
  | [d1, d2] => { results := [.lit (.bool true)], args := [d1, d2] }
  | _ => none }
def msgBackRow : OpenClaim := { program := "ytcfimfoccbaepaadoor", sum := "a6dc330a51d1adc8b4fd0f71175d514b894f09ab536c0b1cc1963ff1fa6c0303", func := "gossamer/gossamerlaw26.MsgBack", spec := "msgBack", inPlace := ["internal/bytealg.IndexByteString", "internal/bytealg.IndexString", "internal/abi.NoEscape"], unfollowed := true, recurses := true, named := ["internal/bytealg.MaxLen", "gossamer/crc.table"], apart := false, laid := [("gossamer/crc.table", laid_gossamer_crc_table)] }
def MsgBackSaid : Prop := msgBackRow.holds Tryd.pinned (OpenSpec.ofChange msgBackSpec)

/-- ITS FALSE NEIGHBOUR: 'it returns false'. Refute it at one input. -/
def msgBackWrong : ChangeSpec := { name := "msgBack", fn := fun _ => fun
  | [d1, d2] => { results := [.lit (.bool false)], args := [d1, d2] }
  | _ => none }
def MsgBackWrongFalsely : Prop := msgBackRow.holds Tryd.pinned (OpenSpec.ofChange msgBackWrong)

/-- 'gossamerlaw26.MsgText': WHATEVER THE INPUT: true; the input reads as it did. -/
def msgTextSpec : ChangeSpec := { name := "msgText", fn := fun _ => fun
  | [d1, d2] => { results := [.lit (.bool true)], args := [d1, d2] }
  | _ => none }
def msgTextRow : OpenClaim := { program := "ytcfimfoccbaepaadoor", sum := "a6dc330a51d1adc8b4fd0f71175d514b894f09ab536c0b1cc1963ff1fa6c0303", func := "gossamer/gossamerlaw26.MsgText", spec := "msgText", inPlace := ["internal/bytealg.IndexByteString", "internal/bytealg.IndexString", "internal/abi.NoEscape"], unfollowed := true, recurses := true, named := ["internal/bytealg.MaxLen", "gossamer/crc.table"], apart := false, laid := [("gossamer/crc.table", laid_gossamer_crc_table)] }
def MsgTextSaid : Prop := msgTextRow.holds Tryd.pinned (OpenSpec.ofChange msgTextSpec)

/-- ITS FALSE NEIGHBOUR: 'it returns false'. Refute it at one input. -/
def msgTextWrong : ChangeSpec := { name := "msgText", fn := fun _ => fun
  | [d1, d2] => { results := [.lit (.bool false)], args := [d1, d2] }
  | _ => none }
def MsgTextWrongFalsely : Prop := msgTextRow.holds Tryd.pinned (OpenSpec.ofChange msgTextWrong)

/-- 'gossamerlaw26.MsgApart': WHATEVER THE INPUT: true; the input reads as it did. -/
def msgApartSpec : ChangeSpec := { name := "msgApart", fn := fun _ => fun
  | [d1, d2, d3, d4] => { results := [.lit (.bool true)], args := [d1, d2, d3, d4] }
  | _ => none }
def msgApartRow : OpenClaim := { program := "ytcfimfoccbaepaadoor", sum := "a6dc330a51d1adc8b4fd0f71175d514b894f09ab536c0b1cc1963ff1fa6c0303", func := "gossamer/gossamerlaw26.MsgApart", spec := "msgApart", inPlace := ["internal/bytealg.IndexByteString", "internal/bytealg.IndexString", "internal/abi.NoEscape"], unfollowed := true, recurses := true, named := ["internal/bytealg.MaxLen", "gossamer/crc.table"], apart := false, laid := [("gossamer/crc.table", laid_gossamer_crc_table)] }
def MsgApartSaid : Prop := msgApartRow.holds Tryd.pinned (OpenSpec.ofChange msgApartSpec)

/-- ITS FALSE NEIGHBOUR: 'it returns false'. Refute it at one input. -/
def msgApartWrong : ChangeSpec := { name := "msgApart", fn := fun _ => fun
  | [d1, d2, d3, d4] => { results := [.lit (.bool false)], args := [d1, d2, d3, d4] }
  | _ => none }
def MsgApartWrongFalsely : Prop := msgApartRow.holds Tryd.pinned (OpenSpec.ofChange msgApartWrong)

/-- 'gossamerlaw26.MsgKinds': WHATEVER THE INPUT: true; the input reads as it did. -/
def msgKindsSpec : ChangeSpec := { name := "msgKinds", fn := fun _ => fun
  | [d1, d2] => { results := [.lit (.bool true)], args := [d1, d2] }
  | _ => none }
def msgKindsRow : OpenClaim := { program := "ytcfimfoccbaepaadoor", sum := "a6dc330a51d1adc8b4fd0f71175d514b894f09ab536c0b1cc1963ff1fa6c0303", func := "gossamer/gossamerlaw26.MsgKinds", spec := "msgKinds", inPlace := ["internal/bytealg.IndexByteString", "internal/bytealg.IndexString", "internal/abi.NoEscape"], unfollowed := true, recurses := true, named := ["internal/bytealg.MaxLen", "gossamer/crc.table"], apart := false, laid := [("gossamer/crc.table", laid_gossamer_crc_table)] }
def MsgKindsSaid : Prop := msgKindsRow.holds Tryd.pinned (OpenSpec.ofChange msgKindsSpec)

/-- ITS FALSE NEIGHBOUR: 'it returns false'. Refute it at one input. -/
def msgKindsWrong : ChangeSpec := { name := "msgKinds", fn := fun _ => fun
  | [d1, d2] => { results := [.lit (.bool false)], args := [d1, d2] }
  | _ => none }
def MsgKindsWrongFalsely : Prop := msgKindsRow.holds Tryd.pinned (OpenSpec.ofChange msgKindsWrong)

/- THE SECOND FORM. 'bulk': how many values and letters a reading holds, each counted each time it is reached (what is shared counts as often as it is met; a slice's spare places count too). A statement '..UptoSaid' is the law's where the arguments, and the package variables that the reading takes, are together of bulk at most 1048576: NARROWER than '..Said'. Prove '..Said' where nothing that the law and all that it calls make is longer than what came in: it says more and counts as full. Else prove '..UptoSaid'. A law counts once. -/
mutual
def uptoBulk {H : Type} : DataW H → Nat
  | .lit (.string bytes) => bytes.length + 1
  | .lit _ => 1
  | .nil => 1
  | .ptr d => uptoBulk d + 1
  | .slice elems spare => uptoBulkAll elems + uptoBulkAll spare + 1
  | .agg parts => uptoBulkAll parts + 1
  | .iface _ d => uptoBulk d + 1
  | .map entries => uptoBulkEntries entries + 1
  | .held _ => 1
def uptoBulkAll {H : Type} : List (DataW H) → Nat
  | [] => 0
  | d :: r => uptoBulk d + uptoBulkAll r
def uptoBulkEntries {H : Type} : List (Lit × DataW H) → Nat
  | [] => 0
  | x :: r => uptoBulkEntry x + uptoBulkEntries r
def uptoBulkEntry {H : Type} : Lit × DataW H → Nat
  | (.string bytes, d) => bytes.length + uptoBulk d + 1
  | (_, d) => uptoBulk d + 1
 end
def uptoSmall : (H : Type) → List (DataW H) → Bool := fun _ ds => decide (uptoBulkAll ds ≤ 1048576)
def OpenSpec.upto (s : _root_.Go.ChangeSpec) : _root_.Go.OpenSpec := { _root_.Go.OpenSpec.ofChange s with cond := some uptoSmall }

/-- 'gossamerlaw26.MsgTells', WHERE WHAT IT READS IS OF BULK AT MOST 1048576: true; the input reads as it did. -/
def msgTellsUptoRow : OpenClaim := { program := "ytcfimfoccbaepaadoor", sum := "a6dc330a51d1adc8b4fd0f71175d514b894f09ab536c0b1cc1963ff1fa6c0303", func := "gossamer/gossamerlaw26.MsgTells", spec := "msgTells", inPlace := ["internal/bytealg.IndexByteString", "internal/bytealg.IndexString", "internal/abi.NoEscape"], unfollowed := true, recurses := true, named := ["internal/bytealg.MaxLen", "gossamer/crc.table"], apart := false, laid := [("gossamer/crc.table", laid_gossamer_crc_table)], narrowed := true }
def MsgTellsUptoSaid : Prop := msgTellsUptoRow.holds Tryd.pinned (OpenSpec.upto msgTellsSpec)

/-- 'gossamerlaw26.MsgBack', WHERE WHAT IT READS IS OF BULK AT MOST 1048576: true; the input reads as it did. -/
def msgBackUptoRow : OpenClaim := { program := "ytcfimfoccbaepaadoor", sum := "a6dc330a51d1adc8b4fd0f71175d514b894f09ab536c0b1cc1963ff1fa6c0303", func := "gossamer/gossamerlaw26.MsgBack", spec := "msgBack", inPlace := ["internal/bytealg.IndexByteString", "internal/bytealg.IndexString", "internal/abi.NoEscape"], unfollowed := true, recurses := true, named := ["internal/bytealg.MaxLen", "gossamer/crc.table"], apart := false, laid := [("gossamer/crc.table", laid_gossamer_crc_table)], narrowed := true }
def MsgBackUptoSaid : Prop := msgBackUptoRow.holds Tryd.pinned (OpenSpec.upto msgBackSpec)

/-- 'gossamerlaw26.MsgText', WHERE WHAT IT READS IS OF BULK AT MOST 1048576: true; the input reads as it did. -/
def msgTextUptoRow : OpenClaim := { program := "ytcfimfoccbaepaadoor", sum := "a6dc330a51d1adc8b4fd0f71175d514b894f09ab536c0b1cc1963ff1fa6c0303", func := "gossamer/gossamerlaw26.MsgText", spec := "msgText", inPlace := ["internal/bytealg.IndexByteString", "internal/bytealg.IndexString", "internal/abi.NoEscape"], unfollowed := true, recurses := true, named := ["internal/bytealg.MaxLen", "gossamer/crc.table"], apart := false, laid := [("gossamer/crc.table", laid_gossamer_crc_table)], narrowed := true }
def MsgTextUptoSaid : Prop := msgTextUptoRow.holds Tryd.pinned (OpenSpec.upto msgTextSpec)

/-- 'gossamerlaw26.MsgApart', WHERE WHAT IT READS IS OF BULK AT MOST 1048576: true; the input reads as it did. -/
def msgApartUptoRow : OpenClaim := { program := "ytcfimfoccbaepaadoor", sum := "a6dc330a51d1adc8b4fd0f71175d514b894f09ab536c0b1cc1963ff1fa6c0303", func := "gossamer/gossamerlaw26.MsgApart", spec := "msgApart", inPlace := ["internal/bytealg.IndexByteString", "internal/bytealg.IndexString", "internal/abi.NoEscape"], unfollowed := true, recurses := true, named := ["internal/bytealg.MaxLen", "gossamer/crc.table"], apart := false, laid := [("gossamer/crc.table", laid_gossamer_crc_table)], narrowed := true }
def MsgApartUptoSaid : Prop := msgApartUptoRow.holds Tryd.pinned (OpenSpec.upto msgApartSpec)

/-- 'gossamerlaw26.MsgKinds', WHERE WHAT IT READS IS OF BULK AT MOST 1048576: true; the input reads as it did. -/
def msgKindsUptoRow : OpenClaim := { program := "ytcfimfoccbaepaadoor", sum := "a6dc330a51d1adc8b4fd0f71175d514b894f09ab536c0b1cc1963ff1fa6c0303", func := "gossamer/gossamerlaw26.MsgKinds", spec := "msgKinds", inPlace := ["internal/bytealg.IndexByteString", "internal/bytealg.IndexString", "internal/abi.NoEscape"], unfollowed := true, recurses := true, named := ["internal/bytealg.MaxLen", "gossamer/crc.table"], apart := false, laid := [("gossamer/crc.table", laid_gossamer_crc_table)], narrowed := true }
def MsgKindsUptoSaid : Prop := msgKindsUptoRow.holds Tryd.pinned (OpenSpec.upto msgKindsSpec)

end Rows
end Go.Proofs.YtcfimfoccbaepaaDoor
