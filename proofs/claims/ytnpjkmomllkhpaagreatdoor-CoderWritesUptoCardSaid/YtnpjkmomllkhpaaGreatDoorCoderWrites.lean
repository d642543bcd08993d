/-
  THE LAW 'gossamer/gossamerlaw25.CoderWrites': WHATEVER THE INPUT: true; the input reads as it did. The frame round the walk of YtnpjkmomllkhpaaGreatDoorCoderWritesWalk (written by a program of our own, after the kit's template).
-/
import Derived.Test.YtnpjkmomllkhpaaGreatDoorRows
import Derived.Test.YtnpjkmomllkhpaaGreatDoorTm42
import Derived.ProofKit
import Derived.OpenShut
import Derived.ShutString
import Derived.ChangeOld
import Derived.Below
import Derived.SliceStrings
import Derived.Lib.SmallJoins
import Derived.LaidMore
import Derived.Lay
import Derived.LaidHandle
import Derived.Stop.Joined
import Derived.Lib.LaidTab
import Derived.SevenTiedAt
import Derived.Test.YtnpjkmomllkhpaaGreatDoorTm43
import Derived.Test.YtnpjkmomllkhpaaGreatDoorTie
import Derived.Test.YtnpjkmomllkhpaaGreatDoorCards
import Derived.JoinedCond
import Derived.Deep.CondSized
import Derived.Test.YtnpjkmomllkhpaaGreatDoorTm26
import Derived.SizedLaws
import Derived.Test.YtnpjkmomllkhpaaGreatDoorTm6
namespace Go.Proofs.YtnpjkmomllkhpaaGreatDoor.CoderWrites
open Go.ChangeShapes Go.WideShapes Go.ChangeAt Go.RowKit Go.Joins
open Go.ChangeMaps (open_string shut_string)
set_option linter.unusedVariables false

theorem own : ownKnob Tryz.prog.godebug = none := by kernel_rfl
theorem laidOut : laidOutB Tryz.prog = true := by kernel_rfl

set_option maxRecDepth 100000 in
theorem contract (H : Type) (enc : TypeId × Value → H) (W : World) (base : Nat) (args : Array Value) (ds gs : List (DataW H)) (before : List MemPlace)
    (hval0 : ∀ (j : Nat) t v, Tryz.f3.params[j]? = some t → args[j]? = some v → Value.okWide Tryz.prog W .any base t v)
    (hW : DataW.Whole enc Tryz.prog Tryz.f3.params.toList Rows.coderWritesSpec.vars false W args.toList ds gs before) (hk : Rows.uptoSmall H (ds ++ gs) = true)
    (hsz0 : (DataW.weightsEach Tryz.prog (Tryz.f3.params.toList ++ Rows.coderWritesSpec.plain.varTypes Tryz.prog) (ds ++ gs)).all (· ≤ reachBytes) = true) :
    Calls Tryz.prog 3 args W fun e W' => ∃ v, e = .returned v ∧ Rows.coderWritesSpec.post enc Tryz.prog Tryz.f3 false true false false W args v W' := by
  have hsz : (DataW.weightsEach Tryz.prog (Tryz.f3.params.toList ++ Rows.coderWritesSpec.plain.varTypes Tryz.prog) (ds ++ gs)).all (· ≤ reachBytes) = true := hsz0
  clear hsz0
  have hval : ∀ (j : Nat) t v, Tryz.f3.params[j]? = some t → args[j]? = some v → Value.okWide Tryz.prog W .any base t v := hval0
  have hW' := hW
  obtain ⟨p, q, hA0, hV, rfl, hfz, hnd⟩ := hW
  have hA : DataW.TrodAll enc Tryz.prog W 0 (fun _ => true) true Tryz.f3.params.toList args.toList ds p := hA0
  rw [Tryz.params3] at hA hval hsz
  obtain ⟨v0, vs0, d0, ds0, p0, q0, hargs, rfl, rfl, h0, r0⟩ := trodAll_cons hA
  obtain ⟨v1, vs1, d1, ds1, p1, q1, rfl, rfl, rfl, h1, r1⟩ := trodAll_cons r0
  obtain ⟨v2, vs2, d2, ds2, p2, q2, rfl, rfl, rfl, h2, r2⟩ := trodAll_cons r1
  obtain ⟨v3, vs3, d3, ds3, p3, q3, rfl, rfl, rfl, h3, r3⟩ := trodAll_cons r2
  obtain ⟨v4, vs4, d4, ds4, p4, q4, rfl, rfl, rfl, h4, r4⟩ := trodAll_cons r3
  obtain ⟨rfl, rfl, rfl⟩ := trodAll_nil r4
  obtain rfl : args = #[v0, v1, v2, v3, v4] := by cases args; simp_all
  obtain ⟨rfl, rfl⟩ := trodVars_none hV
  have k0 := h0
  have lt0 : ∀ x ∈ p0, x.block < W.heap.size := by obtain ⟨m, hm⟩ := k0; exact DataW.trod_lt m _ _ _ hm
  have k1 := h1
  have lt1 : ∀ x ∈ p1, x.block < W.heap.size := by obtain ⟨m, hm⟩ := k1; exact DataW.trod_lt m _ _ _ hm
  have k2 := h2
  have lt2 : ∀ x ∈ p2, x.block < W.heap.size := by obtain ⟨m, hm⟩ := k2; exact DataW.trod_lt m _ _ _ hm
  have k3 := h3
  have lt3 : ∀ x ∈ p3, x.block < W.heap.size := by obtain ⟨m, hm⟩ := k3; exact DataW.trod_lt m _ _ _ hm
  have k4 := h4
  have lt4 : ∀ x ∈ p4, x.block < W.heap.size := by obtain ⟨m, hm⟩ := k4; exact DataW.trod_lt m _ _ _ hm
  obtain ⟨x0, rfl, l0, w0⟩ := CoderLaw.open_entry (j := 0) hk rfl (hval 0 29 v0 rfl rfl) k0
  obtain ⟨x1, rfl, l1, w1⟩ := CoderLaw.open_state (j := 1) hk rfl (hval 1 33 v1 rfl rfl) k1
  obtain ⟨B2, s2, c2, x2, rfl, l2, w2⟩ := CoderLaw.open_delta (j := 2) hk rfl (hval 2 35 v2 rfl rfl) k2
  obtain ⟨J3, s3, c3, rfl, w3⟩ := CoderLaw.open_members (j := 3) hk rfl (hval 3 36 v3 rfl rfl) k3
  obtain ⟨x4, rfl, w4⟩ := CoderLaw.open_op (j := 4) hk rfl (hval 4 38 v4 rfl rfl) k4
  clear hA0 hval0
  refine (walk x0 x1 B2 s2 c2 x2 J3 s3 c3 x4 W w0 l0 w1 l1 w2 l2 w3 w4).mono fun e W' ⟨he, bel⟩ => ?_
  subst he
  exact ⟨_, rfl, _, _, _, [], _, [], hW', trodAll_mk1 (shut_bool Tryz.underlying4 _), (trodAll_cons_mk (Below.trod laidOut (by kernel_rfl) (of_decide_eq_true (by kernel_rfl)) k0 bel lt0) (trodAll_cons_mk (Below.trod laidOut (by kernel_rfl) (of_decide_eq_true (by kernel_rfl)) k1 bel lt1) (trodAll_cons_mk (Below.trod laidOut (by kernel_rfl) (of_decide_eq_true (by kernel_rfl)) k2 bel lt2) (trodAll_cons_mk (Below.trod laidOut (by kernel_rfl) (of_decide_eq_true (by kernel_rfl)) k3 bel lt3) (trodAll_cons_mk (Below.trod laidOut (by kernel_rfl) (of_decide_eq_true (by kernel_rfl)) k4 bel lt4) trodAll_mk0))))), rfl, bel.frame _, fun h => by cases h⟩

def tabs : List (String × DataW Unit) := [("unicode/utf8.acceptRanges", Rows.laid_unicode_utf8_acceptRanges), ("unicode/utf8.first", Rows.laid_unicode_utf8_first)]
theorem door_met (os : Os) (args : Array Value) : laidMet Tryz.prog tabs ((World.laidAll Tryz.prog os tabs).forCall (fun _ _ => 0) ⟨#[], args, []⟩).memory :=
  laidMet_laidAll args (by kernel_rfl) (by kernel_rfl)
set_option maxRecDepth 100000 in
theorem lifted (os : Os) (started : os.Started) (H : Type) (enc : TypeId × Value → H) (I : Stop.Interp) :
    ReturnsInHanded {} Tryz.checked os 3 .any (fun w args => ((Rows.OpenSpec.upto Rows.coderWritesSpec).pre enc Tryz.prog Tryz.f3 [] false w args ∧ laidMet Tryz.prog tabs w) ∧ sizedMet enc Tryz.prog Tryz.f3 (Rows.OpenSpec.upto Rows.coderWritesSpec) false w args) (((Rows.OpenSpec.upto Rows.coderWritesSpec).at I).post enc Tryz.prog Tryz.f3 false true false false) := by
  refine CondLaid.returnsInHanded (C := Tryz.checked) (s := (Rows.OpenSpec.upto Rows.coderWritesSpec)) (k := Rows.uptoSmall) (X := fun w _ => laidMet Tryz.prog tabs w) rfl own started (by kernel_rfl) Tryz.func3
    (CondLaid.witness (enc := enc) (C := Tryz.checked) (os := os) (s := (Rows.OpenSpec.upto Rows.coderWritesSpec)) (k := Rows.uptoSmall) (X := fun w _ => laidMet Tryz.prog tabs w) rfl false (World.laidAll Tryz.prog os tabs) #[.agg #[.string ByteArray.empty, .slice none 0 0, .slice none 0 0, .slice none 0 0, .int .u64 0, .string ByteArray.empty, .bool false], .agg #[.slice none 0 0, .slice none 0 0, .slice none 0 0], .agg #[.slice none 0 0, .slice none 0 0, .slice none 0 0, .slice none 0 0], .slice none 0 0, .agg #[.int .u8 0, .string ByteArray.empty, .int .i64 0, .string ByteArray.empty]] 8 rfl (World.shaped_of_RefB (by kernel_rfl) (by kernel_rfl)) (by kernel_rfl)
      (x := ([.agg [.lit (.string []), .nil, .nil, .nil, .agg [.lit (.int .u64 0), .lit (.string []), .lit (.bool false)]], .agg [.nil, .nil, .nil], .agg [.nil, .agg [.nil, .nil, .nil]], .nil, .agg [.lit (.int .u8 0), .lit (.string []), .lit (.int .i64 0), .lit (.string [])]], [], [])) (by kernel_rfl) rfl (by kernel_rfl) (by kernel_rfl) (door_met os _)) ?_
  intro W base args ds gs before hval hW _ hk hsz _
  exact contract H enc W base args ds gs before hval hW hk hsz

theorem over_name : Tryz.pinned.checked.prog.funcNamed Rows.coderWritesUptoRow.func = some 3 := by kernel_rfl
theorem over_closed : joinedFacts Tryz.pinned.checked.prog 3 Tryz.f3 (Rows.OpenSpec.upto Rows.coderWritesSpec).bare Rows.coderWritesUptoRow = true := by kernel_rfl
theorem over_inst : Tryz.f3.isInstance Tryz.pinned.checked.prog Rows.coderWritesUptoRow.origin Rows.coderWritesUptoRow.targs := of_decide_eq_true (by kernel_rfl)
theorem over_wrap : Tryz.f3.isWrapper Tryz.pinned.checked.prog Rows.coderWritesUptoRow.wrapper Rows.coderWritesUptoRow.mainSum := by unfold Func.isWrapper; first | (rw [if_pos (by decide +kernel)]; kernel_rfl) | (rw [if_neg (by decide +kernel)]; exact ⟨rfl, rfl⟩)
theorem over_lift (os : Os) (started : os.Started) (H : Type) (enc : TypeId × Value → H) (I : Stop.Interp) :
    ReturnsInHanded Rows.coderWritesUptoRow.assume Tryz.pinned.checked os 3 .any (Rows.coderWritesUptoRow.pre enc Tryz.pinned.checked.prog Tryz.f3 (Rows.OpenSpec.upto Rows.coderWritesSpec)) (((Rows.OpenSpec.upto Rows.coderWritesSpec).at I).post enc Tryz.pinned.checked.prog Tryz.f3 Rows.coderWritesUptoRow.apart Rows.coderWritesUptoRow.fresh Rows.coderWritesUptoRow.handsOn Rows.coderWritesUptoRow.again) := lifted os started H enc I
theorem over : Rows.coderWritesUptoRow.holds Tryz.pinned (Rows.OpenSpec.upto Rows.coderWritesSpec) :=
  OpenClaim.holds_of_cond 3 Tryz.f3 rfl rfl rfl rfl rfl rfl rfl ⟨rfl, rfl, rfl, rfl, rfl⟩ rfl rfl rfl rfl rfl over_name Tryz.func3 over_closed
    over_inst over_wrap
    (fun os started H enc _ I => over_lift os started H enc I)

/-- THE CARD. -/
theorem proved : Rows.CoderWritesUptoCardSaid :=
  Claim7.holds_tied_plain_at .later [] [.data, .pinned] true (true, "ba9fd8fb7db250afb9bfdb37ab98672ec450ff44f49649fbd07fb1834802c872") false
    over (fun _ h => by cases h) (by kernel_rfl) (fun _ h => by cases h) coderWritesUpto_row_tie rfl ⟨rfl, rfl⟩ (by kernel_rfl) rfl
    (fun f fn hf hfn => by
      obtain rfl : f = 3 := Option.some.inj ((show Tryz.prog.funcNamed "gossamer/gossamerlaw25.CoderWrites" = some 3 by kernel_rfl).symm.trans hf) |>.symm
      obtain rfl : fn = Tryz.f3 := (Option.some.inj (Tryz.func3.symm.trans hfn)).symm
      exact ⟨by kernel_rfl, fun j t ht => by
        rw [Tryz.params3] at ht
        have hall : (Tryz.f3.params.all fun u => !Tryz.prog.wantsStandIn u) = true := by kernel_rfl
        rw [Tryz.params3] at hall
        have hm := Array.mem_of_getElem? ht
        exact (show Tryz.prog.wantsStandIn t = false by simpa using Array.all_eq_true_iff_forall_mem.1 hall t hm)⟩)
    (by kernel_rfl)
#print axioms proved
end Go.Proofs.YtnpjkmomllkhpaaGreatDoor.CoderWrites
