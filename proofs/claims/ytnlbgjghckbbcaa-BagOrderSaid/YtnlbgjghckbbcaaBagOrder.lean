/-
  THE LAW 'gossamer/gossamerlaw13.BagOrder': WHATEVER THE INPUT: true; the input reads as it did. The frame round the walk of YtnlbgjghckbbcaaBagOrderWalk (written by a program of our own, after the kit's template).
-/
import Derived.Test.YtnlbgjghckbbcaaRows
import Derived.Test.YtnlbgjghckbbcaaTmBagOrderWalk
import Derived.ProofKit
import Derived.OpenShut
import Derived.ShutString
import Derived.ChangeOld
import Derived.Below
import Derived.SliceStrings
import Derived.Lib.SmallJoins
import Derived.SizedLaws
import Derived.Test.YtnlbgjghckbbcaaTmBase
namespace Go.Proofs.Ytnlbgjghckbbcaa.BagOrder
open Go.ChangeShapes Go.WideShapes Go.ChangeAt Go.RowKit Go.Joins
open Go.ChangeMaps (open_string shut_string)
set_option linter.unusedVariables false

theorem own : ownKnob Try.prog.godebug = none := by kernel_rfl
theorem laidOut : laidOutB Try.prog = true := by kernel_rfl

set_option maxRecDepth 100000 in
theorem lifted (os : Os) (started : os.Started) (H : Type) (enc : TypeId × Value → H) :
    ReturnsInHanded {} Try.checked os 6 .any (Rows.bagOrderSpec.pre6 enc Try.prog Try.f6 Rows.bagOrderRow.domain false) (Rows.bagOrderSpec.post enc Try.prog Try.f6 false true false false) := by
  refine returnsInHanded_of_change_sized (C := Try.checked) own started (by kernel_rfl) Try.func6
    (ChangeSpec.witness6 (enc := enc) (C := Try.checked) false ⟨#[], #[.slice none 0 0], []⟩ 8 (by kernel_rfl) (by kernel_rfl) (by kernel_rfl) (by kernel_rfl)) ?_
  intro W base args ds gs before hval0 hW hcnd hsz0 _
  have hsz : (DataW.weightsEach Try.prog (Try.f6.params.toList ++ Rows.bagOrderSpec.plain.varTypes Try.prog) (ds ++ gs)).all (· ≤ reachBytes) = true := hsz0
  clear hsz0
  have hval : ∀ (j : Nat) t v, Try.f6.params[j]? = some t → args[j]? = some v → Value.okWide Try.prog W .any base t v := hval0
  have hW' := hW
  obtain ⟨p, q, hA0, hV, rfl, hfz, hnd⟩ := hW
  have hA : DataW.TrodAll enc Try.prog W 0 (fun _ => true) true Try.f6.params.toList args.toList ds p := hA0
  rw [Try.params6] at hA hval hsz
  obtain ⟨v0, vs0, d0, ds0, p0, q0, hargs, rfl, rfl, h0, r0⟩ := trodAll_cons hA
  obtain ⟨rfl, rfl, rfl⟩ := trodAll_nil r0
  obtain rfl : args = #[v0] := by cases args; simp_all
  obtain ⟨rfl, rfl⟩ := trodVars_none hV
  have k0 := h0
  have lt0 : ∀ x ∈ p0, x.block < W.heap.size := by obtain ⟨m, hm⟩ := k0; exact DataW.trod_lt m _ _ _ hm
  obtain ⟨a0, len0, cap0, rfl⟩ := okWide_slice Try.underlying47 (hval 0 47 v0 rfl rfl)
  have w0 : Recs W [.int .u8, .int .u8, .int .u8, .int .u8] a0 len0 := by
    obtain ⟨fuel, hf⟩ := h0
    refine recs_of [.int .u8, .int .u8, .int .u8, .int .u8] Try.underlying47 Try.underlying53 (by kernel_rfl) (by kernel_rfl) (by decide) (fun j k hk => ?_) (by simpa [Value.cells] using hf)
    match j, k, hk with
    | 0, k, hk => simp at hk; subst hk; exact ⟨_, rfl, Try.underlying5⟩
    | 1, k, hk => simp at hk; subst hk; exact ⟨_, rfl, Try.underlying5⟩
    | 2, k, hk => simp at hk; subst hk; exact ⟨_, rfl, Try.underlying5⟩
    | 3, k, hk => simp at hk; subst hk; exact ⟨_, rfl, Try.underlying5⟩
    | j + 4, k, hk => simp at hk
  have r0x := slice_reach (j := 0) hsz rfl rfl Try.underlying47 (by kernel_rfl) k0
  clear hA0 hval0
  refine (walk a0 len0 cap0 W w0 r0x).mono fun e W' ⟨he, bel⟩ => ?_
  subst he
  exact ⟨_, rfl, _, _, _, [], _, [], hW', trodAll_mk1 (shut_bool Try.underlying4 _), (trodAll_cons_mk (Below.trod laidOut (by kernel_rfl) (of_decide_eq_true (by kernel_rfl)) k0 bel lt0) trodAll_mk0), rfl, bel.frame _, fun h => by cases h⟩

theorem over : Rows.bagOrderRow.holds Try.pinned (OpenSpec.ofChange Rows.bagOrderSpec) :=
  OpenClaim.holds_of_wide 6 Try.f6 rfl rfl rfl rfl rfl rfl rfl ⟨rfl, rfl, rfl, rfl, rfl⟩ rfl rfl rfl rfl rfl (by kernel_rfl) Try.func6 (by kernel_rfl)
    (of_decide_eq_true (by kernel_rfl)) (by unfold Func.isWrapper; first | (rw [if_pos (by decide +kernel)]; kernel_rfl) | (rw [if_neg (by decide +kernel)]; exact ⟨rfl, rfl⟩))
    (fun os started H enc _ => lifted os started H enc)

/-- THE STATEMENT. -/
theorem proved : Rows.BagOrderSaid := over
#print axioms proved
end Go.Proofs.Ytnlbgjghckbbcaa.BagOrder
