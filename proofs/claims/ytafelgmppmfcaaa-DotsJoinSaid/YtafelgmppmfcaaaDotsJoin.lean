/-
  THE LAW 'gossamer/gossamerlaw11.DotsJoin': WHATEVER THE INPUT: true; the input reads as it did. The frame round the walk of YtafelgmppmfcaaaDotsJoinWalk (written by a program of our own, after the kit's template).
-/
import Derived.Test.YtafelgmppmfcaaaRows
import Derived.Test.YtafelgmppmfcaaaDotsJoinWalk
import Derived.ProofKit
import Derived.OpenShut
import Derived.ShutString
import Derived.ChangeOld
import Derived.Below
import Derived.SliceStrings
import Derived.Lib.SmallJoins
namespace Go.Proofs.Ytafelgmppmfcaaa.DotsJoin
open Go.ChangeShapes Go.WideShapes Go.ChangeAt Go.RowKit Go.Joins
open Go.ChangeMaps (open_string shut_string)
set_option linter.unusedVariables false

theorem own : ownKnob Try.prog.godebug = none := by kernel_rfl
theorem laidOut : laidOutB Try.prog = true := by kernel_rfl

set_option maxRecDepth 100000 in
theorem lifted (os : Os) (started : os.Started) (H : Type) (enc : TypeId × Value → H) :
    ReturnsInHanded {} Try.checked os 5 .any (Rows.dotsJoinSpec.pre6 enc Try.prog Try.f5 Rows.dotsJoinRow.domain false) (Rows.dotsJoinSpec.post enc Try.prog Try.f5 false true false false) := by
  refine returnsInHanded_of_change (C := Try.checked) own started (by kernel_rfl) Try.func5
    (ChangeSpec.witness6 (enc := enc) (C := Try.checked) false ⟨#[], #[.slice none 0 0, .slice none 0 0, .slice none 0 0, .agg #[.string ByteArray.empty, .int .u64 0]], []⟩ 8 (by kernel_rfl) (by kernel_rfl) (by kernel_rfl) (by kernel_rfl)) ?_
  intro W base args ds gs before hval0 hW hcnd _
  have hval : ∀ (j : Nat) t v, Try.f5.params[j]? = some t → args[j]? = some v → Value.okWide Try.prog W .any base t v := hval0
  have hW' := hW
  obtain ⟨p, q, hA0, hV, rfl, hfz, hnd⟩ := hW
  have hA : DataW.TrodAll enc Try.prog W 0 (fun _ => true) true Try.f5.params.toList args.toList ds p := hA0
  rw [Try.params5] at hA hval
  obtain ⟨v0, vs0, d0, ds0, p0, q0, hargs, rfl, rfl, h0, r0⟩ := trodAll_cons hA
  obtain ⟨v1, vs1, d1, ds1, p1, q1, rfl, rfl, rfl, h1, r1⟩ := trodAll_cons r0
  obtain ⟨v2, vs2, d2, ds2, p2, q2, rfl, rfl, rfl, h2, r2⟩ := trodAll_cons r1
  obtain ⟨v3, vs3, d3, ds3, p3, q3, rfl, rfl, rfl, h3, r3⟩ := trodAll_cons r2
  obtain ⟨rfl, rfl, rfl⟩ := trodAll_nil r3
  obtain rfl : args = #[v0, v1, v2, v3] := by cases args; simp_all
  obtain ⟨rfl, rfl⟩ := trodVars_none hV
  have k0 := h0
  have lt0 : ∀ x ∈ p0, x.block < W.heap.size := by obtain ⟨m, hm⟩ := k0; exact DataW.trod_lt m _ _ _ hm
  have k1 := h1
  have lt1 : ∀ x ∈ p1, x.block < W.heap.size := by obtain ⟨m, hm⟩ := k1; exact DataW.trod_lt m _ _ _ hm
  have k2 := h2
  have lt2 : ∀ x ∈ p2, x.block < W.heap.size := by obtain ⟨m, hm⟩ := k2; exact DataW.trod_lt m _ _ _ hm
  have k3 := h3
  have lt3 : ∀ x ∈ p3, x.block < W.heap.size := by obtain ⟨m, hm⟩ := k3; exact DataW.trod_lt m _ _ _ hm
  obtain ⟨a0, len0, cap0, rfl⟩ := okWide_slice Try.underlying22 (hval 0 22 v0 rfl rfl)
  have w0 : Recs W [.str, .int .u64] a0 len0 := by
    obtain ⟨fuel, hf⟩ := h0
    refine recs_of [.str, .int .u64] Try.underlying22 Try.underlying40 (by kernel_rfl) (by kernel_rfl) (by decide) (fun j k hk => ?_) (by simpa [Value.cells] using hf)
    match j, k, hk with
    | 0, k, hk => simp at hk; subst hk; exact ⟨_, rfl, Try.underlying9⟩
    | 1, k, hk => simp at hk; subst hk; exact ⟨_, rfl, Try.underlying23⟩
    | j + 2, k, hk => simp at hk
  obtain ⟨a1, len1, cap1, rfl⟩ := okWide_slice Try.underlying22 (hval 1 22 v1 rfl rfl)
  have w1 : Recs W [.str, .int .u64] a1 len1 := by
    obtain ⟨fuel, hf⟩ := h1
    refine recs_of [.str, .int .u64] Try.underlying22 Try.underlying40 (by kernel_rfl) (by kernel_rfl) (by decide) (fun j k hk => ?_) (by simpa [Value.cells] using hf)
    match j, k, hk with
    | 0, k, hk => simp at hk; subst hk; exact ⟨_, rfl, Try.underlying9⟩
    | 1, k, hk => simp at hk; subst hk; exact ⟨_, rfl, Try.underlying23⟩
    | j + 2, k, hk => simp at hk
  obtain ⟨a2, len2, cap2, rfl⟩ := okWide_slice Try.underlying22 (hval 2 22 v2 rfl rfl)
  have w2 : Recs W [.str, .int .u64] a2 len2 := by
    obtain ⟨fuel, hf⟩ := h2
    refine recs_of [.str, .int .u64] Try.underlying22 Try.underlying40 (by kernel_rfl) (by kernel_rfl) (by decide) (fun j k hk => ?_) (by simpa [Value.cells] using hf)
    match j, k, hk with
    | 0, k, hk => simp at hk; subst hk; exact ⟨_, rfl, Try.underlying9⟩
    | 1, k, hk => simp at hk; subst hk; exact ⟨_, rfl, Try.underlying23⟩
    | j + 2, k, hk => simp at hk
  obtain ⟨c3_0, c3_1, y3_0, y3_1, m3, rfl, rfl, rfl, hy3_0, hy3_1⟩ := open_agg2 Try.underlying25 (by kernel_rfl) (by kernel_rfl) (hval 3 25 v3 rfl rfl) h3
  obtain ⟨a3_0, e3_0, rfl, w3_0⟩ := DataW.trod_string Try.underlying9 hy3_0
  simp only [List.cons.injEq, and_true] at e3_0
  subst e3_0
  obtain ⟨a3_1, e3_1, rfl, w3_1⟩ := DataW.trod_int Try.underlying23 hy3_1
  simp only [List.cons.injEq, and_true] at e3_1
  subst e3_1
  clear hA0 hval0
  refine (walk a0 len0 cap0 a1 len1 cap1 a2 len2 cap2 a3_0 a3_1 W w0 w1 w2 w3_0 w3_1).mono fun e W' ⟨he, bel⟩ => ?_
  subst he
  exact ⟨_, rfl, _, _, _, [], _, [], hW', trodAll_mk1 (shut_bool Try.underlying4 _), (trodAll_cons_mk (Below.trod laidOut (by kernel_rfl) (of_decide_eq_true (by kernel_rfl)) k0 bel lt0) (trodAll_cons_mk (Below.trod laidOut (by kernel_rfl) (of_decide_eq_true (by kernel_rfl)) k1 bel lt1) (trodAll_cons_mk (Below.trod laidOut (by kernel_rfl) (of_decide_eq_true (by kernel_rfl)) k2 bel lt2) (trodAll_cons_mk (Below.trod laidOut (by kernel_rfl) (of_decide_eq_true (by kernel_rfl)) k3 bel lt3) trodAll_mk0)))), rfl, bel.frame _, fun h => by cases h⟩

theorem over : Rows.dotsJoinRow.holds Try.pinned (OpenSpec.ofChange Rows.dotsJoinSpec) :=
  OpenClaim.holds_of_wide 5 Try.f5 rfl rfl rfl rfl rfl rfl rfl ⟨rfl, rfl, rfl, rfl, rfl⟩ rfl rfl rfl rfl rfl (by kernel_rfl) Try.func5 (by kernel_rfl)
    (of_decide_eq_true (by kernel_rfl)) (by unfold Func.isWrapper; first | (rw [if_pos (by decide +kernel)]; kernel_rfl) | (rw [if_neg (by decide +kernel)]; exact ⟨rfl, rfl⟩))
    (fun os started H enc _ => lifted os started H enc)

/-- THE STATEMENT. -/
theorem proved : Rows.DotsJoinSaid := over
#print axioms proved
end Go.Proofs.Ytafelgmppmfcaaa.DotsJoin
