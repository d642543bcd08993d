/- Merged texts: BagSeq, BagSort, BagOut, BagItems. -/
import Derived.RangeFuncNested
import Derived.RangeFuncBox
import Derived.RangeFuncLeaves
import Derived.Shelf.Abstract
import Derived.WalkKit
import Derived.OwnWalkIn
import Derived.TacticsInMore
import Derived.LoopNIn
import Derived.LoopIn
import Derived.Maps.AppendAt
import Derived.Test.YtnlbgjghckbbcaaTmBagB
import Derived.Test.YtnlbgjghckbbcaaTmDotJ
import Derived.Test.YtnlbgjghckbbcaaTmDotA
namespace Go.Proofs.Ytnlbgjghckbbcaa
namespace Bag
open Go.RowKit Go.Shelf Go.Maps Go.Proofs.Ytnlbgjghckbbcaa.Mark Go.Proofs.Ytnlbgjghckbbcaa.Dots
attribute [local go_sem] Oper.semAt_some
theorem typP : Row.Typ Try.prog pE 98 69 (.agg #[.string ⟨#[]⟩, .string ⟨#[]⟩, .int .u64 0]) 40 := ⟨Try.underlying98, Row.info_of (by kernel_rfl), rfl, by decide⟩
theorem keys_any (b : Nat) (w : World) :
    Calls Try.prog 46 #[.map (some b)] w fun e w' => e = .returned (.func (.func 64) #[] #[.pointer (some ⟨w.heap.size, 0, none⟩)]) ∧ w' = w.alloc (.cells #[.map (some b)] 64) := by
  have hmf : ∀ (fn : Fn) (first cap : Array Value) (w : World), (Instr.makeFunc fn first cap).run Try.prog w = .ok (.func fn first cap) w := fun _ _ _ _ => rfl
  go_enter Try.func46, Try.ntmps46
  go_wp2
  go_ret
  exact ⟨rfl, rfl⟩
theorem walks_of {A B : World} (k : KeepsOthers A B) : KeepsWalks A B := ⟨k.size, fun i o h hw => k.same i o h (Obj.not_cells_of_walk hw)⟩
set_option maxRecDepth 100000 in
set_option maxHeartbeats 2000000 in
theorem keys_stops (n : Nat) (hn : 1 ≤ n) (Bm b nn : Nat) (V : List Pl) (w : World) (hBm : Bm < w.heap.size) (hc : w.cell? ⟨Bm, 0, none⟩ = some (.map (some b))) (hV : PS w b nn V) :
    SeqStopsK Fence.wide n Try.prog 64 #[.pointer (some ⟨Bm, 0, none⟩)] (fun x : Pl => #[x.val]) KeepsWalks (fun ss => ss.Nodup ∧ (∀ x, x ∈ ss ↔ x ∈ V) ∧ ss.length ≤ nn) (fun _ => True) nn w := fun l J Jx W hW hJ _ hY h0 => by
  have hc' := (hW.cell (p := ⟨Bm, 0, none⟩) hBm).trans hc
  have HV := Lib.hid (KMap.Is.below hV hW)
  have HJ := Lib.hid hJ
  clear hc hV hJ
  refine callsIn_of_wp Try.func64 rfl trivial ?_ rfl
  simp only [Try.ntmps64, List.size_toArray, List.length_cons, List.length_nil, Nat.reduceAdd, Nat.reduceSub, Array.replicate_succ, Array.replicate_zero, List.push_toArray, List.append_toArray, List.nil_append, List.cons_append]
  gi_wp2_with (gi_at_range; refine KMap.wpListIn_range (C := places) Try.underlying64 rfl _ rfl b nn (setF V) rfl HV.out ?_; intro w6 cnt0 hc0 hr0 hb6)
  have J0 := HJ.out [] W w6 none h0 hb6 (fun r e => by cases e)
  gi_loopw [6] (fun _ wr => ∃ (lf : Pl → Bool) (cnt : Nat) (ss : List Pl), Hid (KMap.Rng places wr b W.heap.size nn (setF V) lf cnt) ∧ ss.length + cnt ≤ nn ∧ Hid (KMap.Col (setF V) lf ss) ∧ J ss wr) (fun _ wr => wr.rangeLeft b W.heap.size)
  case atStart => exact ⟨_, _, [], Lib.hid hr0, by simpa using hc0, Lib.hid (KMap.Col.start _), J0⟩
  case round =>
    obtain ⟨lf, cnt, ss, RG, hcs, HC, hJs⟩ := hrel
    gi_wp2_with (gi_at_next; refine KMap.wpListIn_next rfl _ rfl b W.heap.size nn (setF V) lf cnt rfl RG.out ?_ ?_)
    · intro hl0
      gi_wp2
      go_end0
      exact ⟨⟨_, rfl⟩, .inl ⟨ss, ⟨(HC.out.all hl0).1, fun x => by rw [(HC.out.all hl0).2 x, setF_some]; simp, by omega⟩, hJs⟩⟩
    · intro q c w7 cnt1 hlq hfq hqf hrg hlt7 hg hsz hen
      obtain ⟨hqV, rfl⟩ := setF_unit hfq
      have HC2 := Lib.hid (HC.out.step hlq (by rw [hfq]; rfl))
      have hJ7 := HJ.out ss wr w7 (some W.heap.size) hJs hg (fun r e => by cases e; exact ⟨Nat.le_refl _, RG.out.walk⟩)
      have hJ8 := HJ.out ss w7 (w7.alloc (.cells #[.string ⟨q.t.toArray⟩, .string ⟨q.m.p.toArray⟩, .int .u64 (q.m.n : Int)] 69)) none hJ7 (World.grownBy_alloc _ _ _) (fun r e => by cases e)
      have HLE : Hid (wr.rangeLeft b W.heap.size = cnt) := Lib.hid RG.out.left_eq
      have R8 := Lib.hid (hrg.below (balloc (Below.refl w7.heap.size w7) (.cells #[.string ⟨q.t.toArray⟩, .string ⟨q.m.p.toArray⟩, .int .u64 (q.m.n : Int)] 69)))
      obtain ⟨fn, tmps, assign, body, hy, hR⟩ := hY ss q _ hJ8 (by omega)
      have hlt8 : ss.length + 1 + cnt1 ≤ nn := by omega
      obtain ⟨t, p, k⟩ := q
      have hen' : (Instr.entry (.pointer (some ⟨W.heap.size, 0, none⟩))).run Try.prog w7 = .ok (.tuple #[.agg #[.string ⟨t.toArray⟩, .string ⟨p.toArray⟩, .int .u64 (k : Int)], .agg #[]]) w7 := hen
      simp only [Pl.val] at hy
      clear hen hg hsz hrg hfq hlq hqf hJs RG HC
      gi_wp2_with fail
      refine hR.mono ?_
      rintro e W3 (⟨rfl, hJ3, hk3⟩ | ⟨rfl, hJx3⟩)
      · gi_wp2
        have R9 := Lib.hid (R8.out.of_walks hk3)
        go_roundw
        case rel => exact ⟨_, cnt1, ss ++ [⟨t, ⟨p, k⟩⟩], R9, by simp; omega, HC2, hJ3⟩
        case measure => rw [R9.out.left_eq, HLE.out]; exact hlt7
      · gi_wp2
        refine bodyPost_ret (results_none rfl _ _ _) rfl ?_
        exact ⟨⟨_, rfl⟩, .inr ⟨ss ++ [⟨t, ⟨p, k⟩⟩], trivial, hJx3⟩⟩
/-- A place in its box. -/
def BoxP (W : World) (B : Nat) (x : Pl) : Prop := W.heap[B]? = some (.cells #[.string ⟨x.t.toArray⟩, .string ⟨x.m.p.toArray⟩, .int .u64 (x.m.n : Int)] 69 (0, 0))
theorem boxP_own (B : Nat) (x : Pl) : Go.Own (fun (_ : Unit) W => BoxP W B x) := fun s X Y row hs hg hrow => by
  refine (hg.block B (Array.getElem?_eq_some_iff.1 hs).1 fun e => ?_).trans hs
  obtain ⟨o, ho, hc⟩ := hrow B e.symm
  rw [show X.heap[B]? = _ from hs] at ho; cases ho; cases hc
theorem BoxP.cells {W : World} {B : Nat} {x : Pl} (h : BoxP W B x) : W.cell? ⟨B, 0, none⟩ = some (.string ⟨x.t.toArray⟩) ∧ W.cell? ⟨B, 1, none⟩ = some (.string ⟨x.m.p.toArray⟩) ∧ W.cell? ⟨B, 2, none⟩ = some (.int .u64 (x.m.n : Int)) := by
  unfold BoxP at h
  refine ⟨?_, ?_, ?_⟩ <;> simp [World.cell?, h]
theorem cells3_new (W : World) (u v z : Value) (T : TypeId) : ∀ j y, ([u, v, z] : List Value)[j]? = some y → (W.alloc (.cells #[u, v, z] T)).cell? ((⟨W.heap.size, 0, none⟩ : Addr).add j) = some y := by
  intro j y h
  rw [Go.WideShapes.add_plain, World.cell?_alloc_new, Nat.zero_add]
  simpa using h
set_option maxRecDepth 100000 in
set_option maxHeartbeats 2000000 in
theorem appendSeq_any (Bm b nn : Nat) (V : List Pl) (w : World) (hBm : Bm < w.heap.size) (hc : w.cell? ⟨Bm, 0, none⟩ = some (.map (some b))) (hV : PS w b nn V) (hnn : nn ≤ 1099511627776) :
    Calls Try.prog 73 #[.slice none 0 0, .func (.func 64) #[] #[.pointer (some ⟨Bm, 0, none⟩)]] w fun e w' =>
      ∃ v ss, e = .returned v ∧ ss.Nodup ∧ (∀ x, x ∈ ss ↔ x ∈ V) ∧ ss.length ≤ nn ∧ Row.Own pE 69 w' w.heap.size v ss ∧ Below w.heap.size w w' := by
  obtain ⟨i0, hi, hz0, hz1, hz2⟩ := typP.2
  refine callsIn_wide.1 (?_ : CallsIn Fence.wide 5 _ _ _ _ _)
  refine callsIn_of_wp_marks Try.func73 rfl trivial ?_ rfl
  simp only [Try.ntmps73, List.size_toArray, List.length_cons, List.length_nil, Nat.reduceAdd, Nat.reduceSub, Array.replicate_succ, Array.replicate_zero, List.push_toArray, List.append_toArray, List.nil_append, List.cons_append]
  gi_wp2
  have bO := Boxed.new w 98 (.slice none 0 0)
  have hB0 : Below w.heap.size w (w.alloc (.cells #[.slice none 0 0] 98)) := balloc (Below.refl _ _) _
  refine wpIn_rangeFunc_ownH (α := Pl) (encs := fun x => #[x.val]) (Kp := KeepsWalks) rfl (by decide) (gf := 64) (lb := #[.pointer (some ⟨Bm, 0, none⟩)]) rfl trivial (enters_of Try.func64 (by kernel_rfl) rfl)
    (keys_stops 4 (by decide) Bm b nn V _ (by simp; omega) ((hB0.cell (p := ⟨Bm, 0, none⟩) hBm).trans hc) (KMap.Is.alloc hV _)) (fun h k => h.trans k) (fun W l o o' _ h _ h2 => KeepsWalks.putObj o' h h2) (Below.refl _ _) (fun _ => rfl)
    (fun pre W => (∃ v, Boxed W w.heap.size 98 v ∧ W.ownsRow w.heap.size 69 3 v pre.length (Row.flat pE pre) ∧ True) ∧ Below w.heap.size w W)
    (fun _ _ _ => False)
    (OwnFrom.and (Own.from (holdsRow_own w.heap.size w.heap.size 98 69 3 (fun pre : List Pl => pre.length) (fun pre => Row.flat pE pre) (fun _ _ => True)) _) (ownFrom_below (Nat.le_refl _) (by simp)))
    (fun _ _ _ _ _ hs _ _ => hs)
    ⟨⟨_, bO, World.ownsRow_nil _ _ _ _, trivial⟩, hB0⟩
    (fun x a' W => ∃ Bx, BoxP W Bx x ∧ a' = { tmps := #[.slice none 0 0, .func (.func 64) #[] #[.pointer (some ⟨Bm, 0, none⟩)], .pointer (some ⟨w.heap.size, 0, none⟩), undef, .slice none 0 0, .pointer (some ⟨Bx, 0, none⟩), .func (.func 64) #[] #[.pointer (some ⟨Bm, 0, none⟩)], x.val, undef, undef, undef, undef, undef], defers := [] })
    (fun x a' s W W' row hs hg hr => by obtain ⟨Bx, h2, h3⟩ := hs; exact ⟨Bx, (boxP_own Bx x) s W W' row h2 hg (fun r e => (hr r e).2), h3⟩) ?assign ?body ?done ?stop
  case assign =>
    rintro l pre ⟨t, p, k⟩ W K ⟨⟨v, hv, hrow, -⟩, hB⟩ hK
    simp only [Pl.val] at hK ⊢
    gi_wp2
    exact hK _ _ ((KeepsOthers.alloc _ _).from _) (KeepsWalks.alloc _ _) ⟨⟨v, hv.alloc _, hrow.alloc _, trivial⟩, balloc hB _⟩ ⟨W.heap.size, World.alloc_heap_new W _, rfl⟩
  case body =>
    rintro l pre ⟨t, p, k⟩ a' W hl ⟨r, hr⟩ ⟨⟨v, hv, hrow, -⟩, hB⟩ ⟨Bx, hbx, rfl⟩ hlt
    obtain ⟨e1, e2, e3⟩ := hbx.cells
    obtain ⟨av, cv, rfl⟩ : ∃ a c, v = .slice a pre.length c := by
      rcases hrow.2 with ⟨rfl, h⟩ | ⟨g, c, cur, rfl, _⟩
      · exact ⟨none, 0, by rw [h]⟩
      · exact ⟨_, c, rfl⟩
    have hcv := hv.cell
    have hsz := hB.size
    simp only at e1 e2 e3
    clear hbx
    gi_wp2_with (gi_at_builtin; go_loud (refine wpListIn_append_own _ rfl _ _ 98 rfl w.heap.size 69 i0 (.agg #[.string ⟨#[]⟩, .string ⟨#[]⟩, .int .u64 0]) 3 40 Try.underlying98 hi hz0 hz1 hz2 rfl (by decide) _ _ _ rfl (hrow.alloc _) ⟨W.heap.size, 0, none⟩ 1 1 [.string ⟨t.toArray⟩, .string ⟨p.toArray⟩, .int .u64 (k : Int)] rfl rfl (cells3_new _ _ _ _ _) (by simp [Value.oneCell']) (by unfold maxLen; omega) (by omega) (by rw [World.size_alloc]; omega) ?_); intro v' w1 hown' hgrow _; obtain ⟨g', cap', rfl⟩ := ownsRow_succ hown'; obtain ⟨hv1, hv2, hr2, hk2, hb2⟩ := hv.appended (by decide) hrow hB.size (Nat.le_refl _) hown' hgrow; have hc1 := hv1.cell; have hf1 := hv1.frozen)
    refine ⟨hk2.from _, walks_of hk2, ⟨_, hv2, ?_, trivial⟩, hB.trans hb2⟩
    rw [Row.flat_append, List.length_append]
    exact hr2
  case done =>
    rintro D ys W hD ⟨hy1, hy2, hy3⟩ ⟨⟨v, hv, hrow, -⟩, hB⟩ hK
    have hcv := hv.cell
    gi_wp2
    refine ⟨by simp, .inl ⟨_, _, rfl, run_takeDeferred hK, ?_⟩⟩
    exact ⟨_, results_tmp rfl _ _ _, v, ys, rfl, hy1, hy2, hy3, ownsRow_putObj hrow _ hK rfl, hB.trans (belowK_b (w := w) (Nat.le_refl _) W D _ _ (by simp at hD; omega) hK rfl rfl)⟩
  case stop =>
    rintro D c pre W _ _ h _
    exact h.elim
theorem collect_any (Bm b nn : Nat) (V : List Pl) (w : World) (hBm : Bm < w.heap.size) (hc : w.cell? ⟨Bm, 0, none⟩ = some (.map (some b))) (hV : PS w b nn V) (hnn : nn ≤ 1099511627776) :
    Calls Try.prog 62 #[.func (.func 64) #[] #[.pointer (some ⟨Bm, 0, none⟩)]] w fun e w' =>
      ∃ v ss, e = .returned v ∧ ss.Nodup ∧ (∀ x, x ∈ ss ↔ x ∈ V) ∧ ss.length ≤ nn ∧ Row.Own pE 69 w' w.heap.size v ss ∧ Below w.heap.size w w' := by
  have A := Lib.hid (appendSeq_any Bm b nn V w hBm hc hV hnn)
  clear hc hV
  go_enter Try.func62, Try.ntmps62
  go_wp2_with fail
  refine A.out.mono ?_
  rintro e w1 ⟨v, ss, rfl, h1, h2, h4, h3, k1⟩
  have H := Lib.hid (And.intro h1 (And.intro h2 (And.intro h4 h3)))
  clear h1 h2 h3 h4
  go_wp2
  go_ret
  exact ⟨v, ss, rfl, H.out.1, H.out.2.1, H.out.2.2.1, H.out.2.2.2, k1⟩
end Bag
end Go.Proofs.Ytnlbgjghckbbcaa

namespace Go.Proofs.Ytnlbgjghckbbcaa
namespace Bag
open Go.RowKit Go.Shelf Go.Sort Go.Proofs.Ytnlbgjghckbbcaa.Mark Go.Proofs.Ytnlbgjghckbbcaa.Dots
set_option maxRecDepth 100000 in
set_option maxHeartbeats 2000000 in
theorem compare_grow (a b : M) (w : World) : Calls Try.prog 32 #[.agg (a.cells).toArray, .agg (b.cells).toArray] w fun e w' => e = .returned (.int .i64 (cmpD a b)) ∧ ∃ q os', w' = Sort.grow (w.drewN q) os' := by
  obtain ⟨p, n⟩ := a
  obtain ⟨q, x⟩ := b
  have S := Lib.hid (fun w => Try.strings_Compare ⟨p.toArray⟩ ⟨q.toArray⟩ w)
  have C := Lib.hid (fun w => cmpU_any n x w)
  have HV : Hid (cmpD ⟨p, n⟩ ⟨q, x⟩ = orV (Lib.compareBytes p q) (cmpI n x)) := Lib.hid rfl
  have c0 : ∀ T, ((w.alloc (.cells #[.string ⟨p.toArray⟩, .int .u64 (n : Int)] T)).alloc (.cells #[.string ⟨q.toArray⟩, .int .u64 (x : Int)] T)).cell? ⟨w.heap.size, 0, none⟩ = some (.string ⟨p.toArray⟩) := fun T => Lib.cell?_alloc_some _ (by rw [World.cell?_alloc_new]; rfl)
  have c1 : ∀ T, ((w.alloc (.cells #[.string ⟨p.toArray⟩, .int .u64 (n : Int)] T)).alloc (.cells #[.string ⟨q.toArray⟩, .int .u64 (x : Int)] T)).cell? ⟨w.heap.size, 1, none⟩ = some (.int .u64 (n : Int)) := fun T => Lib.cell?_alloc_some _ (by rw [World.cell?_alloc_new]; rfl)
  have c2 : ∀ T, ((w.alloc (.cells #[.string ⟨p.toArray⟩, .int .u64 (n : Int)] T)).alloc (.cells #[.string ⟨q.toArray⟩, .int .u64 (x : Int)] T)).cell? ⟨w.heap.size + 1, 0, none⟩ = some (.string ⟨q.toArray⟩) := fun T => by
    simp
  have c3 : ∀ T, ((w.alloc (.cells #[.string ⟨p.toArray⟩, .int .u64 (n : Int)] T)).alloc (.cells #[.string ⟨q.toArray⟩, .int .u64 (x : Int)] T)).cell? ⟨w.heap.size + 1, 1, none⟩ = some (.int .u64 (x : Int)) := fun T => by
    simp
  have HC := Lib.hid (And.intro c0 (And.intro c1 (And.intro c2 c3)))
  clear c0 c1 c2 c3
  obtain ⟨v, hv⟩ : ∃ u, u = cmpI n x := ⟨_, rfl⟩
  rw [← hv] at C HV
  clear hv
  have OR := Lib.hid (or_any (Lib.compareBytes p q) v)
  unfold M.cells
  simp only
  go_enter Try.func32, Try.ntmps32
  go_wp2_with fail
  obtain ⟨c0, c1, c2, c3⟩ := HC.out
  have c0 := c0 31
  have c1 := c1 31
  have c2 := c2 31
  have c3 := c3 31
  refine wp_region_noPanic ?_
  refine wp_region_held_drew (S := (fun w' => (w'.cell? ⟨w.heap.size, 0, none⟩ = some (.string ⟨p.toArray⟩) ∧ w'.cell? ⟨w.heap.size, 1, none⟩ = some (.int .u64 (n : Int))) ∧ w'.cell? ⟨w.heap.size + 1, 0, none⟩ = some (.string ⟨q.toArray⟩) ∧ w'.cell? ⟨w.heap.size + 1, 1, none⟩ = some (.int .u64 (x : Int)))) (by kernel_rfl) (⟨⟨c0, c1⟩, c2, c3⟩) (fun hHeld => ?_)
  refine wpAnyH_take (i := 0) (v := ?_) (by simp only [List.getElem?_toArray, List.getElem?_cons_zero]; rfl) (by kernel_rfl) (by kernel_rfl) (by kernel_rfl) (fun _ _ _ h => h) (Or.inl ⟨by rfl, ?_⟩) (by assumption) ?_
  rotate_left
  · (intro w hSw; (try dsimp only at hSw); go_simp; try with_reducible rfl)
  try simp only [Act.put, List.setIfInBounds_toArray, List.set_cons_zero, List.set_cons_succ]
  refine wpAnyH_take (i := 1) (v := ?_) (by simp only [List.getElem?_toArray, List.getElem?_cons_succ, List.getElem?_cons_zero]; rfl) (by kernel_rfl) (by kernel_rfl) (by kernel_rfl) (fun _ _ _ h => h) (Or.inl ⟨by rfl, ?_⟩) (by assumption) ?_
  rotate_left
  · (intro w hSw; (try dsimp only at hSw); go_simp; try with_reducible rfl)
  try simp only [Act.put, List.setIfInBounds_toArray, List.set_cons_zero, List.set_cons_succ]
  refine wpAnyH_take (i := 2) (v := ?_) (by simp only [List.getElem?_toArray, List.getElem?_cons_succ, List.getElem?_cons_zero]; rfl) (by kernel_rfl) (by kernel_rfl) (by kernel_rfl) (fun _ _ _ h => h) (Or.inl ⟨by rfl, ?_⟩) (by assumption) ?_
  rotate_left
  · (intro w hSw; (try dsimp only at hSw); go_simp; try with_reducible rfl)
  try simp only [Act.put, List.setIfInBounds_toArray, List.set_cons_zero, List.set_cons_succ]
  refine wpAnyH_take (i := 3) (v := ?_) (by simp only [List.getElem?_toArray, List.getElem?_cons_succ, List.getElem?_cons_zero]; rfl) (by kernel_rfl) (by kernel_rfl) (by kernel_rfl) (fun _ _ _ h => h) (Or.inl ⟨by rfl, ?_⟩) (by assumption) ?_
  rotate_left
  · (intro w hSw; (try dsimp only at hSw); go_simp; try with_reducible rfl)
  try simp only [Act.put, List.setIfInBounds_toArray, List.set_cons_zero, List.set_cons_succ]
  refine wpAnyH_take (i := 5) (v := ?_) (by simp only [List.getElem?_toArray, List.getElem?_cons_succ, List.getElem?_cons_zero]; rfl) (by kernel_rfl) (by kernel_rfl) (by kernel_rfl) (fun _ _ _ h => h) (Or.inl ⟨by rfl, ?_⟩) (by assumption) ?_
  rotate_left
  · (intro w hSw; (try dsimp only at hSw); go_simp; try with_reducible rfl)
  try simp only [Act.put, List.setIfInBounds_toArray, List.set_cons_zero, List.set_cons_succ]
  refine wpAnyH_take (i := 6) (v := ?_) (by simp only [List.getElem?_toArray, List.getElem?_cons_succ, List.getElem?_cons_zero]; rfl) (by kernel_rfl) (by kernel_rfl) (by kernel_rfl) (fun _ _ _ h => h) (Or.inl ⟨by rfl, ?_⟩) (by assumption) ?_
  rotate_left
  · (intro w hSw; (try dsimp only at hSw); go_simp; try with_reducible rfl)
  try simp only [Act.put, List.setIfInBounds_toArray, List.set_cons_zero, List.set_cons_succ]
  refine wpAnyH_take (i := 7) (v := ?_) (by simp only [List.getElem?_toArray, List.getElem?_cons_succ, List.getElem?_cons_zero]; rfl) (by kernel_rfl) (by kernel_rfl) (by kernel_rfl) (fun _ _ _ h => h) (Or.inl ⟨by rfl, ?_⟩) (by assumption) ?_
  rotate_left
  · (intro w hSw; (try dsimp only at hSw); go_simp; try with_reducible rfl)
  try simp only [Act.put, List.setIfInBounds_toArray, List.set_cons_zero, List.set_cons_succ]
  refine wpAnyH_take (i := 8) (v := ?_) (by simp only [List.getElem?_toArray, List.getElem?_cons_succ, List.getElem?_cons_zero]; rfl) (by kernel_rfl) (by kernel_rfl) (by kernel_rfl) (fun _ _ _ h => h) (Or.inl ⟨by rfl, ?_⟩) (by assumption) ?_
  rotate_left
  · (intro w hSw; (try dsimp only at hSw); go_simp; try with_reducible rfl)
  try simp only [Act.put, List.setIfInBounds_toArray, List.set_cons_zero, List.set_cons_succ]
  refine wpAnyH_ready (rs := [4]) (by kernel_rfl) (by simp) ?_
  refine AllReadyH.cons (by simp only [List.getElem?_toArray, List.getElem?_cons_succ, List.getElem?_cons_zero]; rfl) (fun K hK => ?_) AllReadyH.nil
  go_simp
  go_at_call 43
  refine (S.out _).mono ?_
  rintro e w' ⟨rfl, rfl⟩
  go_wp2_with fail
  refine hK.out _ _ (hHeld) (fun hHeld => ?_)
  clear hK K
  try simp only [Act.put, List.setIfInBounds_toArray, List.set_cons_zero, List.set_cons_succ]
  refine wpAnyH_ready (rs := [9]) (by kernel_rfl) (by simp) ?_
  refine AllReadyH.cons (by simp only [List.getElem?_toArray, List.getElem?_cons_succ, List.getElem?_cons_zero]; rfl) (fun K hK => ?_) AllReadyH.nil
  go_simp
  go_at_call 49
  refine (C.out _).mono ?_
  rintro e w' ⟨rfl, rfl⟩
  go_wp2_with fail
  refine hK.out _ _ (hHeld) (fun hHeld => ?_)
  clear hK K
  try simp only [Act.put, List.setIfInBounds_toArray, List.set_cons_zero, List.set_cons_succ]
  refine wpAnyH_ready (rs := [10]) (by kernel_rfl) (by simp) ?_
  refine AllReadyH.cons (by simp only [List.getElem?_toArray, List.getElem?_cons_succ, List.getElem?_cons_zero]; rfl) (fun K hK => ?_) AllReadyH.nil
  go_simp
  refine hK.out _ _ (⟨⟨Lib.cell?_alloc_some _ hHeld.1.1, Lib.cell?_alloc_some _ hHeld.1.2⟩, Lib.cell?_alloc_some _ hHeld.2.1, Lib.cell?_alloc_some _ hHeld.2.2⟩) (fun hHeld => ?_)
  clear hK K
  try simp only [Act.put, List.setIfInBounds_toArray, List.set_cons_zero, List.set_cons_succ]
  refine wpAnyH_ready (rs := [11]) (by kernel_rfl) (by simp) ?_
  refine AllReadyH.cons (by simp only [List.getElem?_toArray, List.getElem?_cons_succ, List.getElem?_cons_zero]; rfl) (fun K hK => ?_) AllReadyH.nil
  go_simp
  go_at_call 48
  refine (OR.out _ _ (new_cell _ _ _ 0 _ (by simp)) (new_cell _ _ _ 1 _ (by simp))).mono ?_
  rintro e w' ⟨rfl, rfl⟩
  go_wp2_with fail
  refine hK.out _ _ (hHeld) (fun hHeld => ?_)
  clear hK K
  try simp only [Act.put, List.setIfInBounds_toArray, List.set_cons_zero, List.set_cons_succ]
  refine wpAnyH_take (i := 12) (v := ?_) (by simp only [List.getElem?_toArray, List.getElem?_cons_succ, List.getElem?_cons_zero]; rfl) (by kernel_rfl) (by kernel_rfl) (by kernel_rfl) (fun _ _ _ h => h) (Or.inl ⟨by rfl, ?_⟩) (by assumption) ?_
  rotate_left
  · (intro w hSw; (try dsimp only at hSw); go_simp; try with_reducible rfl)
  try simp only [Act.put, List.setIfInBounds_toArray, List.set_cons_zero, List.set_cons_succ]
  refine wpAnyH_done (by kernel_rfl) ?_ _
  refine NoPanic.normal ?_
  go_wp2
  go_ret
  exact ⟨by rw [HV.out]; rfl, 1, _, by rw [Sort.alloc_eq_grow, Sort.alloc_eq_grow, Sort.alloc_eq_grow, Sort.grow_grow, Sort.grow_grow]; rfl⟩


instance : Inhabited Pl := ⟨⟨[], ⟨[], 0⟩⟩⟩
instance (a b : Pl) : Decidable (PL a b) := inferInstanceAs (Decidable (_ ∨ _))
theorem drewN_grow (w : World) (q : Nat) (os : Array Obj) : (Sort.grow w os).drewN q = Sort.grow (w.drewN q) os := rfl
set_option maxRecDepth 100000 in
set_option maxHeartbeats 2000000 in
theorem pcmp_any (x y : Pl) (w : World) : Calls Try.prog 47 #[.agg (x.cells).toArray, .agg (y.cells).toArray] w fun e w' => e = .returned (.int .i64 (pcmp x y)) ∧ ∃ q os', w' = Sort.grow (w.drewN q) os' := by
  obtain ⟨t, p, n⟩ := x
  obtain ⟨u, q, k⟩ := y
  have S := Lib.hid (fun w => Try.strings_Compare ⟨t.toArray⟩ ⟨u.toArray⟩ w)
  have C := Lib.hid (fun w => compare_grow ⟨p, n⟩ ⟨q, k⟩ w)
  have HV : Hid (pcmp ⟨t, ⟨p, n⟩⟩ ⟨u, ⟨q, k⟩⟩ = if Lib.compareBytes t u ≠ 0 then Lib.compareBytes t u else cmpD ⟨p, n⟩ ⟨q, k⟩) := Lib.hid rfl
  obtain ⟨z, hz⟩ : ∃ z, z = Lib.compareBytes t u := ⟨_, rfl⟩
  simp only at S
  rw [← hz] at S HV
  obtain ⟨o1, ho1⟩ : ∃ o, o = Obj.cells #[.string ⟨t.toArray⟩, .string ⟨p.toArray⟩, .int .u64 (n : Int)] 69 := ⟨_, rfl⟩
  obtain ⟨o2, ho2⟩ : ∃ o, o = Obj.cells #[.string ⟨u.toArray⟩, .string ⟨q.toArray⟩, .int .u64 (k : Int)] 69 := ⟨_, rfl⟩
  have c0 : ((w.alloc o1).alloc o2).cell? ⟨w.heap.size, 0, none⟩ = some (.string ⟨t.toArray⟩) := Lib.cell?_alloc_some _ (by rw [ho1, World.cell?_alloc_new]; rfl)
  have c1 : ((w.alloc o1).alloc o2).cell? ⟨w.heap.size, 1, none⟩ = some (.string ⟨p.toArray⟩) := Lib.cell?_alloc_some _ (by rw [ho1, World.cell?_alloc_new]; rfl)
  have c2 : ((w.alloc o1).alloc o2).cell? ⟨w.heap.size, 2, none⟩ = some (.int .u64 (n : Int)) := Lib.cell?_alloc_some _ (by rw [ho1, World.cell?_alloc_new]; rfl)
  have e0 : ((w.alloc o1).alloc o2).cell? ⟨w.heap.size + 1, 0, none⟩ = some (.string ⟨u.toArray⟩) := by rw [ho2]; simp
  have e1 : ((w.alloc o1).alloc o2).cell? ⟨w.heap.size + 1, 1, none⟩ = some (.string ⟨q.toArray⟩) := by rw [ho2]; simp
  have e2 : ((w.alloc o1).alloc o2).cell? ⟨w.heap.size + 1, 2, none⟩ = some (.int .u64 (k : Int)) := by rw [ho2]; simp
  have HG : Hid ((w.alloc o1).alloc o2 = Sort.grow w (#[o1] ++ #[o2])) := Lib.hid (by rw [Sort.alloc_eq_grow, Sort.alloc_eq_grow, Sort.grow_grow])
  unfold Pl.cells
  simp only
  go_enter Try.func47, Try.ntmps47
  go_upto_region 1 with (fail)
  rw [← ho1, ← ho2]
  obtain ⟨ws, hws⟩ : ∃ v, v = (w.alloc o1).alloc o2 := ⟨_, rfl⟩
  rw [← hws] at c0 c1 c2 e0 e1 e2 HG ⊢
  clear hws ho1 ho2 hz
  go_wp2_with fail
  refine (S.out _).mono ?_
  rintro e w' ⟨rfl, rfl⟩
  by_cases hzz : z = 0
  · have d1 : (z != 0) = false := by simp [hzz]
    have HE : Hid (pcmp ⟨t, ⟨p, n⟩⟩ ⟨u, ⟨q, k⟩⟩ = cmpD ⟨p, n⟩ ⟨q, k⟩) := Lib.hid (by rw [HV.out, if_neg (by simpa using hzz)])
    simp only [M.cells] at C
    clear hzz
    go_wp2_with fail
    refine (C.out _).mono ?_
    rintro e w1 ⟨rfl, j, os, rfl⟩
    go_wp2
    go_ret
    refine ⟨by rw [HE.out]; rfl, j, (#[o1] ++ #[o2]) ++ os, ?_⟩
    rw [HG.out, drewN_grow, Sort.grow_grow]
  · have d1 : (z != 0) = true := by simpa using hzz
    have HE : Hid (pcmp ⟨t, ⟨p, n⟩⟩ ⟨u, ⟨q, k⟩⟩ = z) := Lib.hid (by rw [HV.out, if_pos hzz])
    clear hzz
    go_wp2
    go_ret
    exact ⟨by rw [HE.out]; rfl, 0, _, HG.out⟩
theorem flatK_eq (L : List Pl) : flatK Pl.cells 3 L.toArray = (Row.flat pE L).toArray := by
  have hfl : (Row.flat pE L).length = L.length * 3 := Row.flat_length pE L
  apply Array.ext
  · simp [hfl]
  · intro j h1 h2
    have hj : j < L.length * 3 := by simpa using h1
    have e1 := get_flatK Pl.cells 3 L.toArray j (by simpa using hj)
    rw [getElem!_pos (flatK Pl.cells 3 L.toArray) j h1] at e1
    rw [e1]
    have hjd : j / 3 < L.length := by omega
    have hm : j % 3 < 3 := Nat.mod_lt _ (by decide)
    have hg := Row.flat_get pE L (j / 3) hjd (j % 3) hm
    have hL : L.toArray[j / 3]! = L[j / 3] := by rw [getElem!_pos L.toArray (j / 3) (by simpa using hjd)]; simp
    rw [hL]
    have h3 : (Row.flat pE L)[j]? = some ((Row.flat pE L).toArray[j]'h2) := by rw [List.getElem?_eq_getElem (by simpa using h2)]; simp
    rw [show j / 3 * pE.k + j % 3 = j by show j / 3 * 3 + j % 3 = j; omega, h3] at hg
    have h5 : j % 3 < (Pl.cells L[j / 3]).length := hm
    rw [show (pE.cells L[j / 3])[j % 3]? = some ((Pl.cells L[j / 3])[j % 3]) from List.getElem?_eq_getElem h5] at hg
    rw [Option.some.inj hg, getElem!_pos (Pl.cells L[j / 3]) (j % 3) h5]
theorem own_holds {w : World} {B : Nat} {T : TypeId} {g n cap : Nat} {L : List Pl} (h : w.ownsRow B T 3 (.slice (some ⟨g, 0, none⟩) n cap) n (Row.flat pE L)) (hn : L.length = n) : HoldsK Pl.cells 3 w g 0 L.toArray := by
  have hfl : (Row.flat pE L).length = L.length * 3 := Row.flat_length pE L
  unfold HoldsK
  rw [flatK_eq]
  intro j hj
  have hj' : j < n * 3 := by rw [← hn, ← hfl]; simpa using hj
  rw [Nat.zero_add]
  refine ⟨?_, h.frozenAt j⟩
  rw [h.cellAt j hj', List.getElem?_eq_getElem (by simpa using hj), getElem!_pos (Row.flat pE L).toArray j hj]; simp
theorem own_put {w : World} {B : Nat} {T : TypeId} {g n cap q : Nat} {xs ys : List Value} (h : w.ownsRow B T 3 (.slice (some ⟨g, 0, none⟩) n cap) n xs) (hy : ys.length = n * 3) :
    (putRow id (Sort.ahead w q) g 0 ys.toArray).ownsRow B T 3 (.slice (some ⟨g, 0, none⟩) n cap) n ys := by
  rcases h.2 with ⟨e0, _⟩ | ⟨g', cap', cur, e0, hb, hg, hn, hm, hs, ht⟩
  · cases e0
  · injection e0 with e1 _ e3
    injection e1 with e1
    injection e1 with e1
    subst e1; subst e3
    refine ⟨hy, .inr ⟨g, cap, putCells id 0 ys.toArray cur, rfl, hb, ?_, hn, hm, by simpa [putCells] using hs, ?_⟩⟩
    · simp [putRow, mapBlock, Sort.ahead, Array.getElem?_modify, hg, onCells]
    · apply List.ext_getElem?
      intro j
      rw [List.getElem?_take, Array.getElem?_toList]
      by_cases hj : j < n * 3
      · have hjc : j < cur.size := by omega
        simp only [if_pos hj, putCells, Array.getElem?_mapIdx, Array.getElem?_eq_getElem hjc, Option.map_some]
        rw [if_pos (by simp; omega), List.getElem?_eq_getElem (by omega)]
        simp [getElem!_pos, show j < ys.length by omega]
      · rw [if_neg hj, List.getElem?_eq_none (by omega)]
theorem ltp_iff (a b : Pl) : ltOf pcmp a b = decide (PL a b) := by
  show decide (pcmp a b < 0) = _
  rw [decide_eq_decide, pcmp_neg]
theorem swoP : SWO (ltOf pcmp) where
  irrefl x := by rw [ltp_iff]; exact decide_eq_false (linP.irr x)
  trans x y z h1 h2 := by
    rw [ltp_iff, decide_eq_true_eq] at *
    exact linP.trans h1 h2
  ntrans x y z h1 h2 := by
    rw [ltp_iff, decide_eq_false_iff_not] at *
    intro h
    rcases linP.ways x y with k | k | k
    · exact h1 k
    · subst k; exact h2 h
    · exact h2 (linP.trans k h)
set_option maxRecDepth 100000 in
set_option maxHeartbeats 1000000 in
theorem sort_any (L : List Pl) (q cap B : Nat) (w : World) (hB : B ≤ w.heap.size) (hO : Row.Own pE 69 w B (.slice (some ⟨q, 0, none⟩) L.length cap) L) (hn : L.length ≤ 1099511627776) :
    Calls Try.prog 63 #[.slice (some ⟨q, 0, none⟩) L.length cap, .func (.func 47) #[] #[]] w fun e w' =>
      ∃ S : List Pl, e = .returned (.tuple #[]) ∧ S.Perm L ∧ S.Pairwise (fun a b => ¬ PL b a) ∧ S.length = L.length ∧ Row.Own pE 69 w' B (.slice (some ⟨q, 0, none⟩) L.length cap) S ∧ Below B w w' := by
  have hO' : w.ownsRow B 69 3 (.slice (some ⟨q, 0, none⟩) L.length cap) L.length (Row.flat pE L) := hO
  have hBq := (hO'.lt q rfl).1
  have hlt := (hO'.lt q rfl).2
  have eg : ∀ args w, (callFunc 47 args).run Try.prog w = .ok (.enter 47 args) w := enters_of Try.func47 (by kernel_rfl) rfl
  have hcon := AnyQ.slices_SortFunc Try.sortPlace 3 (fun _ => by kernel_rfl) (fun _ => by kernel_rfl) Pl.cells (fun _ => rfl) (fun x v hv => pE.one x v hv) pcmp swoP 47 #[] q 0 cap L.toArray w eg (fun m os dk _ x y => pcmp_any x y _) (own_holds hO' rfl) hlt (by simp; omega)
  change Calls Try.prog 63 _ _ _ at hcon
  rw [List.size_toArray] at hcon
  refine hcon.mono ?_
  rintro e w' ⟨rfl, d', n, os, hp, hs, rfl⟩
  obtain ⟨S⟩ := d'
  obtain ⟨hp1, _, hp2⟩ := hp
  have hlen : S.length = L.length := by simpa using hp1
  have hfl : (Row.flat pE S).length = S.length * 3 := Row.flat_length pE S
  refine ⟨S, rfl, ?_, ?_, hlen, ?_, ?_⟩
  · have e1 : (S.toArray.extract 0 L.length).toList = S := by simp [← hlen]
    have e2 : (L.toArray.extract 0 L.length).toList = L := by simp
    rw [e1, e2] at hp2; exact hp2
  · rw [List.pairwise_iff_getElem]
    intro i j hi hj hij
    have h := hs i j (Nat.zero_le _) hij (by omega)
    rw [getElem!_pos S.toArray i (by simpa using hi), getElem!_pos S.toArray j (by simpa using hj)] at h
    rw [ltp_iff, decide_eq_false_iff_not] at h
    simpa using h
  · unfold sortWorldK putRowK
    rw [flatK_eq]
    have h1 := own_put (q := n) (ys := Row.flat pE S) hO' (by rw [hfl, hlen])
    have h2 : Row.Own pE 69 (putRow id (Sort.ahead w n) q 0 (Row.flat pE S).toArray) B (.slice (some ⟨q, 0, none⟩) L.length cap) S := by unfold Row.Own; rw [hlen]; exact h1
    exact h2.below (grow_below _ 0 _)
  · unfold sortWorldK putRowK
    rw [flatK_eq]
    have h3 := below_put (q := n) (d := (Row.flat pE S).toArray) (Below.refl B w) hBq
    exact h3.trans ((grow_below _ 0 os).mono (Nat.le_trans hB h3.size))
/-- Sorted, each once: rising. -/
theorem rising {S : List Pl} (h : S.Pairwise (fun a b => ¬ PL b a)) (hn : S.Nodup) : S.Pairwise PL := by
  refine (List.Pairwise.and h hn).imp ?_
  rintro a b ⟨h1, h2⟩
  rcases linP.ways a b with k | k | k
  · exact k
  · exact absurd k h2
  · exact absurd k h1
end Bag
end Go.Proofs.Ytnlbgjghckbbcaa

namespace Go.Proofs.Ytnlbgjghckbbcaa
namespace Bag
open Go.RowKit Go.Proofs.Ytnlbgjghckbbcaa.Mark Go.Proofs.Ytnlbgjghckbbcaa.Dots
abbrev OwnI (w : World) (B : Nat) (v : Value) (J : List RI) : Prop := Row.Own iE 42 w B v J
abbrev OwnD (w : World) (B : Nat) (v : Value) (d : List M) : Prop := Row.Own dE 31 w B v d
abbrev OwnP (w : World) (B : Nat) (v : Value) (L : List Pl) : Prop := Row.Own pE 69 w B v L
/-- Rows of unlike types lie in unlike blocks. -/
theorem rows_ne {α β : Type} {E1 : Row.Enc α} {E2 : Row.Enc β} {t1 t2 : TypeId} {w : World} {B1 B2 : Nat} {v1 v2 : Value} {L1 : List α} {L2 : List β} (h1 : Row.Own E1 t1 w B1 v1 L1) (h2 : Row.Own E2 t2 w B2 v2 L2) (hne : t1 ≠ t2) : v1.ownBlock = none ∨ v1.ownBlock ≠ v2.ownBlock := by
  rcases h1.2 with ⟨rfl, _⟩ | ⟨g1, c1, u1, rfl, _, hg1, _⟩
  · exact .inl rfl
  · refine .inr fun e => ?_
    rcases h2.2 with ⟨rfl, _⟩ | ⟨g2, c2, u2, rfl, _, hg2, _⟩
    · cases e
    · simp only [Value.ownBlock, Option.some.injEq] at e
      have e : g1 = g2 := by simpa using e
      subst e
      rw [hg1] at hg2
      simp only [Option.some.injEq, Obj.cells.injEq] at hg2
      exact hne hg2.2.1
theorem ne_DI : 31 ≠ 42 := by decide
theorem ne_PI : 69 ≠ 42 := by decide
theorem ne_PD : 69 ≠ 31 := by decide
def RI.v (x : RI) : Value := .slice x.a x.d.length x.c
structure Out (w : World) (B : Nat) (v : Value) (J : List RI) : Prop where
  row : OwnI w B v J
  last : ∀ J0 x, J = J0 ++ [x] → ∃ C, B ≤ C ∧ C ≤ w.heap.size ∧ (∀ y ∈ J0, OwnD w B y.v y.d ∧ ∀ k, y.v.ownBlock = some k → k < C) ∧ OwnD w C x.v x.d
variable {w w' : World} {B : Nat} {v : Value} {J : List RI}
theorem Out.nil (w : World) (B : Nat) : Out w B (.slice none 0 0) [] := ⟨Row.Own.nil _ _, fun J0 x e => by simp at e⟩
theorem Out.below (h : Out w B v J) (k : Below w.heap.size w w') : Out w' B v J :=
  ⟨h.row.below k, fun J0 x e => by
    obtain ⟨C, h1, h2, h3, h4⟩ := h.last J0 x e
    exact ⟨C, h1, Nat.le_trans h2 k.size, fun y hy => ⟨(h3 y hy).1.below k, (h3 y hy).2⟩, h4.below k⟩⟩
/-- Each item's dots. -/
theorem Out.dots (h : Out w B v J) : ∀ y ∈ J, OwnD w B y.v y.d := fun y hy => by
  rcases nil_or_snoc J with rfl | ⟨J0, x, rfl⟩
  · cases hy
  · obtain ⟨C, h1, _, h3, h4⟩ := h.last J0 x rfl
    rcases List.mem_append.1 hy with hy | hy
    · exact (h3 y hy).1
    · rw [List.mem_singleton.1 hy]; exact h4.base h1
theorem own_inner {C : Nat} {y : RI} (h : OwnD w C y.v y.d) : Inner w y := by
  obtain ⟨a, c, e, _, _, hl, _⟩ := Row.Own.lies h
  unfold RI.v at e
  simp only [Value.slice.injEq] at e
  obtain ⟨rfl, -, -⟩ := e
  exact hl
/-- Items that lie, in rows of a call's own, of blocks from B on. -/
structure Had (w : World) (B : Nat) (a : Option Addr) (n c : Nat) (R : List It) : Prop where
  lies : Lies w a n R
  mine : ∃ J : List RI, J.map RI.it = R ∧ OwnI w B (.slice a n c) J ∧ ∀ y ∈ J, OwnD w B y.v y.d
theorem Had.base {w : World} {B B' : Nat} {a : Option Addr} {n c : Nat} {R : List It} (h : Had w B a n c R) (k : B' ≤ B) : Had w B' a n c R := by
  obtain ⟨h1, J, h2, h3, h4⟩ := h
  exact ⟨h1, J, h2, Row.Own.base h3 k, fun y hy => Row.Own.base (h4 y hy) k⟩
theorem Had.below {w w' : World} {B : Nat} {a : Option Addr} {n c : Nat} {R : List It} (h : Had w B a n c R) (k : Below w.heap.size w w') : Had w' B a n c R := by
  obtain ⟨h1, J, h2, h3, h4⟩ := h
  exact ⟨h1.below k, J, h2, Row.Own.below h3 k, fun y hy => Row.Own.below (h4 y hy) k⟩
theorem Had.nil (w : World) (B : Nat) : Had w B none 0 0 [] := ⟨Lies.nil _ _, [], rfl, Row.Own.nil _ _, fun y hy => by cases hy⟩
theorem Out.lies (h : Out w B v J) : ∃ a c, v = .slice a J.length c ∧ Had w B a J.length c (J.map RI.it) := by
  have hr := h.row
  obtain ⟨a, c, rfl, _, _, hl, _⟩ := Row.Own.lies h.row
  exact ⟨a, c, rfl, ⟨J, rfl, hl, fun y hy => own_inner (h.dots y hy)⟩, J, rfl, hr, h.dots⟩
/-- One more item, without dots. -/
theorem Out.new (h : Out w B v J) (hB : B ≤ w.heap.size) {v' : Value} {t : List UInt8} (ho : OwnI w' B v' (J ++ [⟨t, none, 0, []⟩])) (hg : w.grownBy w' v.ownBlock) : Out w' B v' (J ++ [⟨t, none, 0, []⟩]) :=
  ⟨ho, fun J0 x e => by
    obtain ⟨rfl, rfl⟩ : J0 = J ∧ x = ⟨t, none, 0, []⟩ := by
      have := List.append_inj' e rfl
      exact ⟨this.1.symm, (List.singleton_inj.1 this.2).symm⟩
    refine ⟨w.heap.size, hB, hg.size, fun y hy => ?_, Row.Own.nil _ _⟩
    have hy := h.dots y hy
    exact ⟨World.ownsRow.kept hy hg (rows_ne hy h.row ne_DI), fun k hk => (hy.lt k hk).2⟩⟩
theorem flat_set1 : ∀ (L : List RI) (x X : RI), x.t = X.t → (Row.flat iE (L ++ [x])).set (L.length * 2 + 1) (.slice X.a X.d.length X.c) = Row.flat iE (L ++ [X])
  | [], x, X, h => by
    show [Value.string ⟨x.t.toArray⟩, .slice x.a x.d.length x.c].set 1 _ = [Value.string ⟨X.t.toArray⟩, .slice X.a X.d.length X.c]
    rw [h]; rfl
  | y :: L, x, X, h => by
    rw [List.cons_append, List.cons_append, Row.flat_cons, Row.flat_cons, ← flat_set1 L x X h, List.length_cons, show (L.length + 1) * 2 + 1 = (L.length * 2 + 1) + 1 + 1 by omega]
    rfl
/-- The last item's dots have grown. -/
theorem Out.push {J0 : List RI} {x : RI} (h : Out w B v (J0 ++ [x])) {C : Nat} (hC : B ≤ C) (hCw : C ≤ w.heap.size) (h3 : ∀ y ∈ J0, OwnD w B y.v y.d ∧ ∀ k, y.v.ownBlock = some k → k < C) (h4 : OwnD w C x.v x.d)
    {g n c : Nat} (hv : v = .slice (some ⟨g, 0, none⟩) n c) {X : RI} (hX : x.t = X.t) (ho : OwnD w' C X.v X.d) (hg : w.grownBy w' x.v.ownBlock) :
    Out (w'.setCell ⟨g, J0.length * 2 + 1, none⟩ (.slice X.a X.d.length X.c)) B v (J0 ++ [X]) := by
  subst hv
  have hr : OwnI w' B (.slice (some ⟨g, 0, none⟩) n c) (J0 ++ [x]) := World.ownsRow.kept h.row hg (by
    rcases rows_ne h4 h.row ne_DI with e | e
    · rw [e]; exact .inr (by simp [Value.ownBlock])
    · exact .inr e.symm)
  have hrr : w'.ownsRow B 42 2 (.slice (some ⟨g, 0, none⟩) n c) n (Row.flat iE (J0 ++ [x])) := by
    have hn : n = (J0 ++ [x]).length := by
      obtain ⟨_, _, _, e, _⟩ := Row.Own.row hr
      exact e
    rw [hn]
    rw [hn] at hr
    exact hr
  obtain ⟨s1, s2⟩ := World.ownsRow.stored hrr (J0.length * 2 + 1) (.slice X.a X.d.length X.c)
  rw [flat_set1 J0 x X hX] at s1
  have hn : n = (J0 ++ [X]).length := by
    obtain ⟨_, _, _, e, _⟩ := Row.Own.row hr
    rw [e]; simp
  have hself : OwnI w' B (.slice (some ⟨g, 0, none⟩) n c) (J0 ++ [x]) := hr
  refine ⟨by subst hn; exact s1, fun J1 y e => ?_⟩
  obtain ⟨rfl, rfl⟩ : J1 = J0 ∧ y = X := by
    have := List.append_inj' e rfl
    exact ⟨this.1.symm, (List.singleton_inj.1 this.2).symm⟩
  have hset : ∀ {B2 : Nat} {y : RI}, OwnD w' B2 y.v y.d → OwnD (w'.setCell ⟨g, J1.length * 2 + 1, none⟩ (.slice y.a y.d.length y.c)) B2 y.v y.d := fun {B2 y} hh => by
    have s2' := (World.ownsRow.stored hrr (J1.length * 2 + 1) (.slice y.a y.d.length y.c)).2
    exact World.ownsRow.kept hh s2' (rows_ne hh hself ne_DI)
  refine ⟨C, hC, Nat.le_trans hCw (Nat.le_trans hg.size s2.size), fun z hz => ?_, World.ownsRow.kept ho s2 (rows_ne ho hself ne_DI)⟩
  obtain ⟨z1, z2⟩ := h3 z hz
  have z3 : OwnD w' B z.v z.d := World.ownsRow.kept z1 hg (by
    cases hb : z.v.ownBlock with
    | none => exact .inl rfl
    | some k =>
      refine .inr fun e => ?_
      have h5 := (h4.lt k e.symm).1
      have h6 := z2 k hb
      omega)
  exact ⟨World.ownsRow.kept z3 s2 (rows_ne z3 hself ne_DI), z2⟩
/-- The sorted places stand while items are laid. -/
theorem places_stand {C : Nat} {u : Value} {L : List Pl} (h : OwnP w C u L) (k : w.grownBy w' v.ownBlock) (ho : OwnI w B v J) : OwnP w' C u L := World.ownsRow.kept h k (rows_ne h ho ne_PI)
theorem places_standD {C : Nat} {u : Value} {L : List Pl} {d : List M} (h : OwnP w C u L) (k : w.grownBy w' v.ownBlock) (ho : OwnD w B v d) : OwnP w' C u L := World.ownsRow.kept h k (rows_ne h ho ne_PD)
end Bag
end Go.Proofs.Ytnlbgjghckbbcaa

namespace Go.Proofs.Ytnlbgjghckbbcaa
namespace Bag
open Go.RowKit Go.Shelf Go.Sort Go.Proofs.Ytnlbgjghckbbcaa.Mark Go.Proofs.Ytnlbgjghckbbcaa.Dots
set_option maxRecDepth 100000 in
set_option maxHeartbeats 1000000 in
theorem sorted_any (Bm b nn : Nat) (V : List Pl) (w : World) (hBm : Bm < w.heap.size) (hc : w.cell? ⟨Bm, 0, none⟩ = some (.map (some b))) (hV : PS w b nn V) (hnn : nn ≤ 1099511627776) :
    Calls Try.prog 45 #[.func (.func 64) #[] #[.pointer (some ⟨Bm, 0, none⟩)], .func (.func 47) #[] #[]] w fun e w' =>
      ∃ v L, e = .returned v ∧ L.Pairwise PL ∧ (∀ x, x ∈ L ↔ x ∈ V) ∧ L.length ≤ nn ∧ OwnP w' w.heap.size v L ∧ Below w.heap.size w w' := by
  have C := Lib.hid (collect_any Bm b nn V w hBm hc hV hnn)
  clear hc hV
  go_enter Try.func45, Try.ntmps45
  go_wp2_with fail
  refine C.out.mono ?_
  rintro e w1 ⟨v, ss, rfl, h1, h2, h3, ho, k1⟩
  have H := Lib.hid (And.intro h1 (And.intro h2 h3))
  have HK := Lib.hid k1
  clear h1 h2 k1
  obtain ⟨a, c, rfl, -, -, -, -⟩ := Row.Own.lies ho
  have HO := Lib.hid ho
  clear ho
  rcases List.eq_nil_or_concat ss with rfl | hne
  · have N := Lib.hid (fun W => AnyF.slices_SortFunc_none Try.sortPlace a c (.func (.func 47) #[] #[]) W)
    go_wp2_with fail
    have N' := N.out w1
    change Calls Try.prog 63 _ _ _ at N'
    refine N'.mono ?_
    rintro e w' ⟨rfl, rfl⟩
    go_wp2
    go_ret
    exact ⟨_, [], rfl, List.Pairwise.nil, H.out.2.1, Nat.zero_le _, HO.out, HK.out⟩
  · obtain ⟨q, rfl⟩ : ∃ q, a = some ⟨q, 0, none⟩ := by
      rcases HO.out.2 with ⟨e1, e2⟩ | ⟨g', cap', cur, e0, _⟩
      · obtain ⟨Q, x, e⟩ := hne
        rw [e] at e2
        simp at e2
      · simp only [Value.slice.injEq] at e0
        exact ⟨g', e0.1⟩
    have SO := Lib.hid (sort_any ss q c w.heap.size w1 HK.out.size HO.out (by omega))
    clear hne HO
    go_wp2_with fail
    refine SO.out.mono ?_
    rintro e w2 ⟨L, rfl, hp, hs, hl, ho2, k2⟩
    have HP := Lib.hid hp
    have HS := Lib.hid hs
    have HL := Lib.hid hl
    have HO2 := Lib.hid ho2
    clear hp hs hl ho2
    go_wp2
    go_ret
    exact ⟨.slice (some ⟨q, 0, none⟩) ss.length c, L, rfl, rising HS.out (HP.out.nodup_iff.2 H.out.1), fun x => (HP.out.mem_iff).trans (H.out.2.1 x), by rw [HL.out]; exact H.out.2.2, HO2.out, HK.out.trans k2⟩

/-- Does the place begin a text? -/
def nz (J : List RI) (t : List UInt8) : Bool := match J.getLast? with | none => true | some x => x.t != t
theorem nz_nil (t : List UInt8) : nz [] t = true := rfl
theorem nz_snoc (J : List RI) (x : RI) (t : List UInt8) : nz (J ++ [x]) t = (x.t != t) := by unfold nz; rw [List.getLast?_concat]
theorem nz_new {J : List RI} {t : List UInt8} (h : nz J t = true) (m : M) : gstep (J.map RI.it) ⟨t, m⟩ = J.map RI.it ++ [⟨t, [m]⟩] := by
  rcases nil_or_snoc J with rfl | ⟨J0, x, rfl⟩
  · rfl
  · rw [nz_snoc] at h
    rw [List.map_append, show [x].map RI.it = [x.it] from rfl, gstep_new _ _ _ (show x.it.t ≠ t by simpa [RI.it] using h)]
theorem nz_old {J : List RI} {t : List UInt8} (h : nz J t = false) (m : M) : ∃ J0 x, J = J0 ++ [x] ∧ x.t = t ∧ gstep (J.map RI.it) ⟨t, m⟩ = J0.map RI.it ++ [⟨t, x.d ++ [m]⟩] := by
  rcases nil_or_snoc J with rfl | ⟨J0, x, rfl⟩
  · cases h
  · rw [nz_snoc] at h
    have e : x.t = t := by simpa using h
    refine ⟨J0, x, rfl, e, ?_⟩
    rw [List.map_append, show [x].map RI.it = [x.it] from rfl, gstep_same _ _ _ (show x.it.t = t from e)]
    subst e
    rfl
theorem BoxP.below {W W' : World} {pb : Nat} {x : Pl} (h : BoxP W pb x) (k : Below W.heap.size W W') : BoxP W' pb x := (k.block pb (Array.getElem?_eq_some_iff.1 h).1).trans h
theorem BoxP.ne {α : Type} {E : Row.Enc α} {te : TypeId} {W : World} {pb B : Nat} {v : Value} {L : List α} {x : Pl} (h : BoxP W pb x) (ho : Row.Own E te W B v L) (hne : te ≠ 69) : v.ownBlock ≠ some pb := fun e => by
  rcases ho.2 with ⟨rfl, _⟩ | ⟨g, c, u, rfl, _, hg, _⟩
  · cases e
  · have e : g = pb := by simpa [Value.ownBlock] using e
    subst e
    have h' : W.heap[g]? = _ := h
    rw [hg] at h'
    simp only [Option.some.injEq, Obj.cells.injEq] at h'
    exact hne h'.2.1
theorem BoxP.stand {α : Type} {E : Row.Enc α} {te : TypeId} {W W' : World} {pb B : Nat} {v : Value} {L : List α} {x : Pl} (h : BoxP W pb x) (k : W.grownBy W' v.ownBlock) (ho : Row.Own E te W B v L) (hne : te ≠ 69) : BoxP W' pb x :=
  (k.block pb (Array.getElem?_eq_some_iff.1 h).1 (fun e => h.ne ho hne e.symm)).trans h
theorem ptrI {w : World} {B : Nat} {v : Value} {J0 : List RI} {x : RI} (h : OwnI w B v (J0 ++ [x])) : ∃ g c, v = .slice (some ⟨g, 0, none⟩) (J0.length + 1) c ∧ w.cell? ⟨g, J0.length * 2, none⟩ = some (.string ⟨x.t.toArray⟩) ∧ w.cell? ⟨g, J0.length * 2 + 1, none⟩ = some x.v ∧ w.frozen? ⟨g, J0.length * 2 + 1, none⟩ = false ∧ B ≤ g ∧ g < w.heap.size := by
  rcases h.2 with ⟨_, e⟩ | ⟨g, c, u, e, hB, hg, hn, hm, hs, ht⟩
  · simp at e
  · have hr : w.ownsRow B 42 2 (.slice (some ⟨g, 0, none⟩) (J0 ++ [x]).length c) (J0 ++ [x]).length (Row.flat iE (J0 ++ [x])) := by
      have := h
      rw [e] at this
      exact this
    refine ⟨g, c, by rw [e, List.length_append]; rfl, ?_, ?_, ?_, hB, (Array.getElem?_eq_some_iff.1 hg).1⟩
    · rw [hr.cellAt _ (by rw [List.length_append, List.length_singleton]; omega)]
      have := Row.flat_get iE (J0 ++ [x]) J0.length (by simp) 0 (by decide)
      rw [show J0.length * iE.k + 0 = J0.length * 2 from rfl] at this
      rw [this, List.getElem_append_right (Nat.le_refl _)]
      simp [iE, RI.cells]
    · rw [hr.cellAt _ (by rw [List.length_append, List.length_singleton]; omega)]
      have := Row.flat_get iE (J0 ++ [x]) J0.length (by simp) 1 (by decide)
      rw [show J0.length * iE.k + 1 = J0.length * 2 + 1 from rfl] at this
      rw [this, List.getElem_append_right (Nat.le_refl _)]
      simp [iE, RI.cells, RI.v]
    · exact hr.frozenAt _
theorem grown_set (W : World) (g j : Nat) (u : Value) : W.grownBy (W.setCell ⟨g, j, none⟩ u) (some g) := ⟨rfl, rfl, rfl, (KeepsWalks.setCell W _ u).size, fun k _ hk => Below.heap_setCell _ _ _ k (fun e => hk (by rw [e]))⟩
theorem BoxP.set {W : World} {pb : Nat} {x : Pl} (h : BoxP W pb x) {g j : Nat} {u : Value} (hne : g ≠ pb) : BoxP (W.setCell ⟨g, j, none⟩ u) pb x := (Below.heap_setCell W _ _ pb (by exact fun e => hne e.symm)).trans h
set_option maxRecDepth 100000 in
set_option maxHeartbeats 4000000 in
theorem items_any (b nn : Nat) (V : List Pl) (w : World) (hV : PS w b nn V) (hnn : nn ≤ 1099511627776) :
    Calls Try.prog 28 #[.map (some b)] w fun e w' =>
      ∃ a c R, e = .returned (.slice a R.length c) ∧ IsBag R (fun t m => (⟨t, m⟩ : Pl) ∈ V) ∧ R.length ≤ nn ∧ Had w' w.heap.size a R.length c R ∧ Below w.heap.size w w' := by
  have hb1 := balloc (Below.refl w.heap.size w) (.cells #[.map (some b)] 64)
  have SO := Lib.hid (sorted_any w.heap.size b nn V (w.alloc (.cells #[.map (some b)] 64)) (by simp) (by rw [World.cell?_alloc_new]; rfl) (KMap.Is.alloc hV _) hnn)
  clear hV
  go_enter Try.func28, Try.ntmps28
  go_wp2_with fail
  refine (keys_any b w).mono ?_
  rintro e w1 ⟨rfl, rfl⟩
  go_wp2_with fail
  refine SO.out.mono ?_
  rintro e w2 ⟨v, L, rfl, h1, h2, h3, ho, k1⟩
  have HP := Lib.hid (And.intro h1 h2)
  have hb := bstep hb1 k1
  have HO : Hid (OwnP w2 w.heap.size v L) := Lib.hid (Row.Own.base ho (by simp))
  obtain ⟨N, hN⟩ : ∃ n, n = L.length := ⟨_, rfl⟩
  obtain ⟨sa, sc, rfl, -, -, -, -⟩ := Row.Own.lies ho
  rw [← hN] at HO ⊢
  have HN := Lib.hid hN
  have HNN : Hid (N ≤ nn) := Lib.hid (by rw [hN]; exact h3)
  have O0 := Lib.hid (Out.nil w2 w.heap.size)
  have G0 : Hid (([] : List RI).map RI.it = group (L.take 0)) := Lib.hid rfl
  clear h1 h2 h3 ho k1 hb1 SO hN
  go_wp2_with fail
  go_loopw [4, 13] (fun ov iv wr => ∃ (k : Nat) (J : List RI), k ≤ N ∧ iv = .int .i64 k ∧ Hid (J.map RI.it = group (L.take k)) ∧ Hid (Out wr w.heap.size ov J) ∧ Hid (OwnP wr w.heap.size (.slice sa N sc) L) ∧ Hid (J.length ≤ k ∧ ∀ y ∈ J, y.d.length ≤ k) ∧ Below w.heap.size w wr) (fun _ iv _ => N - (intOf iv).toNat)
  case atStart => exact ⟨0, [], by omega, rfl, G0, O0, HO, Lib.hid ⟨Nat.le_refl _, fun y hy => (List.not_mem_nil hy).elim⟩, hb⟩
  case round =>
    clear G0 O0 HO hb
    obtain ⟨k, J, hk, rfl, HG, OU, HO, HJ, hb⟩ := hrel
    by_cases hlt : k < N
    rotate_left
    · obtain rfl : k = N := by omega
      have d1 : decide ((k : Int) < (k : Int)) = false := decide_eq_false (by omega)
      obtain ⟨a, c, rfl, hl⟩ := OU.out.lies
      have HL := Lib.hid hl
      have HB : Hid (IsBag (J.map RI.it) (fun t m => (⟨t, m⟩ : Pl) ∈ V)) := Lib.hid (by
        rw [HG.out, List.take_of_length_le (by have := HN.out; omega)]
        exact (group_law _ L rfl HP.out.1).congr fun t m => HP.out.2 _)
      clear hl
      go_wp2
      go_ret
      refine ⟨a, c, J.map RI.it, by rw [List.length_map]; rfl, HB.out, by rw [List.length_map]; have := HNN.out; have := HJ.out.1; omega, by rw [List.length_map]; exact HL.out, hb⟩
    have d1 : decide ((k : Int) < (N : Int)) = true := decide_eq_true (by omega)
    have j1 : (0 : Int) ≤ (k : Int) := by omega
    have j2 : (k : Int) < (N : Int) := by omega
    have hkl : k < L.length := by have := HN.out; omega
    obtain ⟨_, _, e, -, -, hl, -⟩ := Row.Own.lies HO.out
    simp only [Value.slice.injEq] at e
    obtain ⟨rfl, -, rfl⟩ := e
    obtain ⟨sb, so, rfl, hc⟩ := places_at hl (by omega)
    obtain ⟨c0, c1, c2⟩ := hc k hkl
    have hgs : group (L.take (k + 1)) = gstep (group (L.take k)) L[k] := by rw [List.take_succ_eq_append_getElem hkl, group_snoc]
    obtain ⟨x, hx⟩ : ∃ x, x = L[k] := ⟨_, rfl⟩
    rw [← hx] at c0 c1 c2 hgs
    rw [← HG.out] at hgs
    have HGS := Lib.hid hgs
    have HK := Lib.hid (And.intro hlt HJ.out)
    obtain ⟨t, p, n⟩ := x
    simp only at c0 c1 c2
    clear hc hl hx hgs hlt HJ hkl HG
    go_upto_region 6 with (fail)
    have kD := balloc (Below.refl wr.heap.size wr) (.cells #[.string ⟨t.toArray⟩, .string ⟨p.toArray⟩, .int .u64 (n : Int)] 69)
    have f0 : (wr.alloc (.cells #[.string ⟨t.toArray⟩, .string ⟨p.toArray⟩, .int .u64 (n : Int)] 69)).cell? ⟨wr.heap.size, 0, none⟩ = some (.string ⟨t.toArray⟩) := by rw [World.cell?_alloc_new]; rfl
    have f1 : (wr.alloc (.cells #[.string ⟨t.toArray⟩, .string ⟨p.toArray⟩, .int .u64 (n : Int)] 69)).cell? ⟨wr.heap.size, 1, none⟩ = some (.string ⟨p.toArray⟩) := by rw [World.cell?_alloc_new]; rfl
    have f2 : (wr.alloc (.cells #[.string ⟨t.toArray⟩, .string ⟨p.toArray⟩, .int .u64 (n : Int)] 69)).cell? ⟨wr.heap.size, 2, none⟩ = some (.int .u64 (n : Int)) := by rw [World.cell?_alloc_new]; rfl
    have hpb : (wr.alloc (.cells #[.string ⟨t.toArray⟩, .string ⟨p.toArray⟩, .int .u64 (n : Int)] 69)).heap[wr.heap.size]? = some (.cells #[.string ⟨t.toArray⟩, .string ⟨p.toArray⟩, .int .u64 (n : Int)] 69) := World.alloc_heap_new _ _
    obtain ⟨pb, hdb⟩ : ∃ b, b = wr.heap.size := ⟨_, rfl⟩
    obtain ⟨wd, hwd⟩ : ∃ v, v = wr.alloc (.cells #[.string ⟨t.toArray⟩, .string ⟨p.toArray⟩, .int .u64 (n : Int)] 69) := ⟨_, rfl⟩
    rw [← hwd] at kD f0 f1 f2 hpb ⊢
    rw [← hdb] at f0 f1 f2 hpb ⊢
    replace OU := Lib.hid (OU.out.below kD)
    replace HO := Lib.hid (Row.Own.below HO.out kD)
    replace hb := bstep hb kD
    have BP : Hid (BoxP wd pb ⟨t, ⟨p, n⟩⟩) := Lib.hid hpb
    clear kD hdb hwd c0 c1 c2 hpb f1 f2
    go_cut [31] (fun zv wx => zv = .bool (nz J t) ∧ Hid (Out wx w.heap.size u4 J) ∧ Hid (OwnP wx w.heap.size (.slice (some ⟨sb, so, none⟩) N sc) L) ∧ Hid (BoxP wx pb ⟨t, ⟨p, n⟩⟩) ∧ Below w.heap.size w wx)
    case first =>
      rcases nil_or_snoc J with rfl | ⟨J0, x, rfl⟩
      · obtain ⟨a, c, rfl, -, -, -, -⟩ := Row.Own.lies OU.out.row
        go_wp2_with fail
        refine wp_region_noPanic ?_
        refine wp_region_held_drew (S := (fun _ => True)) (by kernel_rfl) (trivial) (fun hHeld => ?_)
        refine wpAnyH_take (i := 0) (v := ?_) (by simp only [List.getElem?_toArray, List.getElem?_cons_zero]; rfl) (by kernel_rfl) (by kernel_rfl) (by kernel_rfl) (fun _ _ _ h => h) (Or.inl ⟨by rfl, ?_⟩) (by assumption) ?_
        rotate_left
        · (intro w hSw; (try dsimp only at hSw); go_simp; try with_reducible rfl)
        try simp only [Act.put, List.setIfInBounds_toArray, List.set_cons_zero, List.set_cons_succ]
        refine wpAnyH_take (i := 1) (v := ?_) (by simp only [List.getElem?_toArray, List.getElem?_cons_succ, List.getElem?_cons_zero]; rfl) (by kernel_rfl) (by kernel_rfl) (by kernel_rfl) (fun _ _ _ h => h) (Or.inl ⟨by rfl, ?_⟩) (by assumption) ?_
        rotate_left
        · (intro w hSw; (try dsimp only at hSw); go_simp; try with_reducible rfl)
        try simp only [Act.put, List.setIfInBounds_toArray, List.set_cons_zero, List.set_cons_succ]
        refine wpAnyH_take (i := 2) (v := ?_) (by simp only [List.getElem?_toArray, List.getElem?_cons_succ, List.getElem?_cons_zero]; rfl) (by kernel_rfl) (by kernel_rfl) (by kernel_rfl) (fun _ _ _ h => h) (Or.inl ⟨by rfl, ?_⟩) (by assumption) ?_
        rotate_left
        · (intro w hSw; (try dsimp only at hSw); go_simp; try with_reducible rfl)
        try simp only [Act.put, List.setIfInBounds_toArray, List.set_cons_zero, List.set_cons_succ]
        refine wpAnyH_take (i := 3) (v := ?_) (by simp only [List.getElem?_toArray, List.getElem?_cons_succ, List.getElem?_cons_zero]; rfl) (by kernel_rfl) (by kernel_rfl) (by kernel_rfl) (fun _ _ _ h => h) (Or.inl ⟨by rfl, ?_⟩) (by assumption) ?_
        rotate_left
        · (intro w hSw; (try dsimp only at hSw); go_simp; try with_reducible rfl)
        try simp only [Act.put, List.setIfInBounds_toArray, List.set_cons_zero, List.set_cons_succ]
        refine wpAnyH_take (i := 4) (v := undef) (by simp only [List.getElem?_toArray, List.getElem?_cons_succ, List.getElem?_cons_zero]; rfl) (by kernel_rfl) (by kernel_rfl) (by kernel_rfl) (fun _ _ _ h => h) (Or.inr ⟨by rfl, rfl⟩) (by assumption) ?_
        try simp only [Act.put, List.setIfInBounds_toArray, List.set_cons_zero, List.set_cons_succ]
        refine wpAnyH_take (i := 5) (v := undef) (by simp only [List.getElem?_toArray, List.getElem?_cons_succ, List.getElem?_cons_zero]; rfl) (by kernel_rfl) (by kernel_rfl) (by kernel_rfl) (fun _ _ _ h => h) (Or.inr ⟨by rfl, rfl⟩) (by assumption) ?_
        try simp only [Act.put, List.setIfInBounds_toArray, List.set_cons_zero, List.set_cons_succ]
        refine wpAnyH_take (i := 6) (v := undef) (by simp only [List.getElem?_toArray, List.getElem?_cons_succ, List.getElem?_cons_zero]; rfl) (by kernel_rfl) (by kernel_rfl) (by kernel_rfl) (fun _ _ _ h => h) (Or.inr ⟨by rfl, rfl⟩) (by assumption) ?_
        try simp only [Act.put, List.setIfInBounds_toArray, List.set_cons_zero, List.set_cons_succ]
        refine wpAnyH_take (i := 7) (v := undef) (by simp only [List.getElem?_toArray, List.getElem?_cons_succ, List.getElem?_cons_zero]; rfl) (by kernel_rfl) (by kernel_rfl) (by kernel_rfl) (fun _ _ _ h => h) (Or.inr ⟨by rfl, rfl⟩) (by assumption) ?_
        try simp only [Act.put, List.setIfInBounds_toArray, List.set_cons_zero, List.set_cons_succ]
        refine wpAnyH_take (i := 8) (v := undef) (by simp only [List.getElem?_toArray, List.getElem?_cons_succ, List.getElem?_cons_zero]; rfl) (by kernel_rfl) (by kernel_rfl) (by kernel_rfl) (fun _ _ _ h => h) (Or.inr ⟨by rfl, rfl⟩) (by assumption) ?_
        try simp only [Act.put, List.setIfInBounds_toArray, List.set_cons_zero, List.set_cons_succ]
        refine wpAnyH_take (i := 9) (v := undef) (by simp only [List.getElem?_toArray, List.getElem?_cons_succ, List.getElem?_cons_zero]; rfl) (by kernel_rfl) (by kernel_rfl) (by kernel_rfl) (fun _ _ _ h => h) (Or.inr ⟨by rfl, rfl⟩) (by assumption) ?_
        try simp only [Act.put, List.setIfInBounds_toArray, List.set_cons_zero, List.set_cons_succ]
        refine wpAnyH_take (i := 10) (v := undef) (by simp only [List.getElem?_toArray, List.getElem?_cons_succ, List.getElem?_cons_zero]; rfl) (by kernel_rfl) (by kernel_rfl) (by kernel_rfl) (fun _ _ _ h => h) (Or.inr ⟨by rfl, rfl⟩) (by assumption) ?_
        try simp only [Act.put, List.setIfInBounds_toArray, List.set_cons_zero, List.set_cons_succ]
        refine wpAnyH_take (i := 11) (v := undef) (by simp only [List.getElem?_toArray, List.getElem?_cons_succ, List.getElem?_cons_zero]; rfl) (by kernel_rfl) (by kernel_rfl) (by kernel_rfl) (fun _ _ _ h => h) (Or.inr ⟨by rfl, rfl⟩) (by assumption) ?_
        try simp only [Act.put, List.setIfInBounds_toArray, List.set_cons_zero, List.set_cons_succ]
        refine wpAnyH_take (i := 12) (v := undef) (by simp only [List.getElem?_toArray, List.getElem?_cons_succ, List.getElem?_cons_zero]; rfl) (by kernel_rfl) (by kernel_rfl) (by kernel_rfl) (fun _ _ _ h => h) (Or.inr ⟨by rfl, rfl⟩) (by assumption) ?_
        try simp only [Act.put, List.setIfInBounds_toArray, List.set_cons_zero, List.set_cons_succ]
        refine wpAnyH_take (i := 13) (v := undef) (by simp only [List.getElem?_toArray, List.getElem?_cons_succ, List.getElem?_cons_zero]; rfl) (by kernel_rfl) (by kernel_rfl) (by kernel_rfl) (fun _ _ _ h => h) (Or.inr ⟨by rfl, rfl⟩) (by assumption) ?_
        try simp only [Act.put, List.setIfInBounds_toArray, List.set_cons_zero, List.set_cons_succ]
        refine wpAnyH_take (i := 14) (v := ?_) (by simp only [List.getElem?_toArray, List.getElem?_cons_succ, List.getElem?_cons_zero]; rfl) (by kernel_rfl) (by kernel_rfl) (by kernel_rfl) (fun _ _ _ h => h) (Or.inl ⟨by rfl, ?_⟩) (by assumption) ?_
        rotate_left
        · (intro w hSw; (try dsimp only at hSw); go_simp; try with_reducible rfl)
        try simp only [Act.put, List.setIfInBounds_toArray, List.set_cons_zero, List.set_cons_succ]
        refine wpAnyH_done (by kernel_rfl) ?_ _
        refine NoPanic.normal ?_
        go_wp2_with fail
        go_meet
        exact ⟨by rw [nz_nil], Lib.hid (OU.out.below (Below.drew (Below.refl _ _))), Lib.hid (Row.Own.below HO.out (Below.drew (Below.refl _ _))), Lib.hid (BP.out.below (Below.drew (Below.refl _ _))), Below.drew hb⟩
      · obtain ⟨g, c, rfl, c0, c1, -, -, -⟩ := ptrI OU.out.row
        have hmn : J0.length < N := by have h1 := HK.out.1; have h2 := HK.out.2.1; rw [List.length_append, List.length_singleton] at h2; omega
        have hnb : N ≤ 1099511627776 := by have := HNN.out; omega
        have w1 : IntKind.i64.wrap (((J0.length + 1 : Nat) : Int) - 1) = (J0.length : Int) := by rw [IntKind.wrap_i64]; omega
        have w2 : IntKind.i64.wrap ((J0.length : Int) + 1 - 1) = (J0.length : Int) := by rw [IntKind.wrap_i64]; omega
        have w3 : IntKind.i64.wrap (J0.length : Int) = (J0.length : Int) := by rw [IntKind.wrap_i64]; omega
        have z0 : (((J0.length + 1 : Nat) : Int) == 0) = false := by rw [beq_eq_false_iff_ne]; omega
        have z1 : ((J0.length : Int) + 1 == 0) = false := by rw [beq_eq_false_iff_ne]; omega
        have j3 : (0 : Int) ≤ (J0.length : Int) := by omega
        have j4 : (J0.length : Int) < ((J0.length + 1 : Nat) : Int) := by omega
        have j5 : (J0.length : Int) < (J0.length : Int) + 1 := by omega
        by_cases he : x.t = t
        · have q1 : (x.t != t) = false := by simp [he]
          have q2 : (x.t == t) = true := by simp [he]
          have HZ : Hid (nz (J0 ++ [x]) t = false) := Lib.hid (by rw [nz_snoc]; exact q1)
          clear he
          go_wp2_with fail
          refine wp_region_noPanic ?_
          refine wp_region_held_drew (S := (fun w' => w'.cell? ⟨g, J0.length * 2, none⟩ = some (.string ⟨x.t.toArray⟩) ∧ w'.cell? ⟨pb, 0, none⟩ = some (.string ⟨t.toArray⟩))) (by kernel_rfl) (⟨Dots.keepC c0 (Below.drew (Below.refl _ _)), Dots.keepC f0 (Below.drew (Below.refl _ _))⟩) (fun hHeld => ?_)
          refine wpAnyH_take (i := 0) (v := ?_) (by simp only [List.getElem?_toArray, List.getElem?_cons_zero]; rfl) (by kernel_rfl) (by kernel_rfl) (by kernel_rfl) (fun _ _ _ h => h) (Or.inl ⟨by rfl, ?_⟩) (by assumption) ?_
          rotate_left
          · (intro w hSw; (try dsimp only at hSw); go_simp; try with_reducible rfl)
          try simp only [Act.put, List.setIfInBounds_toArray, List.set_cons_zero, List.set_cons_succ]
          refine wpAnyH_take (i := 1) (v := ?_) (by simp only [List.getElem?_toArray, List.getElem?_cons_succ, List.getElem?_cons_zero]; rfl) (by kernel_rfl) (by kernel_rfl) (by kernel_rfl) (fun _ _ _ h => h) (Or.inl ⟨by rfl, ?_⟩) (by assumption) ?_
          rotate_left
          · (intro w hSw; (try dsimp only at hSw); go_simp; try with_reducible rfl)
          try simp only [Act.put, List.setIfInBounds_toArray, List.set_cons_zero, List.set_cons_succ]
          refine wpAnyH_take (i := 2) (v := ?_) (by simp only [List.getElem?_toArray, List.getElem?_cons_succ, List.getElem?_cons_zero]; rfl) (by kernel_rfl) (by kernel_rfl) (by kernel_rfl) (fun _ _ _ h => h) (Or.inl ⟨by rfl, ?_⟩) (by assumption) ?_
          rotate_left
          · (intro w hSw; (try dsimp only at hSw); go_simp; try with_reducible rfl)
          try simp only [Act.put, List.setIfInBounds_toArray, List.set_cons_zero, List.set_cons_succ]
          refine wpAnyH_take (i := 3) (v := ?_) (by simp only [List.getElem?_toArray, List.getElem?_cons_succ, List.getElem?_cons_zero]; rfl) (by kernel_rfl) (by kernel_rfl) (by kernel_rfl) (fun _ _ _ h => h) (Or.inl ⟨by rfl, ?_⟩) (by assumption) ?_
          rotate_left
          · (intro w hSw; (try dsimp only at hSw); go_simp; try with_reducible rfl)
          try simp only [Act.put, List.setIfInBounds_toArray, List.set_cons_zero, List.set_cons_succ]
          refine wpAnyH_take (i := 4) (v := ?_) (by simp only [List.getElem?_toArray, List.getElem?_cons_succ, List.getElem?_cons_zero]; rfl) (by kernel_rfl) (by kernel_rfl) (by kernel_rfl) (fun _ _ _ h => h) (Or.inl ⟨by rfl, ?_⟩) (by assumption) ?_
          rotate_left
          · (intro w hSw; (try dsimp only at hSw); go_simp; try with_reducible rfl)
          try simp only [Act.put, List.setIfInBounds_toArray, List.set_cons_zero, List.set_cons_succ]
          refine wpAnyH_take (i := 5) (v := ?_) (by simp only [List.getElem?_toArray, List.getElem?_cons_succ, List.getElem?_cons_zero]; rfl) (by kernel_rfl) (by kernel_rfl) (by kernel_rfl) (fun _ _ _ h => h) (Or.inl ⟨by rfl, ?_⟩) (by assumption) ?_
          rotate_left
          · (intro w hSw; (try dsimp only at hSw); go_simp; try with_reducible rfl)
          try simp only [Act.put, List.setIfInBounds_toArray, List.set_cons_zero, List.set_cons_succ]
          refine wpAnyH_take (i := 6) (v := ?_) (by simp only [List.getElem?_toArray, List.getElem?_cons_succ, List.getElem?_cons_zero]; rfl) (by kernel_rfl) (by kernel_rfl) (by kernel_rfl) (fun _ _ _ h => h) (Or.inl ⟨by rfl, ?_⟩) (by assumption) ?_
          rotate_left
          · (intro w hSw; (try dsimp only at hSw); go_simp; try with_reducible rfl)
          try simp only [Act.put, List.setIfInBounds_toArray, List.set_cons_zero, List.set_cons_succ]
          refine wpAnyH_take (i := 7) (v := ?_) (by simp only [List.getElem?_toArray, List.getElem?_cons_succ, List.getElem?_cons_zero]; rfl) (by kernel_rfl) (by kernel_rfl) (by kernel_rfl) (fun _ _ _ h => h) (Or.inl ⟨by rfl, ?_⟩) (by assumption) ?_
          rotate_left
          · (intro w hSw; (try dsimp only at hSw); go_simp; try with_reducible rfl)
          try simp only [Act.put, List.setIfInBounds_toArray, List.set_cons_zero, List.set_cons_succ]
          refine wpAnyH_take (i := 8) (v := ?_) (by simp only [List.getElem?_toArray, List.getElem?_cons_succ, List.getElem?_cons_zero]; rfl) (by kernel_rfl) (by kernel_rfl) (by kernel_rfl) (fun _ _ _ h => h) (Or.inl ⟨by rfl, ?_⟩) (by assumption) ?_
          rotate_left
          · (intro w hSw; (try dsimp only at hSw); go_simp; try with_reducible rfl)
          try simp only [Act.put, List.setIfInBounds_toArray, List.set_cons_zero, List.set_cons_succ]
          refine wpAnyH_take (i := 9) (v := ?_) (by simp only [List.getElem?_toArray, List.getElem?_cons_succ, List.getElem?_cons_zero]; rfl) (by kernel_rfl) (by kernel_rfl) (by kernel_rfl) (fun _ _ _ h => h) (Or.inl ⟨by rfl, ?_⟩) (by assumption) ?_
          rotate_left
          · (intro w hSw; (try dsimp only at hSw); go_simp; try with_reducible rfl)
          try simp only [Act.put, List.setIfInBounds_toArray, List.set_cons_zero, List.set_cons_succ]
          refine wpAnyH_take (i := 10) (v := ?_) (by simp only [List.getElem?_toArray, List.getElem?_cons_succ, List.getElem?_cons_zero]; rfl) (by kernel_rfl) (by kernel_rfl) (by kernel_rfl) (fun _ _ _ h => h) (Or.inl ⟨by rfl, ?_⟩) (by assumption) ?_
          rotate_left
          · (intro w hSw; (try dsimp only at hSw); go_simp; try with_reducible rfl)
          try simp only [Act.put, List.setIfInBounds_toArray, List.set_cons_zero, List.set_cons_succ]
          refine wpAnyH_take (i := 11) (v := ?_) (by simp only [List.getElem?_toArray, List.getElem?_cons_succ, List.getElem?_cons_zero]; rfl) (by kernel_rfl) (by kernel_rfl) (by kernel_rfl) (fun _ _ _ h => h) (Or.inl ⟨by rfl, ?_⟩) (by assumption) ?_
          rotate_left
          · (intro w hSw; (try dsimp only at hSw); go_simp; try with_reducible rfl)
          try simp only [Act.put, List.setIfInBounds_toArray, List.set_cons_zero, List.set_cons_succ]
          refine wpAnyH_take (i := 12) (v := ?_) (by simp only [List.getElem?_toArray, List.getElem?_cons_succ, List.getElem?_cons_zero]; rfl) (by kernel_rfl) (by kernel_rfl) (by kernel_rfl) (fun _ _ _ h => h) (Or.inl ⟨by rfl, ?_⟩) (by assumption) ?_
          rotate_left
          · (intro w hSw; (try dsimp only at hSw); go_simp; try with_reducible rfl)
          try simp only [Act.put, List.setIfInBounds_toArray, List.set_cons_zero, List.set_cons_succ]
          refine wpAnyH_take (i := 13) (v := ?_) (by simp only [List.getElem?_toArray, List.getElem?_cons_succ, List.getElem?_cons_zero]; rfl) (by kernel_rfl) (by kernel_rfl) (by kernel_rfl) (fun _ _ _ h => h) (Or.inl ⟨by rfl, ?_⟩) (by assumption) ?_
          rotate_left
          · (intro w hSw; (try dsimp only at hSw); go_simp; try with_reducible rfl)
          try simp only [Act.put, List.setIfInBounds_toArray, List.set_cons_zero, List.set_cons_succ]
          refine wpAnyH_take (i := 14) (v := ?_) (by simp only [List.getElem?_toArray, List.getElem?_cons_succ, List.getElem?_cons_zero]; rfl) (by kernel_rfl) (by kernel_rfl) (by kernel_rfl) (fun _ _ _ h => h) (Or.inl ⟨by rfl, ?_⟩) (by assumption) ?_
          rotate_left
          · (intro w hSw; (try dsimp only at hSw); go_simp; try with_reducible rfl)
          try simp only [Act.put, List.setIfInBounds_toArray, List.set_cons_zero, List.set_cons_succ]
          refine wpAnyH_done (by kernel_rfl) ?_ _
          refine NoPanic.normal ?_
          clear hHeld
          go_wp2_with fail
          go_meet
          exact ⟨by rw [HZ.out], Lib.hid (OU.out.below (Below.drew (Below.refl _ _))), Lib.hid (Row.Own.below HO.out (Below.drew (Below.refl _ _))), Lib.hid (BP.out.below (Below.drew (Below.refl _ _))), Below.drew hb⟩
        · have q1 : (x.t != t) = true := by simpa using he
          have q2 : (x.t == t) = false := by simpa using he
          have HZ : Hid (nz (J0 ++ [x]) t = true) := Lib.hid (by rw [nz_snoc]; exact q1)
          clear he
          go_wp2_with fail
          refine wp_region_noPanic ?_
          refine wp_region_held_drew (S := (fun w' => w'.cell? ⟨g, J0.length * 2, none⟩ = some (.string ⟨x.t.toArray⟩) ∧ w'.cell? ⟨pb, 0, none⟩ = some (.string ⟨t.toArray⟩))) (by kernel_rfl) (⟨Dots.keepC c0 (Below.drew (Below.refl _ _)), Dots.keepC f0 (Below.drew (Below.refl _ _))⟩) (fun hHeld => ?_)
          refine wpAnyH_take (i := 0) (v := ?_) (by simp only [List.getElem?_toArray, List.getElem?_cons_zero]; rfl) (by kernel_rfl) (by kernel_rfl) (by kernel_rfl) (fun _ _ _ h => h) (Or.inl ⟨by rfl, ?_⟩) (by assumption) ?_
          rotate_left
          · (intro w hSw; (try dsimp only at hSw); go_simp; try with_reducible rfl)
          try simp only [Act.put, List.setIfInBounds_toArray, List.set_cons_zero, List.set_cons_succ]
          refine wpAnyH_take (i := 1) (v := ?_) (by simp only [List.getElem?_toArray, List.getElem?_cons_succ, List.getElem?_cons_zero]; rfl) (by kernel_rfl) (by kernel_rfl) (by kernel_rfl) (fun _ _ _ h => h) (Or.inl ⟨by rfl, ?_⟩) (by assumption) ?_
          rotate_left
          · (intro w hSw; (try dsimp only at hSw); go_simp; try with_reducible rfl)
          try simp only [Act.put, List.setIfInBounds_toArray, List.set_cons_zero, List.set_cons_succ]
          refine wpAnyH_take (i := 2) (v := ?_) (by simp only [List.getElem?_toArray, List.getElem?_cons_succ, List.getElem?_cons_zero]; rfl) (by kernel_rfl) (by kernel_rfl) (by kernel_rfl) (fun _ _ _ h => h) (Or.inl ⟨by rfl, ?_⟩) (by assumption) ?_
          rotate_left
          · (intro w hSw; (try dsimp only at hSw); go_simp; try with_reducible rfl)
          try simp only [Act.put, List.setIfInBounds_toArray, List.set_cons_zero, List.set_cons_succ]
          refine wpAnyH_take (i := 3) (v := ?_) (by simp only [List.getElem?_toArray, List.getElem?_cons_succ, List.getElem?_cons_zero]; rfl) (by kernel_rfl) (by kernel_rfl) (by kernel_rfl) (fun _ _ _ h => h) (Or.inl ⟨by rfl, ?_⟩) (by assumption) ?_
          rotate_left
          · (intro w hSw; (try dsimp only at hSw); go_simp; try with_reducible rfl)
          try simp only [Act.put, List.setIfInBounds_toArray, List.set_cons_zero, List.set_cons_succ]
          refine wpAnyH_take (i := 4) (v := ?_) (by simp only [List.getElem?_toArray, List.getElem?_cons_succ, List.getElem?_cons_zero]; rfl) (by kernel_rfl) (by kernel_rfl) (by kernel_rfl) (fun _ _ _ h => h) (Or.inl ⟨by rfl, ?_⟩) (by assumption) ?_
          rotate_left
          · (intro w hSw; (try dsimp only at hSw); go_simp; try with_reducible rfl)
          try simp only [Act.put, List.setIfInBounds_toArray, List.set_cons_zero, List.set_cons_succ]
          refine wpAnyH_take (i := 5) (v := ?_) (by simp only [List.getElem?_toArray, List.getElem?_cons_succ, List.getElem?_cons_zero]; rfl) (by kernel_rfl) (by kernel_rfl) (by kernel_rfl) (fun _ _ _ h => h) (Or.inl ⟨by rfl, ?_⟩) (by assumption) ?_
          rotate_left
          · (intro w hSw; (try dsimp only at hSw); go_simp; try with_reducible rfl)
          try simp only [Act.put, List.setIfInBounds_toArray, List.set_cons_zero, List.set_cons_succ]
          refine wpAnyH_take (i := 6) (v := ?_) (by simp only [List.getElem?_toArray, List.getElem?_cons_succ, List.getElem?_cons_zero]; rfl) (by kernel_rfl) (by kernel_rfl) (by kernel_rfl) (fun _ _ _ h => h) (Or.inl ⟨by rfl, ?_⟩) (by assumption) ?_
          rotate_left
          · (intro w hSw; (try dsimp only at hSw); go_simp; try with_reducible rfl)
          try simp only [Act.put, List.setIfInBounds_toArray, List.set_cons_zero, List.set_cons_succ]
          refine wpAnyH_take (i := 7) (v := ?_) (by simp only [List.getElem?_toArray, List.getElem?_cons_succ, List.getElem?_cons_zero]; rfl) (by kernel_rfl) (by kernel_rfl) (by kernel_rfl) (fun _ _ _ h => h) (Or.inl ⟨by rfl, ?_⟩) (by assumption) ?_
          rotate_left
          · (intro w hSw; (try dsimp only at hSw); go_simp; try with_reducible rfl)
          try simp only [Act.put, List.setIfInBounds_toArray, List.set_cons_zero, List.set_cons_succ]
          refine wpAnyH_take (i := 8) (v := ?_) (by simp only [List.getElem?_toArray, List.getElem?_cons_succ, List.getElem?_cons_zero]; rfl) (by kernel_rfl) (by kernel_rfl) (by kernel_rfl) (fun _ _ _ h => h) (Or.inl ⟨by rfl, ?_⟩) (by assumption) ?_
          rotate_left
          · (intro w hSw; (try dsimp only at hSw); go_simp; try with_reducible rfl)
          try simp only [Act.put, List.setIfInBounds_toArray, List.set_cons_zero, List.set_cons_succ]
          refine wpAnyH_take (i := 9) (v := ?_) (by simp only [List.getElem?_toArray, List.getElem?_cons_succ, List.getElem?_cons_zero]; rfl) (by kernel_rfl) (by kernel_rfl) (by kernel_rfl) (fun _ _ _ h => h) (Or.inl ⟨by rfl, ?_⟩) (by assumption) ?_
          rotate_left
          · (intro w hSw; (try dsimp only at hSw); go_simp; try with_reducible rfl)
          try simp only [Act.put, List.setIfInBounds_toArray, List.set_cons_zero, List.set_cons_succ]
          refine wpAnyH_take (i := 10) (v := ?_) (by simp only [List.getElem?_toArray, List.getElem?_cons_succ, List.getElem?_cons_zero]; rfl) (by kernel_rfl) (by kernel_rfl) (by kernel_rfl) (fun _ _ _ h => h) (Or.inl ⟨by rfl, ?_⟩) (by assumption) ?_
          rotate_left
          · (intro w hSw; (try dsimp only at hSw); go_simp; try with_reducible rfl)
          try simp only [Act.put, List.setIfInBounds_toArray, List.set_cons_zero, List.set_cons_succ]
          refine wpAnyH_take (i := 11) (v := ?_) (by simp only [List.getElem?_toArray, List.getElem?_cons_succ, List.getElem?_cons_zero]; rfl) (by kernel_rfl) (by kernel_rfl) (by kernel_rfl) (fun _ _ _ h => h) (Or.inl ⟨by rfl, ?_⟩) (by assumption) ?_
          rotate_left
          · (intro w hSw; (try dsimp only at hSw); go_simp; try with_reducible rfl)
          try simp only [Act.put, List.setIfInBounds_toArray, List.set_cons_zero, List.set_cons_succ]
          refine wpAnyH_take (i := 12) (v := ?_) (by simp only [List.getElem?_toArray, List.getElem?_cons_succ, List.getElem?_cons_zero]; rfl) (by kernel_rfl) (by kernel_rfl) (by kernel_rfl) (fun _ _ _ h => h) (Or.inl ⟨by rfl, ?_⟩) (by assumption) ?_
          rotate_left
          · (intro w hSw; (try dsimp only at hSw); go_simp; try with_reducible rfl)
          try simp only [Act.put, List.setIfInBounds_toArray, List.set_cons_zero, List.set_cons_succ]
          refine wpAnyH_take (i := 13) (v := ?_) (by simp only [List.getElem?_toArray, List.getElem?_cons_succ, List.getElem?_cons_zero]; rfl) (by kernel_rfl) (by kernel_rfl) (by kernel_rfl) (fun _ _ _ h => h) (Or.inl ⟨by rfl, ?_⟩) (by assumption) ?_
          rotate_left
          · (intro w hSw; (try dsimp only at hSw); go_simp; try with_reducible rfl)
          try simp only [Act.put, List.setIfInBounds_toArray, List.set_cons_zero, List.set_cons_succ]
          refine wpAnyH_take (i := 14) (v := ?_) (by simp only [List.getElem?_toArray, List.getElem?_cons_succ, List.getElem?_cons_zero]; rfl) (by kernel_rfl) (by kernel_rfl) (by kernel_rfl) (fun _ _ _ h => h) (Or.inl ⟨by rfl, ?_⟩) (by assumption) ?_
          rotate_left
          · (intro w hSw; (try dsimp only at hSw); go_simp; try with_reducible rfl)
          try simp only [Act.put, List.setIfInBounds_toArray, List.set_cons_zero, List.set_cons_succ]
          refine wpAnyH_done (by kernel_rfl) ?_ _
          refine NoPanic.normal ?_
          clear hHeld
          go_wp2_with fail
          go_meet
          exact ⟨by rw [HZ.out], Lib.hid (OU.out.below (Below.drew (Below.refl _ _))), Lib.hid (Row.Own.below HO.out (Below.drew (Below.refl _ _))), Lib.hid (BP.out.below (Below.drew (Below.refl _ _))), Below.drew hb⟩
    clear OU HO BP hb f0
    obtain ⟨rfl, OU, HO, BP, hb⟩ := hcut
    have HNB : Hid (k < N ∧ J.length ≤ k ∧ N ≤ 1099511627776) := Lib.hid (by have := HK.out.1; have := HK.out.2.1; have := HNN.out; omega)
    go_upto_if 31 with (fail)
    go_cut [4] (fun v wx => ∃ (J0 : List RI) (x : RI), Hid (Out wx w.heap.size v (J0 ++ [x])) ∧ Hid (x.t = t ∧ gstep (J.map RI.it) ⟨t, ⟨p, n⟩⟩ = J0.map RI.it ++ [⟨t, x.d ++ [⟨p, n⟩]⟩]) ∧ Hid (J0.length ≤ k ∧ ∀ y ∈ J0 ++ [x], y.d.length ≤ k) ∧ Hid (OwnP wx w.heap.size (.slice (some ⟨sb, so, none⟩) N sc) L) ∧ Hid (BoxP wx pb ⟨t, ⟨p, n⟩⟩) ∧ Below w.heap.size w wx)
    case first =>
      obtain ⟨z, hz⟩ : ∃ z, z = nz J t := ⟨_, rfl⟩
      rw [← hz]
      cases z with
      | false =>
        obtain ⟨J0, x, e1, e2, e3⟩ := nz_old hz.symm ⟨p, n⟩
        subst e1
        have hdl := HK.out.2.2
        go_wp2_with fail
        go_meet
        exact ⟨J0, x, OU, Lib.hid ⟨e2, e3⟩, Lib.hid ⟨by have h2 := HK.out.2.1; rw [List.length_append] at h2; omega, hdl⟩, HO, BP, hb⟩
      | true =>
        have e3 := nz_new hz.symm ⟨p, n⟩
        have HE := Lib.hid e3
        obtain ⟨f0, f1, f2⟩ := BP.out.cells
        clear hz e3
        go_wp2_with (at_builtin; refine Row.wpList_app typI rfl _ _ rfl w.heap.size _ J rfl ((OU.out.row).alloc _) _ 1 1 [⟨t, none, 0, []⟩] rfl (Row.lies_new (E := iE) _ ⟨t, none, 0, []⟩ _) (by have := HNB.out; omega) (by have := hb.size; rw [World.size_alloc]; omega) ?_; intro v4 w4 o4 g4 k4)
        have kA := balloc (Below.refl wc.heap.size wc) (.cells #[.string ⟨t.toArray⟩, .slice none 0 0] 42)
        have OA := OU.out.below kA
        have PA := Row.Own.below HO.out kA
        have BA := BP.out.below kA
        have ON := Lib.hid (OA.new (by have := hb.size; rw [World.size_alloc]; omega) o4 g4)
        have PN := Lib.hid (places_stand PA g4 OA.row)
        have BN := Lib.hid (BA.stand g4 OA.row (by decide))
        have hb4 := (bstep hb kA).trans k4
        clear kA OA PA BA o4 g4 k4
        go_meet
        exact ⟨J, ⟨t, none, 0, []⟩, ON, Lib.hid ⟨rfl, HE.out⟩, Lib.hid ⟨HNB.out.2.1, fun y hy => by
          rcases List.mem_append.1 hy with h | h
          · exact HK.out.2.2 y h
          · rw [List.mem_singleton.1 h]; exact Nat.zero_le _⟩, PN, BN, hb4⟩
    clear OU HO BP hb
    obtain ⟨J0, x, OU, HX, HL, HO, BP, hb⟩ := hcut
    obtain ⟨g, c, rfl, -, c1, -, -, -⟩ := ptrI OU.out.row
    obtain ⟨C, hC1, hC2, h3, h4⟩ := OU.out.last J0 x rfl
    have HC := Lib.hid (And.intro hC1 (And.intro hC2 h3))
    have H4 := Lib.hid h4
    obtain ⟨xt, xa, xc, xd⟩ := x
    unfold RI.v at H4 c1
    simp only at H4 c1
    have hmn : J0.length < 1099511627776 := by have := HL.out.1; have := HNB.out; omega
    have w1 : IntKind.i64.wrap (((J0.length + 1 : Nat) : Int) - 1) = (J0.length : Int) := by rw [IntKind.wrap_i64]; omega
    have w2 : IntKind.i64.wrap ((J0.length : Int) + 1 - 1) = (J0.length : Int) := by rw [IntKind.wrap_i64]; omega
    have w3 : IntKind.i64.wrap (J0.length : Int) = (J0.length : Int) := by rw [IntKind.wrap_i64]; omega
    have j3 : (0 : Int) ≤ (J0.length : Int) := by omega
    have j4 : (J0.length : Int) < ((J0.length + 1 : Nat) : Int) := by omega
    have j5 : (J0.length : Int) < (J0.length : Int) + 1 := by omega
    have c2 : (World.drew wc).cell? ⟨g, J0.length * 2 + 1, none⟩ = some (.slice xa xd.length xc) := Dots.keepC c1 (Below.drew (Below.refl _ _))
    have cA : ∀ o, (World.drew (wc.alloc o)).cell? ⟨g, J0.length * 2 + 1, none⟩ = some (.slice xa xd.length xc) := fun o => Lib.cell?_alloc_some o c2
    have HWG : Hid (w.heap.size ≤ g) := Lib.hid (by
      obtain ⟨g9, c9, e9, -, -, -, h9, -⟩ := ptrI OU.out.row
      simp only [Value.slice.injEq, Option.some.injEq, Addr.mk.injEq, and_true, true_and] at e9
      rw [e9.1]; exact h9)
    have HPG : Hid (g ≠ pb) := Lib.hid (fun e => BP.out.ne OU.out.row (by decide) (by rw [e]; rfl))
    clear hC1 hC2 h3 h4 c1
    go_upto_region 9 with (fail)
    refine wp_region_noPanic ?_
    refine wp_region_held_drew (S := (fun w' => BoxP w' pb ⟨t, ⟨p, n⟩⟩ ∧ w'.cell? ⟨pb, 1, none⟩ = some (.string ⟨p.toArray⟩) ∧ w'.cell? ⟨pb, 2, none⟩ = some (.int .u64 (n : Int)))) (by kernel_rfl) (⟨BP.out.below (Below.drew (Below.refl _ _)), (BP.out.below (Below.drew (Below.refl _ _))).cells.2.1, (BP.out.below (Below.drew (Below.refl _ _))).cells.2.2⟩) (fun hHeld => ?_)
    refine wpAnyH_take (i := 0) (v := ?_) (by simp only [List.getElem?_toArray, List.getElem?_cons_zero]; rfl) (by kernel_rfl) (by kernel_rfl) (by kernel_rfl) (fun _ _ _ h => h) (Or.inl ⟨by rfl, ?_⟩) (by assumption) ?_
    rotate_left
    · (intro w hSw; (try dsimp only at hSw); go_simp; try with_reducible rfl)
    try simp only [Act.put, List.setIfInBounds_toArray, List.set_cons_zero, List.set_cons_succ]
    refine wpAnyH_take (i := 1) (v := ?_) (by simp only [List.getElem?_toArray, List.getElem?_cons_succ, List.getElem?_cons_zero]; rfl) (by kernel_rfl) (by kernel_rfl) (by kernel_rfl) (fun _ _ _ h => h) (Or.inl ⟨by rfl, ?_⟩) (by assumption) ?_
    rotate_left
    · (intro w hSw; (try dsimp only at hSw); go_simp; try with_reducible rfl)
    try simp only [Act.put, List.setIfInBounds_toArray, List.set_cons_zero, List.set_cons_succ]
    refine wpAnyH_take (i := 2) (v := ?_) (by simp only [List.getElem?_toArray, List.getElem?_cons_succ, List.getElem?_cons_zero]; rfl) (by kernel_rfl) (by kernel_rfl) (by kernel_rfl) (fun _ _ _ h => h) (Or.inl ⟨by rfl, ?_⟩) (by assumption) ?_
    rotate_left
    · (intro w hSw; (try dsimp only at hSw); go_simp; try with_reducible rfl)
    try simp only [Act.put, List.setIfInBounds_toArray, List.set_cons_zero, List.set_cons_succ]
    refine wpAnyH_take (i := 3) (v := ?_) (by simp only [List.getElem?_toArray, List.getElem?_cons_succ, List.getElem?_cons_zero]; rfl) (by kernel_rfl) (by kernel_rfl) (by kernel_rfl) (fun _ _ _ h => h) (Or.inl ⟨by rfl, ?_⟩) (by assumption) ?_
    rotate_left
    · (intro w hSw; (try dsimp only at hSw); go_simp; try with_reducible rfl)
    try simp only [Act.put, List.setIfInBounds_toArray, List.set_cons_zero, List.set_cons_succ]
    refine wpAnyH_take (i := 5) (v := ?_) (by simp only [List.getElem?_toArray, List.getElem?_cons_succ, List.getElem?_cons_zero]; rfl) (by kernel_rfl) (by kernel_rfl) (by kernel_rfl) (fun _ _ _ h => h) (Or.inl ⟨by rfl, ?_⟩) (by assumption) ?_
    rotate_left
    · (intro w hSw; (try dsimp only at hSw); go_simp; try with_reducible rfl)
    try simp only [Act.put, List.setIfInBounds_toArray, List.set_cons_zero, List.set_cons_succ]
    refine wpAnyH_take (i := 6) (v := ?_) (by simp only [List.getElem?_toArray, List.getElem?_cons_succ, List.getElem?_cons_zero]; rfl) (by kernel_rfl) (by kernel_rfl) (by kernel_rfl) (fun _ _ _ h => h) (Or.inl ⟨by rfl, ?_⟩) (by assumption) ?_
    rotate_left
    · (intro w hSw; (try dsimp only at hSw); go_simp; try with_reducible rfl)
    try simp only [Act.put, List.setIfInBounds_toArray, List.set_cons_zero, List.set_cons_succ]
    refine wpAnyH_ready (rs := [4, 7]) (by kernel_rfl) (by simp) ?_
    refine AllReadyH.cons (by simp only [List.getElem?_toArray, List.getElem?_cons_succ, List.getElem?_cons_zero]; rfl) (fun K hK => ?_) (AllReadyH.cons (by simp only [List.getElem?_toArray, List.getElem?_cons_succ, List.getElem?_cons_zero]; rfl) (fun K hK => ?_) (AllReadyH.nil))
    · skip
      go_simp
      refine hK.out _ _ (hHeld) (fun hHeld => ?_)
      clear hK K
      try simp only [Act.put, List.setIfInBounds_toArray, List.set_cons_zero, List.set_cons_succ]
      refine wpAnyH_ready (rs := [7]) (by kernel_rfl) (by simp) ?_
      refine AllReadyH.cons (by simp only [List.getElem?_toArray, List.getElem?_cons_succ, List.getElem?_cons_zero]; rfl) (fun K hK => ?_) AllReadyH.nil
      go_simp
      refine hK.out _ _ (⟨hHeld.1.below (balloc (Below.refl _ _) _), (hHeld.1.below (balloc (Below.refl _ _) _)).cells.2.1, (hHeld.1.below (balloc (Below.refl _ _) _)).cells.2.2⟩) (fun hHeld => ?_)
      clear hK K
      try simp only [Act.put, List.setIfInBounds_toArray, List.set_cons_zero, List.set_cons_succ]
      refine wpAnyH_ready (rs := [8]) (by kernel_rfl) (by simp) ?_
      refine AllReadyH.cons (by simp only [List.getElem?_toArray, List.getElem?_cons_succ, List.getElem?_cons_zero]; rfl) (fun K hK => ?_) AllReadyH.nil
      refine Row.step_app typD rfl _ _ rfl C (.slice xa xd.length xc) xd rfl ((H4.out.drew).alloc _) ⟨wc.heap.size, 0, none⟩ 1 1 [⟨p, n⟩] rfl (Row.lies_new (E := dE) (World.drew wc) ⟨p, n⟩ _) (by have h1 := HL.out.2 _ (List.mem_append_right _ (List.mem_singleton_self _)); have := HNB.out; simp only at h1; omega) (by show C ≤ (World.alloc wc _).heap.size; rw [World.size_alloc]; have := HC.out.2.1; omega) ?_; intro v3 w3 o3 g3 k3
      have kA := balloc (Below.drew (Below.refl wc.heap.size wc)) (.cells #[.string ⟨p.toArray⟩, .int .u64 (n : Int)] 31)
      have OA := OU.out.below kA
      have PA := Row.Own.below HO.out kA
      have HA := Row.Own.below H4.out kA
      have B3 := Lib.hid (hHeld.1.stand g3 HA (by decide))
      have P3 := Lib.hid (places_standD PA g3 HA)
      obtain ⟨a3, c3, rfl, -, -, -, -⟩ := Row.Own.lies o3
      have I3 : OwnI w3 w.heap.size (.slice (some ⟨g, 0, none⟩) (J0.length + 1) c) (J0 ++ [⟨xt, xa, xc, xd⟩]) := World.ownsRow.kept OA.row g3 (rows_ne OA.row HA ne_DI.symm)
      obtain ⟨g9, c9, e9, -, q1, q2, -, -⟩ := ptrI I3
      simp only [Value.slice.injEq, Option.some.injEq, Addr.mk.injEq, and_true, true_and] at e9
      obtain ⟨rfl, rfl⟩ := e9
      have OP := Lib.hid (OA.push HC.out.1 (Nat.le_trans HC.out.2.1 kA.size) (fun y hy => ⟨Row.Own.below (HC.out.2.2 y hy).1 kA, (HC.out.2.2 y hy).2⟩) HA rfl (X := ⟨xt, a3, c3, xd ++ [⟨p, n⟩]⟩) rfl o3 g3)
      have P4 := Lib.hid (World.ownsRow.kept P3.out (grown_set w3 g (J0.length * 2 + 1) (.slice a3 (xd ++ [(⟨p, n⟩ : M)]).length c3)) (rows_ne P3.out I3 ne_PI))
      have hb4 := (bstep hb kA).trans (k3.mono (Nat.le_trans HC.out.1 (Nat.le_refl _)))
      have hgb := I3
      clear kA OA PA HA o3 g3 k3 I3
      refine hK.out _ _ (⟨B3.out, (B3.out).cells.2.1, (B3.out).cells.2.2⟩) (fun hHeld => ?_)
      clear hK K
      try simp only [Act.put, List.setIfInBounds_toArray, List.set_cons_zero, List.set_cons_succ]
      refine wpAnyH_take (i := 9) (v := ?_) (by simp only [List.getElem?_toArray, List.getElem?_cons_succ, List.getElem?_cons_zero]; rfl) (by kernel_rfl) (by kernel_rfl) (by kernel_rfl) (fun _ _ _ h => h) (Or.inl ⟨by rfl, ?_⟩) (by assumption) ?_
      rotate_left
      · (intro w hSw; (try dsimp only at hSw); go_simp; try with_reducible rfl)
      try simp only [Act.put, List.setIfInBounds_toArray, List.set_cons_zero, List.set_cons_succ]
      refine wpAnyH_take (i := 10) (v := ?_) (by simp only [List.getElem?_toArray, List.getElem?_cons_succ, List.getElem?_cons_zero]; rfl) (by kernel_rfl) (by kernel_rfl) (by kernel_rfl) (fun _ _ _ h => h) (Or.inl ⟨by rfl, ?_⟩) (by assumption) ?_
      rotate_left
      · (intro w hSw; (try dsimp only at hSw); go_simp; try with_reducible rfl)
      try simp only [Act.put, List.setIfInBounds_toArray, List.set_cons_zero, List.set_cons_succ]
      refine wpAnyH_ready (rs := [11]) (by kernel_rfl) (by simp) ?_
      refine AllReadyH.cons (by simp only [List.getElem?_toArray, List.getElem?_cons_succ, List.getElem?_cons_zero]; rfl) (fun K hK => ?_) AllReadyH.nil
      go_simp
      refine hK.out _ _ (⟨B3.out.set HPG.out, (B3.out.set HPG.out).cells.2.1, (B3.out.set HPG.out).cells.2.2⟩) (fun hHeld => ?_)
      clear hK K
      refine wpAnyH_done (by kernel_rfl) ?_ _
      refine NoPanic.normal ?_
      clear hHeld
      have hlen1 : (xd ++ [(⟨p, n⟩ : M)]).length = xd.length + 1 := by simp
      have OQ := OP.out
      have PQ := P4.out
      simp only [hlen1] at OQ PQ
      have hb5 : Below w.heap.size w (w3.setCell ⟨g, J0.length * 2 + 1, none⟩ (.slice a3 (xd.length + 1) c3)) := Below.grown hb4 (grown_set _ _ _ _) hb4.size (fun k e => by cases e; exact HWG.out)
      have OR := Lib.hid OQ
      have PR := Lib.hid PQ
      have GR : Hid ((J0 ++ [(⟨xt, a3, c3, xd ++ [⟨p, n⟩]⟩ : RI)]).map RI.it = group (L.take (k + 1))) := Lib.hid (by
        rw [HGS.out, HX.out.2, List.map_append]
        show J0.map RI.it ++ [⟨xt, xd ++ [⟨p, n⟩]⟩] = _
        rw [show xt = t from HX.out.1])
      have LR : Hid ((J0 ++ [(⟨xt, a3, c3, xd ++ [⟨p, n⟩]⟩ : RI)]).length ≤ k + 1 ∧ ∀ y ∈ J0 ++ [(⟨xt, a3, c3, xd ++ [⟨p, n⟩]⟩ : RI)], y.d.length ≤ k + 1) := Lib.hid ⟨by rw [List.length_append, List.length_singleton]; have := HL.out.1; omega, fun y hy => by
        rcases List.mem_append.1 hy with h | h
        · have := HL.out.2 y (List.mem_append_left _ h); omega
        · rw [List.mem_singleton.1 h]
          have := HL.out.2 _ (List.mem_append_right _ (List.mem_singleton_self _))
          simp only at this
          simp
          exact this⟩
      have hjw : wrap64 ((k : Int) + 1) = ((k + 1 : Nat) : Int) := by have := HNB.out; unfold wrap64; omega
      clear OQ PQ OP P4
      go_wp2
      go_roundw
      case rel => exact ⟨k + 1, _, by have := HK.out.1; omega, by rw [hjw], GR, OR, PR, LR, hb5⟩
      case measure => rw [hjw]; have := HK.out.1; simp only [intOf]; omega
    · skip
      go_simp
      refine hK.out _ _ (⟨hHeld.1.below (balloc (Below.refl _ _) _), (hHeld.1.below (balloc (Below.refl _ _) _)).cells.2.1, (hHeld.1.below (balloc (Below.refl _ _) _)).cells.2.2⟩) (fun hHeld => ?_)
      clear hK K
      try simp only [Act.put, List.setIfInBounds_toArray, List.set_cons_zero, List.set_cons_succ]
      refine wpAnyH_ready (rs := [4]) (by kernel_rfl) (by simp) ?_
      refine AllReadyH.cons (by simp only [List.getElem?_toArray, List.getElem?_cons_succ, List.getElem?_cons_zero]; rfl) (fun K hK => ?_) AllReadyH.nil
      go_simp
      refine hK.out _ _ (hHeld) (fun hHeld => ?_)
      clear hK K
      try simp only [Act.put, List.setIfInBounds_toArray, List.set_cons_zero, List.set_cons_succ]
      refine wpAnyH_ready (rs := [8]) (by kernel_rfl) (by simp) ?_
      refine AllReadyH.cons (by simp only [List.getElem?_toArray, List.getElem?_cons_succ, List.getElem?_cons_zero]; rfl) (fun K hK => ?_) AllReadyH.nil
      refine Row.step_app typD rfl _ _ rfl C (.slice xa xd.length xc) xd rfl ((H4.out.drew).alloc _) ⟨wc.heap.size, 0, none⟩ 1 1 [⟨p, n⟩] rfl (Row.lies_new (E := dE) (World.drew wc) ⟨p, n⟩ _) (by have h1 := HL.out.2 _ (List.mem_append_right _ (List.mem_singleton_self _)); have := HNB.out; simp only at h1; omega) (by show C ≤ (World.alloc wc _).heap.size; rw [World.size_alloc]; have := HC.out.2.1; omega) ?_; intro v3 w3 o3 g3 k3
      have kA := balloc (Below.drew (Below.refl wc.heap.size wc)) (.cells #[.string ⟨p.toArray⟩, .int .u64 (n : Int)] 31)
      have OA := OU.out.below kA
      have PA := Row.Own.below HO.out kA
      have HA := Row.Own.below H4.out kA
      have B3 := Lib.hid (hHeld.1.stand g3 HA (by decide))
      have P3 := Lib.hid (places_standD PA g3 HA)
      obtain ⟨a3, c3, rfl, -, -, -, -⟩ := Row.Own.lies o3
      have I3 : OwnI w3 w.heap.size (.slice (some ⟨g, 0, none⟩) (J0.length + 1) c) (J0 ++ [⟨xt, xa, xc, xd⟩]) := World.ownsRow.kept OA.row g3 (rows_ne OA.row HA ne_DI.symm)
      obtain ⟨g9, c9, e9, -, q1, q2, -, -⟩ := ptrI I3
      simp only [Value.slice.injEq, Option.some.injEq, Addr.mk.injEq, and_true, true_and] at e9
      obtain ⟨rfl, rfl⟩ := e9
      have OP := Lib.hid (OA.push HC.out.1 (Nat.le_trans HC.out.2.1 kA.size) (fun y hy => ⟨Row.Own.below (HC.out.2.2 y hy).1 kA, (HC.out.2.2 y hy).2⟩) HA rfl (X := ⟨xt, a3, c3, xd ++ [⟨p, n⟩]⟩) rfl o3 g3)
      have P4 := Lib.hid (World.ownsRow.kept P3.out (grown_set w3 g (J0.length * 2 + 1) (.slice a3 (xd ++ [(⟨p, n⟩ : M)]).length c3)) (rows_ne P3.out I3 ne_PI))
      have hb4 := (bstep hb kA).trans (k3.mono (Nat.le_trans HC.out.1 (Nat.le_refl _)))
      have hgb := I3
      clear kA OA PA HA o3 g3 k3 I3
      refine hK.out _ _ (⟨B3.out, (B3.out).cells.2.1, (B3.out).cells.2.2⟩) (fun hHeld => ?_)
      clear hK K
      try simp only [Act.put, List.setIfInBounds_toArray, List.set_cons_zero, List.set_cons_succ]
      refine wpAnyH_take (i := 9) (v := ?_) (by simp only [List.getElem?_toArray, List.getElem?_cons_succ, List.getElem?_cons_zero]; rfl) (by kernel_rfl) (by kernel_rfl) (by kernel_rfl) (fun _ _ _ h => h) (Or.inl ⟨by rfl, ?_⟩) (by assumption) ?_
      rotate_left
      · (intro w hSw; (try dsimp only at hSw); go_simp; try with_reducible rfl)
      try simp only [Act.put, List.setIfInBounds_toArray, List.set_cons_zero, List.set_cons_succ]
      refine wpAnyH_take (i := 10) (v := ?_) (by simp only [List.getElem?_toArray, List.getElem?_cons_succ, List.getElem?_cons_zero]; rfl) (by kernel_rfl) (by kernel_rfl) (by kernel_rfl) (fun _ _ _ h => h) (Or.inl ⟨by rfl, ?_⟩) (by assumption) ?_
      rotate_left
      · (intro w hSw; (try dsimp only at hSw); go_simp; try with_reducible rfl)
      try simp only [Act.put, List.setIfInBounds_toArray, List.set_cons_zero, List.set_cons_succ]
      refine wpAnyH_ready (rs := [11]) (by kernel_rfl) (by simp) ?_
      refine AllReadyH.cons (by simp only [List.getElem?_toArray, List.getElem?_cons_succ, List.getElem?_cons_zero]; rfl) (fun K hK => ?_) AllReadyH.nil
      go_simp
      refine hK.out _ _ (⟨B3.out.set HPG.out, (B3.out.set HPG.out).cells.2.1, (B3.out.set HPG.out).cells.2.2⟩) (fun hHeld => ?_)
      clear hK K
      refine wpAnyH_done (by kernel_rfl) ?_ _
      refine NoPanic.normal ?_
      clear hHeld
      have hlen1 : (xd ++ [(⟨p, n⟩ : M)]).length = xd.length + 1 := by simp
      have OQ := OP.out
      have PQ := P4.out
      simp only [hlen1] at OQ PQ
      have hb5 : Below w.heap.size w (w3.setCell ⟨g, J0.length * 2 + 1, none⟩ (.slice a3 (xd.length + 1) c3)) := Below.grown hb4 (grown_set _ _ _ _) hb4.size (fun k e => by cases e; exact HWG.out)
      have OR := Lib.hid OQ
      have PR := Lib.hid PQ
      have GR : Hid ((J0 ++ [(⟨xt, a3, c3, xd ++ [⟨p, n⟩]⟩ : RI)]).map RI.it = group (L.take (k + 1))) := Lib.hid (by
        rw [HGS.out, HX.out.2, List.map_append]
        show J0.map RI.it ++ [⟨xt, xd ++ [⟨p, n⟩]⟩] = _
        rw [show xt = t from HX.out.1])
      have LR : Hid ((J0 ++ [(⟨xt, a3, c3, xd ++ [⟨p, n⟩]⟩ : RI)]).length ≤ k + 1 ∧ ∀ y ∈ J0 ++ [(⟨xt, a3, c3, xd ++ [⟨p, n⟩]⟩ : RI)], y.d.length ≤ k + 1) := Lib.hid ⟨by rw [List.length_append, List.length_singleton]; have := HL.out.1; omega, fun y hy => by
        rcases List.mem_append.1 hy with h | h
        · have := HL.out.2 y (List.mem_append_left _ h); omega
        · rw [List.mem_singleton.1 h]
          have := HL.out.2 _ (List.mem_append_right _ (List.mem_singleton_self _))
          simp only at this
          simp
          exact this⟩
      have hjw : wrap64 ((k : Int) + 1) = ((k + 1 : Nat) : Int) := by have := HNB.out; unfold wrap64; omega
      clear OQ PQ OP P4
      go_wp2
      go_roundw
      case rel => exact ⟨k + 1, _, by have := HK.out.1; omega, by rw [hjw], GR, OR, PR, LR, hb5⟩
      case measure => rw [hjw]; have := HK.out.1; simp only [intOf]; omega
end Bag
end Go.Proofs.Ytnlbgjghckbbcaa
