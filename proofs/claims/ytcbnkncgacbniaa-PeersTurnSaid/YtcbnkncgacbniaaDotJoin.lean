
/- package dots: Join. -/
import Derived.Test.YtcbnkncgacbniaaDotCovers
import Derived.RangeFuncBox
namespace Go.Proofs.Ytcbnkncgacbniaa
namespace Dots
open Go.RowKit Go.Shelf Go.Proofs.Ytcbnkncgacbniaa.Mark
attribute [local go_sem] Oper.semAt_some

def joinM (x : P3) : M := ⟨x.p, max x.a x.b⟩
theorem rowFrom {β : Type} (B n₀ : Nat) (e : TypeId) (size g cap : Nat) (k : β → Nat) (f : β → List Value) : OwnFrom B (fun (s : β) W => W.ownsRow n₀ e size (.slice (some ⟨g, 0, none⟩) (k s) cap) (k s) (f s)) := fun s X Y row hs hg hr => by
  refine hs.kept hg (.inr fun e' => ?_)
  obtain ⟨_, ob, h1, h2⟩ := hr g e'.symm
  rcases hs.2 with ⟨h, _⟩ | ⟨g', cap', cur, h, _, hgb, _⟩
  · cases h
  · simp only [Value.slice.injEq, Option.some.injEq, Addr.mk.injEq, and_true, true_and] at h
    obtain ⟨rfl, rfl⟩ := h
    rw [hgb] at h1; cases h1; cases h2
theorem pairsF_len : ∀ (k : Nat) (A B : List M), (pairsF k A B).length ≤ A.length + B.length
  | 0, _, _ => by simp [pairsF]
  | _ + 1, [], [] => by simp [pairsF]
  | k + 1, x :: A, [] => by have := pairsF_len k A []; rw [pairsF]; simp at this ⊢; omega
  | k + 1, [], y :: B => by have := pairsF_len k [] B; rw [pairsF]; simp at this ⊢; omega
  | k + 1, x :: A, y :: B => by
    have h1 := pairsF_len k A (y :: B)
    have h2 := pairsF_len k A B
    have h3 := pairsF_len k (x :: A) B
    rw [pairsF]
    simp only [List.length_cons] at h1 h2 h3 ⊢
    split
    · simp only [List.length_cons]; omega
    · split <;> simp only [List.length_cons] <;> omega
theorem pairsL_len (A B : List M) : (pairsL A B).length ≤ A.length + B.length := pairsF_len _ _ _
theorem cells2_new (W : World) (u v : Value) (T : TypeId) : ∀ j z, ([u, v] : List Value)[j]? = some z → (W.alloc (.cells #[u, v] T)).cell? ((⟨W.heap.size, 0, none⟩ : Addr).add j) = some z := by
  intro j z h
  rw [Go.WideShapes.add_plain, World.cell?_alloc_new, Nat.zero_add]
  simpa using h

set_option maxRecDepth 100000 in
set_option maxHeartbeats 2000000 in
theorem join_in (L K : List M) (a1 a2 : Option Addr) (n1 n2 c1 c2 : Nat) (w : World) (hL : Lies w a1 n1 L) (hK : Lies w a2 n2 K) (hn1 : n1 ≤ 1099511627776) (hn2 : n2 ≤ 1099511627776) :
    CallsIn Fence.wide 10 Try.prog 29 #[.slice a1 n1 c1, .slice a2 n2 c2] w fun e w' => ∃ (R S : List M) (v : Value), IsVec R (ofL L) ∧ IsVec S (ofL K) ∧ e = .returned v ∧ Mark.Own w' w.heap.size v ((pairsL R S).map joinM) ∧ (pairsL R S).length ≤ n1 + n2 ∧ Below w.heap.size w w' := by
  obtain ⟨i0, hi, hz0, hz1, hz2⟩ := info_parts info_mark
  have C1 := Lib.hid (fun W (k : Below w.heap.size w W) => tidy_any L a1 n1 c1 W (hL.below k) hn1)
  have C2 := Lib.hid (fun W (k : Below w.heap.size w W) => tidy_any K a2 n2 c2 W (hK.below k) hn2)
  have h0 := Below.refl w.heap.size w
  have HL1 := Lib.hid hL.1
  have HL2 := Lib.hid hK.1
  clear hL hK
  refine callsIn_of_wp_marks Try.func29 rfl trivial ?_ rfl
  simp only [Try.ntmps29, List.size_toArray, List.length_cons, List.length_nil, Nat.reduceAdd, Nat.reduceSub, Array.replicate_succ, Array.replicate_zero, List.push_toArray, List.append_toArray, List.nil_append, List.cons_append]
  obtain ⟨m, hm⟩ : ∃ m, m = n1 + n2 := ⟨_, rfl⟩
  have hcast : (n1 : Int) + (n2 : Int) = (m : Int) := by omega
  have hm24 : i0.bytes * m ≤ 281474976710656 := by rw [hz2]; omega
  have hmx : m ≤ maxLen := by unfold maxLen; omega
  have HM := Lib.hid hm
  have HC := Lib.hid hcast
  clear hm hcast
  gi_wp2_with (gi_at_make; refine wpListIn_make_own _ rfl _ _ 25 rfl w.heap.size 55 i0 (.agg #[.string ⟨#[]⟩, .int .u64 0]) 2 Try.underlying25 hi hz0 hz1 _ _ _ m rfl rfl HC.out hm24 hmx (Nat.le_refl _) ?_; intro wm hrow hgm)
  have hgl := (hrow.lt w.heap.size rfl).2
  have hm0 : Below w.heap.size w wm := Below.grown h0 hgm (Nat.le_refl _) (fun k e => by cases e)
  obtain ⟨b0, hb0⟩ : ∃ b, b = wm.heap.size := ⟨_, rfl⟩
  have hBx := Boxed.new wm 25 (.slice (some ⟨w.heap.size, 0, none⟩) 0 m)
  rw [← hb0] at hBx hgl ⊢
  have hrw := hrow.alloc (.cells #[.slice (some ⟨w.heap.size, 0, none⟩) 0 m] 25)
  have hmb := balloc hm0 (.cells #[.slice (some ⟨w.heap.size, 0, none⟩) 0 m] 25)
  obtain ⟨wb, hwb⟩ : ∃ wb, wm.alloc (.cells #[.slice (some ⟨w.heap.size, 0, none⟩) 0 m] 25) = wb := ⟨_, rfl⟩
  have hsb : wb.heap.size = b0 + 1 := by rw [← hwb, hb0]; simp
  rw [hwb] at hBx hrw hmb ⊢
  clear hwb hb0 hrow hgm hm0
  refine ⟨trivial, (callsIn_wide.2 (C1.out _ hmb)).mono ?_⟩
  rintro e w1 ⟨v1, R, rfl, hR, hRl, o1, k1⟩
  have h1 := bstep hmb k1
  have s1 := k1.size
  gi_wp2_with fail
  refine ⟨trivial, (callsIn_wide.2 (C2.out _ h1)).mono ?_⟩
  rintro e w2 ⟨v2, S, rfl, hS, hSl, o2, k2⟩
  have h2 := bstep h1 k2
  obtain ⟨aA, aB, cA, cB, rfl, rfl, HRW⟩ := rows_of (n1 := wb.heap.size) rfl o1 s1 o2 k2
  gi_wp2_with fail
  refine ⟨trivial, (callsIn_wide.2 (pairs_w aA aB R.length cA S.length cB _)).mono ?_⟩
  rintro e w3 ⟨rfl, rfl⟩
  have hB2 := (hBx.kept (grown_of k1) (by simp)).kept (grown_of k2) (by simp)
  have hr2 := (hrw.kept (grown_of k1) (Classical.em _)).kept (grown_of k2) (Classical.em _)
  have s2 := h2.size
  have s3 : wb.heap.size ≤ w2.heap.size := Nat.le_trans s1 k2.size
  gi_wp2_with fail
  obtain ⟨W0, hW0⟩ : ∃ W0, ((w2.alloc (.cells #[.slice aA R.length cA] 25)).alloc (.cells #[.slice aB S.length cB] 25)) = W0 := ⟨_, rfl⟩
  have hD3 : Boxed W0 b0 25 (.slice (some ⟨w.heap.size, 0, none⟩) 0 m) := by rw [← hW0]; exact (hB2.alloc _).alloc _
  have hr3 := (hr2.alloc (.cells #[.slice aA R.length cA] 25)).alloc (.cells #[.slice aB S.length cB] 25)
  have hB3 : Below w.heap.size w W0 := by rw [← hW0]; exact balloc (balloc h2 _) _
  have hs3 : W0.heap.size = w2.heap.size + 1 + 1 := by rw [← hW0]; simp
  rw [hW0] at HRW hr3 ⊢
  have hrl : R.length ≤ 1099511627776 := by have := HL1.out; omega
  have hsl : S.length ≤ 1099511627776 := by have := HL2.out; omega
  have hsum : R.length + S.length ≤ m := by have := HL1.out; have := HL2.out; have := HM.out; omega
  have hgW : w.heap.size < b0 := hgl
  clear hW0 hBx hB2 hr2 hrw k1 k2 o1 o2 s1 h1 hRl hSl hmb hgl
  refine wpIn_rangeFunc_ownH (α := P3) (encs := fun x => #[x.agg]) (Kp := Mid wb.heap.size (w2.heap.size + 1 + 1)) rfl (by decide) (gf := 49) (lb := #[.pointer (some ⟨w2.heap.size, 0, none⟩), .pointer (some ⟨w2.heap.size + 1, 0, none⟩)]) rfl trivial (enters_of Try.func49 (by kernel_rfl) rfl)
    (pairs_stops 9 (by decide) wb.heap.size (w2.heap.size + 1 + 1) w2.heap.size (w2.heap.size + 1) aA aB cA cB R S W0 HRW (by omega) hrl hsl) mid_t (mid_b (by omega)) (Below.refl _ _) (fun _ => rfl)
    (fun pre W => Boxed W b0 25 (.slice (some ⟨w.heap.size, 0, none⟩) pre.length m) ∧ W.ownsRow w.heap.size 55 2 (.slice (some ⟨w.heap.size, 0, none⟩) pre.length m) pre.length (flat (pre.map joinM)) ∧ W0.heap.size ≤ W.heap.size ∧ Below w.heap.size w W)
    (fun _ _ _ => False)
    (OwnFrom.and ((boxed_own _ _ (fun pre : List P3 => Value.slice (some ⟨w.heap.size, 0, none⟩) pre.length m)).from _) (OwnFrom.and (rowFrom _ _ _ _ _ _ (fun pre : List P3 => pre.length) (fun pre => flat (pre.map joinM))) (OwnFrom.and (fun s W W' row hs hg _ => Nat.le_trans hs hg.size) (ownFrom_below (Nat.le_refl _) (by omega)))))
    (fun c s W W' row hs _ _ => hs)
    ⟨hD3, hr3, Nat.le_refl _, hB3⟩
    (fun x a' W => ∃ Bx, W0.heap.size ≤ Bx ∧ Box3 W Bx x ∧ a' = { tmps := #[.slice a1 n1 c1, .slice a2 n2 c2, undef, undef, .slice none 0 0, .pointer (some ⟨b0, 0, none⟩), .pointer (some ⟨Bx, 0, none⟩), .slice a1 n1 c1, .int .i64 (n1 : Int), .slice a2 n2 c2, .int .i64 (n2 : Int), .int .i64 ((n1 : Int) + (n2 : Int)), .slice (some ⟨w.heap.size, 0, none⟩) 0 m, .slice a1 n1 c1, .slice aA R.length cA, .slice a2 n2 c2, .slice aB S.length cB, .func (.func 49) #[] #[.pointer (some ⟨w2.heap.size, 0, none⟩), .pointer (some ⟨w2.heap.size + 1, 0, none⟩)], x.agg, undef, undef, undef, undef, undef, undef, undef, undef, undef, undef, undef, undef], defers := [] })
    (fun x a' s W W' row hs hg hr => by obtain ⟨Bx, h1, h2, h3⟩ := hs; exact ⟨Bx, h1, (box3_own Bx x) s W W' row h2 hg (fun r e => (hr r e).2), h3⟩) ?assign ?body ?done ?stop
  case assign =>
    rintro l pre ⟨xp, xa, xb⟩ W K ⟨hD, hrow, hsz, hB⟩ hK
    simp only [P3.agg] at hK ⊢
    have hws := hB.size
    gi_wp2
    exact hK _ _ ((KeepsOthers.alloc _ _).from _) (mid_below ((balloc (Below.refl W.heap.size W) _).mono (by omega))) ⟨hD.alloc _, hrow.alloc _, by simp; omega, balloc hB _⟩ ⟨W.heap.size, hsz, World.alloc_heap_new W _, rfl⟩
  case body =>
    rintro l pre ⟨xp, xa, xb⟩ a' W hl ⟨r, hr⟩ ⟨hD, hrow, hsz, hB⟩ ⟨Bx, hBx, hbx, rfl⟩ hlt
    obtain ⟨e1, e2, e3⟩ := hbx.cells
    have q1 := hD.lt
    have q2 := hD.cell
    have q3 := hD.frozen
    have q4 := hbx
    have q5 : Bx < W.heap.size := (Array.getElem?_eq_some_iff.1 q4).1
    have hBn := hB.size
    clear q4
    simp only at e1 e2 e3
    have hmax : ((max xa xb : Nat) : Int) = max (xa : Int) (xb : Int) := by omega
    gi_wp2_with (gi_at_builtin; refine wpListIn_append_fits _ rfl _ _ 25 rfl w.heap.size 55 i0 2 Try.underlying25 hi hz1 w.heap.size pre.length m (flat (pre.map joinM)) rfl (hrow.alloc _) ⟨W.heap.size, 0, none⟩ 1 1 [.string ⟨xp.toArray⟩, .int .u64 (max (xa : Int) (xb : Int))] rfl rfl (cells2_new _ _ _ _) (by simp [Value.oneCell']) (by omega) ?_; intro w9 hown' hgrow; have hb9 := hD.appended (by decide) hrow hBn (by omega) hown' hgrow; have hc1 := hb9.1.cell; have hf1 := hb9.1.frozen)
    obtain ⟨_, hv2, hr2, hk2, hb2⟩ := hb9
    have hfl : flat (pre.map joinM) ++ [.string ⟨xp.toArray⟩, .int .u64 (max (xa : Int) (xb : Int))] = flat ((pre ++ [(⟨xp, xa, xb⟩ : P3)]).map joinM) := by
      rw [List.map_append, flat_append, ← hmax]; rfl
    rw [hfl] at hr2
    refine ⟨hk2.from _, ⟨hk2.size, fun k h1 h2 => ?_⟩, by rw [List.length_append]; exact hv2, by rw [List.length_append]; exact hr2, Nat.le_trans hsz hk2.size, hB.trans hb2⟩
    rw [Below.heap_setCell _ _ _ k (by simp; omega), hgrow.block k (by simp; omega) (by simp; omega), Below.heap_alloc _ _ k (by omega)]
  case done =>
    rintro D xs W hD hxs ⟨hDb, hrow, hsz, hB⟩ hK
    have q1 := hDb.lt
    have q2 := hDb.cell
    have HX := Lib.hid hxs
    clear hxs
    gi_wp2
    have hK2 : W.heap[D]? = some (.deferred (some [])) := hK
    refine ⟨by simp, .inl ⟨_, _, rfl, run_takeDeferred hK2, ?_⟩⟩
    have hr9 := ownsRow_putObj hrow (.deferred none) hK2 rfl
    have hx := HX.out
    refine ⟨_, results_tmp rfl _ _ _, R, S, _, hR, hS, rfl, ?_, ?_, hB.trans (belowK_b (w := w) (Nat.le_refl _) _ D _ _ (by omega) hK2 rfl rfl)⟩
    · unfold Mark.Own; rw [← hx, List.length_map]; exact hr9
    · have := pairsL_len R S; have := HM.out; omega
  case stop =>
    rintro D c pre W _ _ h _
    exact h.elim
end Dots
end Go.Proofs.Ytcbnkncgacbniaa
