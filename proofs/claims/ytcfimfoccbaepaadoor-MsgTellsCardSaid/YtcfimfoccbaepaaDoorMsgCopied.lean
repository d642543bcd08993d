/- the laws' copied: a message of its own. -/
import Derived.Test.YtcfimfoccbaepaaDoorMsgDec
import Derived.Deep.Slices
import Derived.Deep.CutBlock
namespace Go.Proofs.YtcfimfoccbaepaaDoor
namespace Mark
open Go.RowKit
theorem Lies.at {w : World} {b off n : Nat} {L : List M} (h : Lies w (some ⟨b, off, none⟩) n L) : ∀ j u, (flat L)[j]? = some u → w.cell? ((⟨b, off, none⟩ : Addr).add j) = some u := by
  intro j u hu
  have hj : j < L.length * 2 := by rw [← flat_length]; exact (List.getElem?_eq_some_iff.1 hu).1
  obtain ⟨b', off', e, hc⟩ := h.2 (by rw [h.1]; omega)
  simp only [Option.some.injEq, Addr.mk.injEq, and_true] at e
  obtain ⟨rfl, rfl⟩ := e
  rw [Go.WideShapes.add_plain]
  have hg := flat_get L (j / 2) (by omega)
  obtain ⟨c1, c2⟩ := hc (j / 2) (by omega)
  have h2 : j % 2 = 0 ∨ j % 2 = 1 := by omega
  rcases h2 with h2 | h2
  · rw [show j / 2 * 2 = j by omega, hu] at hg
    rw [show off + j / 2 * 2 = off + j by omega] at c1
    rw [c1, hg.1]
  · rw [show j / 2 * 2 + 1 = j by omega, hu] at hg
    rw [show off + j / 2 * 2 + 1 = off + j by omega] at c2
    rw [c2, hg.2]
end Mark
namespace Msg
open Go.RowKit Go.Proofs.YtcfimfoccbaepaaDoor.Mark Go.Proofs.YtcfimfoccbaepaaDoor.Num Go.Proofs.YtcfimfoccbaepaaDoor.Wire

set_option maxRecDepth 100000 in
set_option maxHeartbeats 4000000 in
theorem copied_any (k : Nat) (src dst fr : List UInt8) (sq : Nat) (R : List M) (id : Nat) (ii nn : Int) (tx : List UInt8) (a : Option Addr) (c : Nat) (w : World) (hL : Lies w a R.length R) (hn : R.length ≤ 1099511627776) :
    Calls Tryd.prog 12 #[.agg #[.int .u8 (k : Int), .string ⟨src.toArray⟩, .string ⟨dst.toArray⟩, .string ⟨fr.toArray⟩, .int .u64 (sq : Int), .slice a R.length c, .int .u64 (id : Int), .int .i64 ii, .int .i64 nn, .string ⟨tx.toArray⟩]] w fun e w' => ∃ a2 c2, e = .returned (.agg ((G.mk k src dst fr sq R id ii nn tx).cells a2 c2)) ∧ Lies w' a2 R.length R ∧ (∀ q, a2 = some q → w.heap.size ≤ q.block) ∧ Below w.heap.size w w' := by
  obtain ⟨i0, hi, hz0, hz1, hz2⟩ := info_parts info_mark
  have hb := Below.refl w.heap.size w
  have bx : Box (w.alloc (.cells #[.int .u8 (k : Int), .string ⟨src.toArray⟩, .string ⟨dst.toArray⟩, .string ⟨fr.toArray⟩, .int .u64 (sq : Int), .slice a R.length c, .int .u64 (id : Int), .int .i64 ii, .int .i64 nn, .string ⟨tx.toArray⟩] 27)) w.heap.size #[.int .u8 (k : Int), .string ⟨src.toArray⟩, .string ⟨dst.toArray⟩, .string ⟨fr.toArray⟩, .int .u64 (sq : Int), .slice a R.length c, .int .u64 (id : Int), .int .i64 ii, .int .i64 nn, .string ⟨tx.toArray⟩] := Box.new w _ _
  cases a with
  | none =>
    have hl0 : R = [] := by
      rcases Nat.eq_zero_or_pos R.length with h | h
      · exact List.length_eq_zero_iff.1 h
      · obtain ⟨_, _, e, _⟩ := hL.2 h; cases e
    subst hl0
    clear hL
    simp only [List.length_nil] at bx ⊢
    go_enter Tryd.func12, Tryd.ntmps12
    have x0 := bx 0 _ rfl
    have x1 := bx 1 _ rfl
    have x2 := bx 2 _ rfl
    have x3 := bx 3 _ rfl
    have x4 := bx 4 _ rfl
    have x5 := bx 5 _ rfl
    have x6 := bx 6 _ rfl
    have x7 := bx 7 _ rfl
    have x8 := bx 8 _ rfl
    have x9 := bx 9 _ rfl
    go_wp2
    refine bodyPost_ret (v := .agg #[.int .u8 (k : Int), .string ⟨src.toArray⟩, .string ⟨dst.toArray⟩, .string ⟨fr.toArray⟩, .int .u64 (sq : Int), .slice none 0 0, .int .u64 (id : Int), .int .i64 ii, .int .i64 nn, .string ⟨tx.toArray⟩]) (by simp [results, Tryd.results12, go_sem]) rfl ?_
    exact ⟨none, 0, rfl, Lies.nil _ _, fun q e => (by cases e), balloc (balloc (balloc hb _) _) _⟩
  | some q =>
    have hnl := hL.1
    have HL := Lib.hid hL
    clear hL
    go_enter Tryd.func12, Tryd.ntmps12
    have x0 := bx 0 _ rfl
    have x1 := bx 1 _ rfl
    have x2 := bx 2 _ rfl
    have x3 := bx 3 _ rfl
    have x4 := bx 4 _ rfl
    have x5 := bx 5 _ rfl
    have x6 := bx 6 _ rfl
    have x7 := bx 7 _ rfl
    have x8 := bx 8 _ rfl
    have x9 := bx 9 _ rfl
    have hnews : ∀ j u, (flat R)[j]? = some u → (((w.alloc (.cells #[.int .u8 (k : Int), .string ⟨src.toArray⟩, .string ⟨dst.toArray⟩, .string ⟨fr.toArray⟩, .int .u64 (sq : Int), .slice (some q) R.length c, .int .u64 (id : Int), .int .i64 ii, .int .i64 nn, .string ⟨tx.toArray⟩] 27)).alloc (.cells #[.int .u8 0, .string ⟨#[]⟩, .string ⟨#[]⟩, .string ⟨#[]⟩, .int .u64 0, .slice none 0 0, .int .u64 0, .int .i64 0, .int .i64 0, .string ⟨#[]⟩] 27)).alloc (.cells #[.int .u8 (k : Int), .string ⟨src.toArray⟩, .string ⟨dst.toArray⟩, .string ⟨fr.toArray⟩, .int .u64 (sq : Int), .slice (some q) R.length c, .int .u64 (id : Int), .int .i64 ii, .int .i64 nn, .string ⟨tx.toArray⟩] 27)).cell? (q.add j) = some u := fun j u hu => by
      have hj : j < R.length * 2 := by rw [← flat_length]; exact (List.getElem?_eq_some_iff.1 hu).1
      obtain ⟨b, off, e, _⟩ := HL.out.2 (by omega)
      obtain rfl : q = ⟨b, off, none⟩ := Option.some.inj e
      exact Lib.cell?_alloc_some _ (Lib.cell?_alloc_some _ (Lib.cell?_alloc_some _ (HL.out.at j u hu)))
    have HN := Lib.hid hnews
    have HF := Lib.hid (flat_length R)
    have HB : Hid (Below w.heap.size w (((w.alloc (.cells #[.int .u8 (k : Int), .string ⟨src.toArray⟩, .string ⟨dst.toArray⟩, .string ⟨fr.toArray⟩, .int .u64 (sq : Int), .slice (some q) R.length c, .int .u64 (id : Int), .int .i64 ii, .int .i64 nn, .string ⟨tx.toArray⟩] 27)).alloc (.cells #[.int .u8 0, .string ⟨#[]⟩, .string ⟨#[]⟩, .string ⟨#[]⟩, .int .u64 0, .slice none 0 0, .int .u64 0, .int .i64 0, .int .i64 0, .string ⟨#[]⟩] 27)).alloc (.cells #[.int .u8 (k : Int), .string ⟨src.toArray⟩, .string ⟨dst.toArray⟩, .string ⟨fr.toArray⟩, .int .u64 (sq : Int), .slice (some q) R.length c, .int .u64 (id : Int), .int .i64 ii, .int .i64 nn, .string ⟨tx.toArray⟩] 27))) := Lib.hid (balloc (balloc (balloc hb _) _) _)
    have HX : Hid ((((w.alloc (.cells #[.int .u8 (k : Int), .string ⟨src.toArray⟩, .string ⟨dst.toArray⟩, .string ⟨fr.toArray⟩, .int .u64 (sq : Int), .slice (some q) R.length c, .int .u64 (id : Int), .int .i64 ii, .int .i64 nn, .string ⟨tx.toArray⟩] 27)).alloc (.cells #[.int .u8 0, .string ⟨#[]⟩, .string ⟨#[]⟩, .string ⟨#[]⟩, .int .u64 0, .slice none 0 0, .int .u64 0, .int .i64 0, .int .i64 0, .string ⟨#[]⟩] 27)).alloc (.cells #[.int .u8 (k : Int), .string ⟨src.toArray⟩, .string ⟨dst.toArray⟩, .string ⟨fr.toArray⟩, .int .u64 (sq : Int), .slice (some q) R.length c, .int .u64 (id : Int), .int .i64 ii, .int .i64 nn, .string ⟨tx.toArray⟩] 27)).heap[w.heap.size + 1 + 1]? = some (.cells #[.int .u8 (k : Int), .string ⟨src.toArray⟩, .string ⟨dst.toArray⟩, .string ⟨fr.toArray⟩, .int .u64 (sq : Int), .slice (some q) R.length c, .int .u64 (id : Int), .int .i64 ii, .int .i64 nn, .string ⟨tx.toArray⟩] 27 (0, 0))) := Lib.hid (by have := heap_at1 ((w.alloc (.cells #[.int .u8 (k : Int), .string ⟨src.toArray⟩, .string ⟨dst.toArray⟩, .string ⟨fr.toArray⟩, .int .u64 (sq : Int), .slice (some q) R.length c, .int .u64 (id : Int), .int .i64 ii, .int .i64 nn, .string ⟨tx.toArray⟩] 27)).alloc (.cells #[.int .u8 0, .string ⟨#[]⟩, .string ⟨#[]⟩, .string ⟨#[]⟩, .int .u64 0, .slice none 0 0, .int .u64 0, .int .i64 0, .int .i64 0, .string ⟨#[]⟩] 27)) (.cells #[.int .u8 (k : Int), .string ⟨src.toArray⟩, .string ⟨dst.toArray⟩, .string ⟨fr.toArray⟩, .int .u64 (sq : Int), .slice (some q) R.length c, .int .u64 (id : Int), .int .i64 ii, .int .i64 nn, .string ⟨tx.toArray⟩] 27); simpa using this)
    have HZ : Hid ((((w.alloc (.cells #[.int .u8 (k : Int), .string ⟨src.toArray⟩, .string ⟨dst.toArray⟩, .string ⟨fr.toArray⟩, .int .u64 (sq : Int), .slice (some q) R.length c, .int .u64 (id : Int), .int .i64 ii, .int .i64 nn, .string ⟨tx.toArray⟩] 27)).alloc (.cells #[.int .u8 0, .string ⟨#[]⟩, .string ⟨#[]⟩, .string ⟨#[]⟩, .int .u64 0, .slice none 0 0, .int .u64 0, .int .i64 0, .int .i64 0, .string ⟨#[]⟩] 27)).alloc (.cells #[.int .u8 (k : Int), .string ⟨src.toArray⟩, .string ⟨dst.toArray⟩, .string ⟨fr.toArray⟩, .int .u64 (sq : Int), .slice (some q) R.length c, .int .u64 (id : Int), .int .i64 ii, .int .i64 nn, .string ⟨tx.toArray⟩] 27)).heap[w.heap.size + 1]? = some (.cells #[.int .u8 0, .string ⟨#[]⟩, .string ⟨#[]⟩, .string ⟨#[]⟩, .int .u64 0, .slice none 0 0, .int .u64 0, .int .i64 0, .int .i64 0, .string ⟨#[]⟩] 27 (0, 0))) := Lib.hid (by have := heap_at2 (w.alloc (.cells #[.int .u8 (k : Int), .string ⟨src.toArray⟩, .string ⟨dst.toArray⟩, .string ⟨fr.toArray⟩, .int .u64 (sq : Int), .slice (some q) R.length c, .int .u64 (id : Int), .int .i64 ii, .int .i64 nn, .string ⟨tx.toArray⟩] 27)) (.cells #[.int .u8 0, .string ⟨#[]⟩, .string ⟨#[]⟩, .string ⟨#[]⟩, .int .u64 0, .slice none 0 0, .int .u64 0, .int .i64 0, .int .i64 0, .string ⟨#[]⟩] 27) (.cells #[.int .u8 (k : Int), .string ⟨src.toArray⟩, .string ⟨dst.toArray⟩, .string ⟨fr.toArray⟩, .int .u64 (sq : Int), .slice (some q) R.length c, .int .u64 (id : Int), .int .i64 ii, .int .i64 nn, .string ⟨tx.toArray⟩] 27); simpa using this)
    clear hnews hnl bx
    go_upto_region 3 with (at_builtin; refine wpList_append_own _ rfl _ _ 23 rfl (w.heap.size + 3) 47 i0 (.agg #[.string ⟨#[]⟩, .int .u64 0]) 2 24 Tryd.underlying23 hi hz0 hz1 hz2 rfl (by decide) _ 0 [] rfl (World.ownsRow_nil _ _ _ _) q R.length c (flat R) rfl HF.out HN.out (flat_one R) (by unfold maxLen; omega) (by omega) (by simp only [World.size_alloc]; omega) ?_; intro v1 w1 hown hgrow _; rw [Nat.zero_add, List.nil_append] at hown; obtain ⟨a2, c2, rfl, _, _, lies, far⟩ := lies_own hown; have kb : Below (w.heap.size + 3) _ w1 := Below.grown (Below.refl _ _) hgrow (by simp only [World.size_alloc]; omega) (fun k hk => by cases hk); have hx := (kb.block (w.heap.size + 1 + 1) (by omega)).trans HX.out; have hz := (kb.block (w.heap.size + 1) (by omega)).trans HZ.out; have hb1 := HB.out.trans (kb.mono (by omega)); have fx := Lib.frozen_of_heap hx 5; have cx : w1.cell? ⟨w.heap.size + 1 + 1, 5, none⟩ = some (.slice (some q) R.length c) := (Lib.cell_of_heap hx 5).trans rfl)
    have hx2 : (w1.setCell ⟨w.heap.size + 1 + 1, 5, none⟩ (.slice a2 R.length c2)).heap[w.heap.size + 1 + 1]? = some (.cells #[.int .u8 (k : Int), .string ⟨src.toArray⟩, .string ⟨dst.toArray⟩, .string ⟨fr.toArray⟩, .int .u64 (sq : Int), .slice a2 R.length c2, .int .u64 (id : Int), .int .i64 ii, .int .i64 nn, .string ⟨tx.toArray⟩] 27 (0, 0)) := Joins.block_setCell hx _
    have hz2 : (w1.setCell ⟨w.heap.size + 1 + 1, 5, none⟩ (.slice a2 R.length c2)).heap[w.heap.size + 1]? = some (.cells #[.int .u8 0, .string ⟨#[]⟩, .string ⟨#[]⟩, .string ⟨#[]⟩, .int .u64 0, .slice none 0 0, .int .u64 0, .int .i64 0, .int .i64 0, .string ⟨#[]⟩] 27 (0, 0)) := (Below.heap_setCell w1 _ _ _ (by simp)).trans hz
    have far1 : ∀ q, a2 = some q → q.block ≠ w.heap.size + 1 := fun q e => by have := far q e; omega
    have far2 : ∀ q, a2 = some q → q.block ≠ w.heap.size + 1 + 1 := fun q e => by have := far q e; omega
    have far0 : ∀ q, a2 = some q → w.heap.size ≤ q.block := fun q e => by have := far q e; omega
    have lies2 := lies_set lies (p := ⟨w.heap.size + 1 + 1, 5, none⟩) far2 (.slice a2 R.length c2)
    have hb2 := hb1.setCell (p := ⟨w.heap.size + 1 + 1, 5, none⟩) (by simp only; omega) (.slice a2 R.length c2)
    clear hx hz hb1 kb fx cx hown lies hgrow
    have hx := hx2
    have hz := hz2
    have hb1 := hb2
    clear hx2 hz2 hb2
    have xx0 : (w1.setCell ⟨w.heap.size + 1 + 1, 5, none⟩ (.slice a2 R.length c2)).cell? ⟨w.heap.size + 1 + 1, 0, none⟩ = some (.int .u8 (k : Int)) := (Lib.cell_of_heap hx 0).trans rfl
    have xx1 : (w1.setCell ⟨w.heap.size + 1 + 1, 5, none⟩ (.slice a2 R.length c2)).cell? ⟨w.heap.size + 1 + 1, 1, none⟩ = some (.string ⟨src.toArray⟩) := (Lib.cell_of_heap hx 1).trans rfl
    have xx2 : (w1.setCell ⟨w.heap.size + 1 + 1, 5, none⟩ (.slice a2 R.length c2)).cell? ⟨w.heap.size + 1 + 1, 2, none⟩ = some (.string ⟨dst.toArray⟩) := (Lib.cell_of_heap hx 2).trans rfl
    have xx3 : (w1.setCell ⟨w.heap.size + 1 + 1, 5, none⟩ (.slice a2 R.length c2)).cell? ⟨w.heap.size + 1 + 1, 3, none⟩ = some (.string ⟨fr.toArray⟩) := (Lib.cell_of_heap hx 3).trans rfl
    have xx4 : (w1.setCell ⟨w.heap.size + 1 + 1, 5, none⟩ (.slice a2 R.length c2)).cell? ⟨w.heap.size + 1 + 1, 4, none⟩ = some (.int .u64 (sq : Int)) := (Lib.cell_of_heap hx 4).trans rfl
    have xx5 : (w1.setCell ⟨w.heap.size + 1 + 1, 5, none⟩ (.slice a2 R.length c2)).cell? ⟨w.heap.size + 1 + 1, 5, none⟩ = some (.slice a2 R.length c2) := (Lib.cell_of_heap hx 5).trans rfl
    have xx6 : (w1.setCell ⟨w.heap.size + 1 + 1, 5, none⟩ (.slice a2 R.length c2)).cell? ⟨w.heap.size + 1 + 1, 6, none⟩ = some (.int .u64 (id : Int)) := (Lib.cell_of_heap hx 6).trans rfl
    have xx7 : (w1.setCell ⟨w.heap.size + 1 + 1, 5, none⟩ (.slice a2 R.length c2)).cell? ⟨w.heap.size + 1 + 1, 7, none⟩ = some (.int .i64 ii) := (Lib.cell_of_heap hx 7).trans rfl
    have xx8 : (w1.setCell ⟨w.heap.size + 1 + 1, 5, none⟩ (.slice a2 R.length c2)).cell? ⟨w.heap.size + 1 + 1, 8, none⟩ = some (.int .i64 nn) := (Lib.cell_of_heap hx 8).trans rfl
    have xx9 : (w1.setCell ⟨w.heap.size + 1 + 1, 5, none⟩ (.slice a2 R.length c2)).cell? ⟨w.heap.size + 1 + 1, 9, none⟩ = some (.string ⟨tx.toArray⟩) := (Lib.cell_of_heap hx 9).trans rfl
    have zz0 : (w1.setCell ⟨w.heap.size + 1 + 1, 5, none⟩ (.slice a2 R.length c2)).cell? ⟨w.heap.size + 1, 0, none⟩ = some (.int .u8 0) := (Lib.cell_of_heap hz 0).trans rfl
    have zz1 : (w1.setCell ⟨w.heap.size + 1 + 1, 5, none⟩ (.slice a2 R.length c2)).cell? ⟨w.heap.size + 1, 1, none⟩ = some (.string ⟨#[]⟩) := (Lib.cell_of_heap hz 1).trans rfl
    have zz2 : (w1.setCell ⟨w.heap.size + 1 + 1, 5, none⟩ (.slice a2 R.length c2)).cell? ⟨w.heap.size + 1, 2, none⟩ = some (.string ⟨#[]⟩) := (Lib.cell_of_heap hz 2).trans rfl
    have zz3 : (w1.setCell ⟨w.heap.size + 1 + 1, 5, none⟩ (.slice a2 R.length c2)).cell? ⟨w.heap.size + 1, 3, none⟩ = some (.string ⟨#[]⟩) := (Lib.cell_of_heap hz 3).trans rfl
    have zz4 : (w1.setCell ⟨w.heap.size + 1 + 1, 5, none⟩ (.slice a2 R.length c2)).cell? ⟨w.heap.size + 1, 4, none⟩ = some (.int .u64 0) := (Lib.cell_of_heap hz 4).trans rfl
    have zz5 : (w1.setCell ⟨w.heap.size + 1 + 1, 5, none⟩ (.slice a2 R.length c2)).cell? ⟨w.heap.size + 1, 5, none⟩ = some (.slice none 0 0) := (Lib.cell_of_heap hz 5).trans rfl
    have zz6 : (w1.setCell ⟨w.heap.size + 1 + 1, 5, none⟩ (.slice a2 R.length c2)).cell? ⟨w.heap.size + 1, 6, none⟩ = some (.int .u64 0) := (Lib.cell_of_heap hz 6).trans rfl
    have zz7 : (w1.setCell ⟨w.heap.size + 1 + 1, 5, none⟩ (.slice a2 R.length c2)).cell? ⟨w.heap.size + 1, 7, none⟩ = some (.int .i64 0) := (Lib.cell_of_heap hz 7).trans rfl
    have zz8 : (w1.setCell ⟨w.heap.size + 1 + 1, 5, none⟩ (.slice a2 R.length c2)).cell? ⟨w.heap.size + 1, 8, none⟩ = some (.int .i64 0) := (Lib.cell_of_heap hz 8).trans rfl
    have zz9 : (w1.setCell ⟨w.heap.size + 1 + 1, 5, none⟩ (.slice a2 R.length c2)).cell? ⟨w.heap.size + 1, 9, none⟩ = some (.string ⟨#[]⟩) := (Lib.cell_of_heap hz 9).trans rfl
    have fz := fun j => Lib.frozen_of_heap hz j
    have bz0 := hb1
    have lz0 := lies2
    have e0 : ((w1.setCell ⟨w.heap.size + 1 + 1, 5, none⟩ (.slice a2 R.length c2)).setCell ⟨w.heap.size + 1, 0, none⟩ (.int .u8 (k : Int))).heap[w.heap.size + 1]? = some (.cells #[.int .u8 (k : Int), .string ⟨#[]⟩, .string ⟨#[]⟩, .string ⟨#[]⟩, .int .u64 0, .slice none 0 0, .int .u64 0, .int .i64 0, .int .i64 0, .string ⟨#[]⟩] 27 (0, 0)) := Joins.block_setCell hz _
    have lz1 := lies_set lz0 (p := ⟨w.heap.size + 1, 0, none⟩) far1 (.int .u8 (k : Int))
    have bz1 := bz0.setCell (p := ⟨w.heap.size + 1, 0, none⟩) (by simp only; omega) (.int .u8 (k : Int))
    have e1 : (((w1.setCell ⟨w.heap.size + 1 + 1, 5, none⟩ (.slice a2 R.length c2)).setCell ⟨w.heap.size + 1, 0, none⟩ (.int .u8 (k : Int))).setCell ⟨w.heap.size + 1, 1, none⟩ (.string ⟨src.toArray⟩)).heap[w.heap.size + 1]? = some (.cells #[.int .u8 (k : Int), .string ⟨src.toArray⟩, .string ⟨#[]⟩, .string ⟨#[]⟩, .int .u64 0, .slice none 0 0, .int .u64 0, .int .i64 0, .int .i64 0, .string ⟨#[]⟩] 27 (0, 0)) := Joins.block_setCell e0 _
    have lz2 := lies_set lz1 (p := ⟨w.heap.size + 1, 1, none⟩) far1 (.string ⟨src.toArray⟩)
    have bz2 := bz1.setCell (p := ⟨w.heap.size + 1, 1, none⟩) (by simp only; omega) (.string ⟨src.toArray⟩)
    have e2 : ((((w1.setCell ⟨w.heap.size + 1 + 1, 5, none⟩ (.slice a2 R.length c2)).setCell ⟨w.heap.size + 1, 0, none⟩ (.int .u8 (k : Int))).setCell ⟨w.heap.size + 1, 1, none⟩ (.string ⟨src.toArray⟩)).setCell ⟨w.heap.size + 1, 2, none⟩ (.string ⟨dst.toArray⟩)).heap[w.heap.size + 1]? = some (.cells #[.int .u8 (k : Int), .string ⟨src.toArray⟩, .string ⟨dst.toArray⟩, .string ⟨#[]⟩, .int .u64 0, .slice none 0 0, .int .u64 0, .int .i64 0, .int .i64 0, .string ⟨#[]⟩] 27 (0, 0)) := Joins.block_setCell e1 _
    have lz3 := lies_set lz2 (p := ⟨w.heap.size + 1, 2, none⟩) far1 (.string ⟨dst.toArray⟩)
    have bz3 := bz2.setCell (p := ⟨w.heap.size + 1, 2, none⟩) (by simp only; omega) (.string ⟨dst.toArray⟩)
    have e3 : (((((w1.setCell ⟨w.heap.size + 1 + 1, 5, none⟩ (.slice a2 R.length c2)).setCell ⟨w.heap.size + 1, 0, none⟩ (.int .u8 (k : Int))).setCell ⟨w.heap.size + 1, 1, none⟩ (.string ⟨src.toArray⟩)).setCell ⟨w.heap.size + 1, 2, none⟩ (.string ⟨dst.toArray⟩)).setCell ⟨w.heap.size + 1, 3, none⟩ (.string ⟨fr.toArray⟩)).heap[w.heap.size + 1]? = some (.cells #[.int .u8 (k : Int), .string ⟨src.toArray⟩, .string ⟨dst.toArray⟩, .string ⟨fr.toArray⟩, .int .u64 0, .slice none 0 0, .int .u64 0, .int .i64 0, .int .i64 0, .string ⟨#[]⟩] 27 (0, 0)) := Joins.block_setCell e2 _
    have lz4 := lies_set lz3 (p := ⟨w.heap.size + 1, 3, none⟩) far1 (.string ⟨fr.toArray⟩)
    have bz4 := bz3.setCell (p := ⟨w.heap.size + 1, 3, none⟩) (by simp only; omega) (.string ⟨fr.toArray⟩)
    have e4 : ((((((w1.setCell ⟨w.heap.size + 1 + 1, 5, none⟩ (.slice a2 R.length c2)).setCell ⟨w.heap.size + 1, 0, none⟩ (.int .u8 (k : Int))).setCell ⟨w.heap.size + 1, 1, none⟩ (.string ⟨src.toArray⟩)).setCell ⟨w.heap.size + 1, 2, none⟩ (.string ⟨dst.toArray⟩)).setCell ⟨w.heap.size + 1, 3, none⟩ (.string ⟨fr.toArray⟩)).setCell ⟨w.heap.size + 1, 4, none⟩ (.int .u64 (sq : Int))).heap[w.heap.size + 1]? = some (.cells #[.int .u8 (k : Int), .string ⟨src.toArray⟩, .string ⟨dst.toArray⟩, .string ⟨fr.toArray⟩, .int .u64 (sq : Int), .slice none 0 0, .int .u64 0, .int .i64 0, .int .i64 0, .string ⟨#[]⟩] 27 (0, 0)) := Joins.block_setCell e3 _
    have lz5 := lies_set lz4 (p := ⟨w.heap.size + 1, 4, none⟩) far1 (.int .u64 (sq : Int))
    have bz5 := bz4.setCell (p := ⟨w.heap.size + 1, 4, none⟩) (by simp only; omega) (.int .u64 (sq : Int))
    have e5 : (((((((w1.setCell ⟨w.heap.size + 1 + 1, 5, none⟩ (.slice a2 R.length c2)).setCell ⟨w.heap.size + 1, 0, none⟩ (.int .u8 (k : Int))).setCell ⟨w.heap.size + 1, 1, none⟩ (.string ⟨src.toArray⟩)).setCell ⟨w.heap.size + 1, 2, none⟩ (.string ⟨dst.toArray⟩)).setCell ⟨w.heap.size + 1, 3, none⟩ (.string ⟨fr.toArray⟩)).setCell ⟨w.heap.size + 1, 4, none⟩ (.int .u64 (sq : Int))).setCell ⟨w.heap.size + 1, 5, none⟩ (.slice a2 R.length c2)).heap[w.heap.size + 1]? = some (.cells #[.int .u8 (k : Int), .string ⟨src.toArray⟩, .string ⟨dst.toArray⟩, .string ⟨fr.toArray⟩, .int .u64 (sq : Int), .slice a2 R.length c2, .int .u64 0, .int .i64 0, .int .i64 0, .string ⟨#[]⟩] 27 (0, 0)) := Joins.block_setCell e4 _
    have lz6 := lies_set lz5 (p := ⟨w.heap.size + 1, 5, none⟩) far1 (.slice a2 R.length c2)
    have bz6 := bz5.setCell (p := ⟨w.heap.size + 1, 5, none⟩) (by simp only; omega) (.slice a2 R.length c2)
    have e6 : ((((((((w1.setCell ⟨w.heap.size + 1 + 1, 5, none⟩ (.slice a2 R.length c2)).setCell ⟨w.heap.size + 1, 0, none⟩ (.int .u8 (k : Int))).setCell ⟨w.heap.size + 1, 1, none⟩ (.string ⟨src.toArray⟩)).setCell ⟨w.heap.size + 1, 2, none⟩ (.string ⟨dst.toArray⟩)).setCell ⟨w.heap.size + 1, 3, none⟩ (.string ⟨fr.toArray⟩)).setCell ⟨w.heap.size + 1, 4, none⟩ (.int .u64 (sq : Int))).setCell ⟨w.heap.size + 1, 5, none⟩ (.slice a2 R.length c2)).setCell ⟨w.heap.size + 1, 6, none⟩ (.int .u64 (id : Int))).heap[w.heap.size + 1]? = some (.cells #[.int .u8 (k : Int), .string ⟨src.toArray⟩, .string ⟨dst.toArray⟩, .string ⟨fr.toArray⟩, .int .u64 (sq : Int), .slice a2 R.length c2, .int .u64 (id : Int), .int .i64 0, .int .i64 0, .string ⟨#[]⟩] 27 (0, 0)) := Joins.block_setCell e5 _
    have lz7 := lies_set lz6 (p := ⟨w.heap.size + 1, 6, none⟩) far1 (.int .u64 (id : Int))
    have bz7 := bz6.setCell (p := ⟨w.heap.size + 1, 6, none⟩) (by simp only; omega) (.int .u64 (id : Int))
    have e7 : (((((((((w1.setCell ⟨w.heap.size + 1 + 1, 5, none⟩ (.slice a2 R.length c2)).setCell ⟨w.heap.size + 1, 0, none⟩ (.int .u8 (k : Int))).setCell ⟨w.heap.size + 1, 1, none⟩ (.string ⟨src.toArray⟩)).setCell ⟨w.heap.size + 1, 2, none⟩ (.string ⟨dst.toArray⟩)).setCell ⟨w.heap.size + 1, 3, none⟩ (.string ⟨fr.toArray⟩)).setCell ⟨w.heap.size + 1, 4, none⟩ (.int .u64 (sq : Int))).setCell ⟨w.heap.size + 1, 5, none⟩ (.slice a2 R.length c2)).setCell ⟨w.heap.size + 1, 6, none⟩ (.int .u64 (id : Int))).setCell ⟨w.heap.size + 1, 7, none⟩ (.int .i64 ii)).heap[w.heap.size + 1]? = some (.cells #[.int .u8 (k : Int), .string ⟨src.toArray⟩, .string ⟨dst.toArray⟩, .string ⟨fr.toArray⟩, .int .u64 (sq : Int), .slice a2 R.length c2, .int .u64 (id : Int), .int .i64 ii, .int .i64 0, .string ⟨#[]⟩] 27 (0, 0)) := Joins.block_setCell e6 _
    have lz8 := lies_set lz7 (p := ⟨w.heap.size + 1, 7, none⟩) far1 (.int .i64 ii)
    have bz8 := bz7.setCell (p := ⟨w.heap.size + 1, 7, none⟩) (by simp only; omega) (.int .i64 ii)
    have e8 : ((((((((((w1.setCell ⟨w.heap.size + 1 + 1, 5, none⟩ (.slice a2 R.length c2)).setCell ⟨w.heap.size + 1, 0, none⟩ (.int .u8 (k : Int))).setCell ⟨w.heap.size + 1, 1, none⟩ (.string ⟨src.toArray⟩)).setCell ⟨w.heap.size + 1, 2, none⟩ (.string ⟨dst.toArray⟩)).setCell ⟨w.heap.size + 1, 3, none⟩ (.string ⟨fr.toArray⟩)).setCell ⟨w.heap.size + 1, 4, none⟩ (.int .u64 (sq : Int))).setCell ⟨w.heap.size + 1, 5, none⟩ (.slice a2 R.length c2)).setCell ⟨w.heap.size + 1, 6, none⟩ (.int .u64 (id : Int))).setCell ⟨w.heap.size + 1, 7, none⟩ (.int .i64 ii)).setCell ⟨w.heap.size + 1, 8, none⟩ (.int .i64 nn)).heap[w.heap.size + 1]? = some (.cells #[.int .u8 (k : Int), .string ⟨src.toArray⟩, .string ⟨dst.toArray⟩, .string ⟨fr.toArray⟩, .int .u64 (sq : Int), .slice a2 R.length c2, .int .u64 (id : Int), .int .i64 ii, .int .i64 nn, .string ⟨#[]⟩] 27 (0, 0)) := Joins.block_setCell e7 _
    have lz9 := lies_set lz8 (p := ⟨w.heap.size + 1, 8, none⟩) far1 (.int .i64 nn)
    have bz9 := bz8.setCell (p := ⟨w.heap.size + 1, 8, none⟩) (by simp only; omega) (.int .i64 nn)
    have e9 : (((((((((((w1.setCell ⟨w.heap.size + 1 + 1, 5, none⟩ (.slice a2 R.length c2)).setCell ⟨w.heap.size + 1, 0, none⟩ (.int .u8 (k : Int))).setCell ⟨w.heap.size + 1, 1, none⟩ (.string ⟨src.toArray⟩)).setCell ⟨w.heap.size + 1, 2, none⟩ (.string ⟨dst.toArray⟩)).setCell ⟨w.heap.size + 1, 3, none⟩ (.string ⟨fr.toArray⟩)).setCell ⟨w.heap.size + 1, 4, none⟩ (.int .u64 (sq : Int))).setCell ⟨w.heap.size + 1, 5, none⟩ (.slice a2 R.length c2)).setCell ⟨w.heap.size + 1, 6, none⟩ (.int .u64 (id : Int))).setCell ⟨w.heap.size + 1, 7, none⟩ (.int .i64 ii)).setCell ⟨w.heap.size + 1, 8, none⟩ (.int .i64 nn)).setCell ⟨w.heap.size + 1, 9, none⟩ (.string ⟨tx.toArray⟩)).heap[w.heap.size + 1]? = some (.cells #[.int .u8 (k : Int), .string ⟨src.toArray⟩, .string ⟨dst.toArray⟩, .string ⟨fr.toArray⟩, .int .u64 (sq : Int), .slice a2 R.length c2, .int .u64 (id : Int), .int .i64 ii, .int .i64 nn, .string ⟨tx.toArray⟩] 27 (0, 0)) := Joins.block_setCell e8 _
    have lz10 := lies_set lz9 (p := ⟨w.heap.size + 1, 9, none⟩) far1 (.string ⟨tx.toArray⟩)
    have bz10 := bz9.setCell (p := ⟨w.heap.size + 1, 9, none⟩) (by simp only; omega) (.string ⟨tx.toArray⟩)
    have HE := Lib.hid e9
    have LZ := Lib.hid (And.intro lz10 bz10)
    clear e0 lz1 bz1 e1 lz2 bz2 e2 lz3 bz3 e3 lz4 bz4 e4 lz5 bz5 e5 lz6 bz6 e6 lz7 bz7 e7 lz8 bz8 e8 lz9 bz9 e9 lz10 bz10
    go_wp2
    have y0 : _ = (some (.int .u8 (k : Int)) : Option Value) := (Lib.cell_of_heap HE.out 0).trans rfl
    have y1 : _ = (some (.string ⟨src.toArray⟩) : Option Value) := (Lib.cell_of_heap HE.out 1).trans rfl
    have y2 : _ = (some (.string ⟨dst.toArray⟩) : Option Value) := (Lib.cell_of_heap HE.out 2).trans rfl
    have y3 : _ = (some (.string ⟨fr.toArray⟩) : Option Value) := (Lib.cell_of_heap HE.out 3).trans rfl
    have y4 : _ = (some (.int .u64 (sq : Int)) : Option Value) := (Lib.cell_of_heap HE.out 4).trans rfl
    have y5 : _ = (some (.slice a2 R.length c2) : Option Value) := (Lib.cell_of_heap HE.out 5).trans rfl
    have y6 : _ = (some (.int .u64 (id : Int)) : Option Value) := (Lib.cell_of_heap HE.out 6).trans rfl
    have y7 : _ = (some (.int .i64 ii) : Option Value) := (Lib.cell_of_heap HE.out 7).trans rfl
    have y8 : _ = (some (.int .i64 nn) : Option Value) := (Lib.cell_of_heap HE.out 8).trans rfl
    have y9 : _ = (some (.string ⟨tx.toArray⟩) : Option Value) := (Lib.cell_of_heap HE.out 9).trans rfl
    refine bodyPost_ret (v := .agg #[.int .u8 (k : Int), .string ⟨src.toArray⟩, .string ⟨dst.toArray⟩, .string ⟨fr.toArray⟩, .int .u64 (sq : Int), .slice a2 R.length c2, .int .u64 (id : Int), .int .i64 ii, .int .i64 nn, .string ⟨tx.toArray⟩]) (by simp only [results, Tryd.results12]; simp [go_sem, y0, y1, y2, y3, y4, y5, y6, y7, y8, y9]) rfl ?_
    exact ⟨a2, c2, rfl, LZ.out.1, far0, LZ.out.2⟩

end Msg
end Go.Proofs.YtcfimfoccbaepaaDoor
