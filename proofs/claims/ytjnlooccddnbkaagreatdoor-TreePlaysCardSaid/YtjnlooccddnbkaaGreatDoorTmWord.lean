/- Merged texts: WordSeq, WordSort. -/
import Derived.RangeFuncBox
import Derived.RangeFuncLeaves
import Derived.Shelf.Abstract
import Derived.WalkKit
import Derived.OwnWalkIn
import Derived.TacticsInMore
import Derived.LoopNIn
import Derived.LoopIn
import Derived.Maps.AppendAt
import Derived.Lib.Hide
import Derived.Test.YtjnlooccddnbkaaGreatDoorTmBase
import Derived.Test.YtjnlooccddnbkaaGreatDoorShelf
import Derived.Shelf.Slices.In.SortNone
import Derived.Sort.OwnSorted
import Derived.Sort.Grow
import Derived.Lib.OwnBridge
namespace Go.Proofs.YtjnlooccddnbkaaGreatDoor
namespace WordSeq
open Go.RowKit Go.Shelf
attribute [local go_sem] Oper.semAt_some
def val (x : List UInt8) : Value := .string ⟨x.toArray⟩
theorem values_any (a : Option Addr) (n c : Nat) (w : World) :
    Calls Tryz.prog 71 #[.slice a n c] w fun e w' => e = .returned (.func (.func 93) #[] #[.pointer (some ⟨w.heap.size, 0, none⟩)]) ∧ w' = w.alloc (.cells #[.slice a n c] 42) := by
  have hmf : ∀ (fn : Fn) (first cap : Array Value) (w : World), (Instr.makeFunc fn first cap).run Tryz.prog w = .ok (.func fn first cap) w := fun _ _ _ _ => rfl
  go_enter Tryz.func71, Tryz.ntmps71
  go_wp2
  go_ret
  exact ⟨rfl, rfl⟩
set_option maxRecDepth 100000 in
set_option maxHeartbeats 2000000 in
theorem values_stops (n : Nat) (hn : 1 ≤ n) (Bs n₀ : Nat) (a : Option Addr) (len cap : Nat) (zs : List (List UInt8)) (hreach : len ≤ 1099511627776) (w : World) (hBs : Bs < w.heap.size)
    (hc : w.cell? ⟨Bs, 0, none⟩ = some (.slice a len cap)) (hL : Words.Lies w a len zs) (hlow : ∀ x, a = some x → x.block < n₀) :
    SeqStopsK Fence.wide n Tryz.prog 93 #[.pointer (some ⟨Bs, 0, none⟩)] (fun x : List UInt8 => #[Value.string ⟨x.toArray⟩]) (Below n₀) (fun ys => ys = zs) (fun pre => pre <+: zs) zs.length w := fun l J Jx W hW _ _ hY h0 => by
  have hc' := (hW.cell (p := ⟨Bs, 0, none⟩) hBs).trans hc
  have hl := hL.1
  have HL := Lib.hid (hL.below hW)
  have HN := Lib.hid hl
  clear hL hl
  refine callsIn_of_wp Tryz.func93 rfl trivial ?_ rfl
  simp only [Tryz.ntmps93, List.size_toArray, List.length_cons, List.length_nil, Nat.reduceAdd, Nat.reduceSub, Array.replicate_succ, Array.replicate_zero, List.push_toArray, List.append_toArray, List.nil_append, List.cons_append]
  gi_wp2_with fail
  gi_loopw [7] (fun i wr => ∃ k : Nat, k ≤ len ∧ i = .int .i64 (k : Int) ∧ J (zs.take k) wr ∧ Below n₀ W wr) (fun i _ => len - (intOf i).toNat)
  case atStart => exact ⟨0, Nat.zero_le _, rfl, by rw [List.take_zero]; exact h0, Below.refl _ _⟩
  case round =>
    obtain ⟨k, hk, rfl, hJs, hnx⟩ := hrel
    by_cases hlt : k < len
    · have hkl : k < zs.length := by have := HN.out; omega
      obtain ⟨b, o, rfl, hcs⟩ := Words.words_at HL.out (by omega)
      have hb := hlow _ rfl
      have hcx := (hnx.cell (p := ⟨b, o + k, none⟩) hb).trans (hcs k hkl)
      have HT : Hid (zs.take (k + 1) = zs.take k ++ [zs[k]]) := Lib.hid (List.take_succ_eq_append_getElem hkl)
      obtain ⟨x, hx⟩ : ∃ x, x = zs[k] := ⟨_, rfl⟩
      rw [← hx] at hcx HT
      have h0k : (0 : Int) ≤ (k : Int) := by omega
      have hd : decide ((k : Int) < (len : Int)) = true := decide_eq_true (by omega)
      have HX := Lib.hid hx
      obtain ⟨fn, tmps, assign, body, hy, hR⟩ := hY _ x wr hJs (by rw [List.length_take]; omega)
      clear hcs hx
      gi_wp2_with fail
      refine hR.mono ?_
      rintro e W3 (⟨rfl, hJ3, hk3⟩ | ⟨rfl, hJx3⟩)
      · gi_wp2
        go_roundw
        case rel => exact ⟨k + 1, by omega, by go_num, by rw [HT.out]; exact hJ3, hnx.trans hk3⟩
        case measure => simp [intOf]; omega
      · gi_wp2
        refine bodyPost_ret (results_none rfl _ _ _) rfl ?_
        exact ⟨⟨_, rfl⟩, .inr ⟨_, by rw [← HT.out]; exact List.take_prefix _ _, hJx3⟩⟩
    · obtain rfl : k = len := by omega
      have hd : decide ((k : Int) < (k : Int)) = false := decide_eq_false (by omega)
      gi_wp2
      go_end0
      exact ⟨⟨_, rfl⟩, .inl ⟨_, List.take_of_length_le (by have := HN.out; omega), hJs⟩⟩
set_option maxRecDepth 100000 in
set_option maxHeartbeats 2000000 in
theorem appendSeq_any (Bs : Nat) (a : Option Addr) (len cap : Nat) (zs : List (List UInt8)) (hreach : len ≤ 1099511627776) (w : World) (hBs : Bs < w.heap.size)
    (hc : w.cell? ⟨Bs, 0, none⟩ = some (.slice a len cap)) (hL : Words.Lies w a len zs) (hlow : ∀ x, a = some x → x.block < w.heap.size) :
    Calls Tryz.prog 74 #[.slice none 0 0, .func (.func 93) #[] #[.pointer (some ⟨Bs, 0, none⟩)]] w fun e w' =>
      ∃ v, e = .returned v ∧ Words.Mine w' w.heap.size v zs ∧ Below w.heap.size w w' := by
  obtain ⟨i0, hi, hz0, hz1, hz2⟩ := Row.info_of Words.info_str
  have hN := hL.1
  refine callsIn_wide.1 (?_ : CallsIn Fence.wide 5 _ _ _ _ _)
  refine callsIn_of_wp_marks Tryz.func74 rfl trivial ?_ rfl
  simp only [Tryz.ntmps74, List.size_toArray, List.length_cons, List.length_nil, Nat.reduceAdd, Nat.reduceSub, Array.replicate_succ, Array.replicate_zero, List.push_toArray, List.append_toArray, List.nil_append, List.cons_append]
  gi_wp2
  have bO := Boxed.new w 42 (.slice none 0 0)
  have hB0 : Below w.heap.size w (w.alloc (.cells #[.slice none 0 0] 42)) := balloc (Below.refl _ _) _
  refine wpIn_rangeFunc_ownG rfl (by decide) (gf := 93) (lb := #[.pointer (some ⟨Bs, 0, none⟩)]) rfl trivial (enters_of Tryz.func93 (by kernel_rfl) rfl)
    (values_stops 4 (by decide) Bs w.heap.size a len cap zs hreach _ (by simp; omega) ((hB0.cell (p := ⟨Bs, 0, none⟩) hBs).trans hc) (hL.below hB0) hlow) belowK_t (belowK_b (by simp)) (Below.refl _ _) (fun _ => rfl)
    (fun pre W => (∃ v, Boxed W w.heap.size 42 v ∧ W.ownsRow w.heap.size 9 1 v pre.length (Row.flat Words.enc pre) ∧ True) ∧ Below w.heap.size w W)
    (fun _ _ _ => False)
    (OwnFrom.and (Own.from (holdsRow_own w.heap.size w.heap.size 42 9 1 (fun pre : List (List UInt8) => pre.length) (fun pre => Row.flat Words.enc pre) (fun _ _ => True)) _) (ownFrom_below (Nat.le_refl _) (by simp)))
    (fun _ _ _ _ _ hs _ _ => hs)
    ⟨⟨_, bO, World.ownsRow_nil _ _ _ _, trivial⟩, hB0⟩
    (fun x => { tmps := #[.slice none 0 0, .func (.func 93) #[] #[.pointer (some ⟨Bs, 0, none⟩)], .pointer (some ⟨w.heap.size, 0, none⟩), undef, .slice none 0 0, .string ⟨x.toArray⟩, .func (.func 93) #[] #[.pointer (some ⟨Bs, 0, none⟩)], .string ⟨x.toArray⟩, undef, undef, undef, undef, undef], defers := [] }) ?assign ?body ?done ?stop
  case assign =>
    intro l x W K hK
    gi_wp2
    exact hK
  case body =>
    rintro l pre x W ⟨⟨v, hv, hrow, -⟩, hB⟩ hlt
    obtain ⟨av, cv, rfl⟩ : ∃ a c, v = .slice a pre.length c := by
      rcases hrow.2 with ⟨rfl, h⟩ | ⟨g, c, cur, rfl, _⟩
      · exact ⟨none, 0, by rw [h]⟩
      · exact ⟨_, c, rfl⟩
    have hc := hv.cell
    have hsz := hB.size
    gi_wp2_with (gi_at_builtin; go_loud (refine wpListIn_append_own _ rfl _ _ 42 rfl w.heap.size 9 i0 (.string ⟨#[]⟩) 1 16 Tryz.underlying42 hi hz0 hz1 hz2 rfl (by decide) _ _ _ rfl (hrow.alloc _) ⟨W.heap.size, 0, none⟩ 1 1 [.string ⟨x.toArray⟩] rfl rfl (cell_one_new _ _ _) (by simp [Value.oneCell']) (by unfold maxLen; omega) (by omega) (by rw [World.size_alloc]; omega) ?_); intro v' w1 hown' hgrow _; obtain ⟨g', cap', rfl⟩ := ownsRow_succ hown'; obtain ⟨hv1, hv2, hr2, hk2, hb2⟩ := hv.appended (by decide) hrow hB.size (Nat.le_refl _) hown' hgrow; have hc1 := hv1.cell; have hf1 := hv1.frozen)
    refine ⟨hk2.from _, hb2, ⟨_, hv2, ?_, trivial⟩, hB.trans hb2⟩
    rw [Row.flat_append, List.length_append]
    exact hr2
  case done =>
    rintro D ys W hD rfl ⟨⟨v, hv, hrow, -⟩, hB⟩ hK
    have hc := hv.cell
    gi_wp2
    refine ⟨by simp, .inl ⟨_, _, rfl, run_takeDeferred hK, ?_⟩⟩
    exact ⟨_, results_tmp rfl _ _ _, v, rfl, ownsRow_putObj hrow _ hK rfl, hB.trans (belowK_b (w := w) (Nat.le_refl _) W D _ _ (by simp at hD; omega) hK rfl rfl)⟩
  case stop =>
    rintro D c pre W _ _ h _
    exact h.elim
theorem collect_any (Bs : Nat) (a : Option Addr) (len cap : Nat) (zs : List (List UInt8)) (hreach : len ≤ 1099511627776) (w : World) (hBs : Bs < w.heap.size)
    (hc : w.cell? ⟨Bs, 0, none⟩ = some (.slice a len cap)) (hL : Words.Lies w a len zs) (hlow : ∀ x, a = some x → x.block < w.heap.size) :
    Calls Tryz.prog 48 #[.func (.func 93) #[] #[.pointer (some ⟨Bs, 0, none⟩)]] w fun e w' =>
      ∃ v, e = .returned v ∧ Words.Mine w' w.heap.size v zs ∧ Below w.heap.size w w' := by
  have A := Lib.hid (appendSeq_any Bs a len cap zs hreach w hBs hc hL hlow)
  clear hc hL hlow
  go_enter Tryz.func48, Tryz.ntmps48
  go_wp2_with fail
  refine A.out.mono ?_
  rintro e w1 ⟨v, rfl, h1, k1⟩
  have H := Lib.hid h1
  clear h1
  go_wp2
  go_ret
  exact ⟨v, rfl, H.out, k1⟩
end WordSeq
end Go.Proofs.YtjnlooccddnbkaaGreatDoor

namespace Go.Proofs.YtjnlooccddnbkaaGreatDoor
namespace WordSeq
open Go.RowKit Go.Shelf Go.Sort
theorem flat_enc (L : List (List UInt8)) : Row.flat Words.enc L = L.map encStr := by
  induction L with
  | nil => rfl
  | cons x L ih => rw [List.map_cons, ← ih]; rfl
def rising (L : List (List UInt8)) : List (List UInt8) := L.mergeSort fun x y => decide (x ≤ y)
theorem rising_length (L : List (List UInt8)) : (rising L).length = L.length := List.length_mergeSort L
theorem mine_nil {w : World} {B : Nat} {L : List (List UInt8)} (h : Words.Mine w B (.slice none 0 0) L) : L = [] := by
  have := h.1
  rcases h.2 with ⟨_, h2⟩ | ⟨g, cap, cur, e, _⟩
  · cases L with
    | nil => rfl
    | cons x L => simp [Row.flat, Words.enc] at this; first | exact absurd this (by omega) | simp_all
  · cases e
theorem sort_mine (B : Nat) (v : Value) (L : List (List UInt8)) (w : World) (h : Words.Mine w B v L) (hB : B ≤ w.heap.size) (hsm : L.length ≤ 1099511627776) :
    Calls Tryz.prog 92 #[v] w fun e w' => e = .returned (.tuple #[]) ∧ Words.Mine w' B v (rising L) ∧ Below B w w' := by
  by_cases hv : v = .slice none 0 0
  · subst hv
    obtain rfl := mine_nil h
    refine (Tryz.slices_Sort_string_none none 0 w).mono ?_
    rintro e w' ⟨rfl, rfl⟩
    exact ⟨rfl, by rw [show rising [] = [] from List.mergeSort_nil]; exact h, Below.refl _ _⟩
  · have h' := h
    unfold Words.Mine Row.Own at h'
    rw [flat_enc] at h'
    obtain ⟨g, cap, rfl, hbg, hgl, hncap, hcm, hlen, hH⟩ := Lib.holds_of_ownsRow h' hv
    refine (Tryz.slices_Sort_string g 0 cap L w hH hgl (by omega)).mono ?_
    rintro e w' ⟨rfl, nn, os, rfl⟩
    rcases h'.2 with ⟨h0, _⟩ | ⟨g', cap', cur, hv, hbase, hb, h1, h2, h3, h4⟩
    · cases h0
    cases hv
    have hs := ownsRow_sorted (n := nn) (os := os) (ts := rising L) (rising_length L) hbase hb h1 h2 h3
    refine ⟨rfl, ?_, (Below.refl _ _).grown (grownBy_sorted _) hB (fun j hj => by cases hj; exact hbase)⟩
    show World.ownsRow _ _ _ _ _ _ _
    rw [flat_enc, rising_length]
    exact hs
theorem compact_mine (B : Nat) (v : Value) (L : List (List UInt8)) (w : World) (h : Words.Mine w B v L) :
    Calls Tryz.prog 72 #[v] w fun e w' => ∃ v', e = .returned v' ∧ Words.Mine w' B v' (Lib.compact L) ∧ Below B w w' := by
  by_cases hv : v = .slice none 0 0
  · subst hv
    obtain rfl := mine_nil h
    refine (Tryz.slices_Compact_string_empty none 0 w).mono ?_
    rintro e w' ⟨rfl, rfl⟩
    exact ⟨_, rfl, h, Below.refl _ _⟩
  · have h' := h
    unfold Words.Mine Row.Own at h'
    rw [flat_enc] at h'
    obtain ⟨g, cap, rfl, hbg, hgl, hncap, hcm, hlen, hH⟩ := Lib.holds_of_ownsRow h' hv
    refine (Tryz.slices_Compact_string g 0 cap L w hH (by unfold maxLen at hcm; omega) (by omega)).mono ?_
    rintro e w' ⟨rfl, q, rfl⟩
    have hle := Lib.compact_length_le L
    have hc := Lib.ownsRow_putRow (q := q) (k := (Lib.compact L).length) (ys := Lib.compact L ++ List.replicate (L.length - (Lib.compact L).length) []) h' (by simp; omega) (by omega)
    rw [List.take_left] at hc
    refine ⟨_, rfl, ?_, Lib.below_putRow (Below.refl _ _) hbg⟩
    show World.ownsRow _ _ _ _ _ _ _
    rw [flat_enc]
    exact hc
set_option maxRecDepth 100000 in
theorem sorted_any (Bs : Nat) (a : Option Addr) (len cap : Nat) (zs : List (List UInt8)) (hreach : len ≤ 1099511627776) (w : World) (hBs : Bs < w.heap.size)
    (hc : w.cell? ⟨Bs, 0, none⟩ = some (.slice a len cap)) (hL : Words.Lies w a len zs) (hlow : ∀ x, a = some x → x.block < w.heap.size) :
    Calls Tryz.prog 70 #[.func (.func 93) #[] #[.pointer (some ⟨Bs, 0, none⟩)]] w fun e w' =>
      ∃ v, e = .returned v ∧ Words.Mine w' w.heap.size v (rising zs) ∧ Below w.heap.size w w' := by
  have A := Lib.hid (collect_any Bs a len cap zs hreach w hBs hc hL hlow)
  have A1 := hL.1
  clear hc hL hlow
  go_enter Tryz.func70, Tryz.ntmps70
  go_wp2_with fail
  refine A.out.mono ?_
  rintro e w1 ⟨v, rfl, h1, k1⟩
  have H := Lib.hid (sort_mine _ v zs w1 h1 k1.size (by omega))
  clear h1
  go_wp2_with fail
  refine H.out.mono ?_
  rintro e w2 ⟨rfl, h2, k2⟩
  have H2 := Lib.hid h2
  clear h2
  go_wp2
  go_ret
  exact ⟨v, rfl, H2.out, k1.trans k2⟩
end WordSeq
end Go.Proofs.YtjnlooccddnbkaaGreatDoor
