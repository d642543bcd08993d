
/- slices.Sort, slices.Sorted, slices.Compact at rows of texts of the call's own. -/
import Derived.Shelf.Slices.In.SortNone
import Derived.Sort.OwnSorted
import Derived.Sort.Grow
import Derived.Lib.OwnBridge
import Derived.Test.YtibdpjhiblhnmaaDoorWordSeq
namespace Go.Proofs.YtibdpjhiblhnmaaDoor
namespace WordSeq
open Go.RowKit Go.Shelf Go.Sort
theorem flat_enc (L : List (List UInt8)) : Row.flat Words.enc L = L.map encStr := by
  induction L with
  | nil => rfl
  | cons x L ih => rw [List.map_cons, ← ih]; rfl
def rising (L : List (List UInt8)) : List (List UInt8) := L.mergeSort fun x y => decide (x ≤ y)
theorem rising_length (L : List (List UInt8)) : (rising L).length = L.length := List.length_mergeSort L
theorem mine_nil {w : World} {B : Nat} {L : List (List UInt8)} (h : Words.Mine w B (.slice none 0 0) L) : L = [] := by
  have := h.1
  rcases h.2 with ⟨_, h2⟩ | ⟨g, cap, cur, e, _⟩
  · cases L with
    | nil => rfl
    | cons x L => simp [Row.flat, Words.enc] at this; first | exact absurd this (by omega) | simp_all
  · cases e
theorem sort_mine (B : Nat) (v : Value) (L : List (List UInt8)) (w : World) (h : Words.Mine w B v L) (hB : B ≤ w.heap.size) (hsm : L.length ≤ 1099511627776) :
    Calls Tryd.prog 21 #[v] w fun e w' => e = .returned (.tuple #[]) ∧ Words.Mine w' B v (rising L) ∧ Below B w w' := by
  by_cases hv : v = .slice none 0 0
  · subst hv
    obtain rfl := mine_nil h
    refine (Tryd.slices_Sort_string_none none 0 w).mono ?_
    rintro e w' ⟨rfl, rfl⟩
    exact ⟨rfl, by rw [show rising [] = [] from List.mergeSort_nil]; exact h, Below.refl _ _⟩
  · have h' := h
    unfold Words.Mine Row.Own at h'
    rw [flat_enc] at h'
    obtain ⟨g, cap, rfl, hbg, hgl, hncap, hcm, hlen, hH⟩ := Lib.holds_of_ownsRow h' hv
    refine (Tryd.slices_Sort_string g 0 cap L w hH hgl (by omega)).mono ?_
    rintro e w' ⟨rfl, nn, os, rfl⟩
    rcases h'.2 with ⟨h0, _⟩ | ⟨g', cap', cur, hv, hbase, hb, h1, h2, h3, h4⟩
    · cases h0
    cases hv
    have hs := ownsRow_sorted (n := nn) (os := os) (ts := rising L) (rising_length L) hbase hb h1 h2 h3
    refine ⟨rfl, ?_, (Below.refl _ _).grown (grownBy_sorted _) hB (fun j hj => by cases hj; exact hbase)⟩
    show World.ownsRow _ _ _ _ _ _ _
    rw [flat_enc, rising_length]
    exact hs
theorem compact_mine (B : Nat) (v : Value) (L : List (List UInt8)) (w : World) (h : Words.Mine w B v L) :
    Calls Tryd.prog 13 #[v] w fun e w' => ∃ v', e = .returned v' ∧ Words.Mine w' B v' (Lib.compact L) ∧ Below B w w' := by
  by_cases hv : v = .slice none 0 0
  · subst hv
    obtain rfl := mine_nil h
    refine (Tryd.slices_Compact_string_empty none 0 w).mono ?_
    rintro e w' ⟨rfl, rfl⟩
    exact ⟨_, rfl, h, Below.refl _ _⟩
  · have h' := h
    unfold Words.Mine Row.Own at h'
    rw [flat_enc] at h'
    obtain ⟨g, cap, rfl, hbg, hgl, hncap, hcm, hlen, hH⟩ := Lib.holds_of_ownsRow h' hv
    refine (Tryd.slices_Compact_string g 0 cap L w hH (by unfold maxLen at hcm; omega) (by omega)).mono ?_
    rintro e w' ⟨rfl, q, rfl⟩
    have hle := Lib.compact_length_le L
    have hc := Lib.ownsRow_putRow (q := q) (k := (Lib.compact L).length) (ys := Lib.compact L ++ List.replicate (L.length - (Lib.compact L).length) []) h' (by simp; omega) (by omega)
    rw [List.take_left] at hc
    refine ⟨_, rfl, ?_, Lib.below_putRow (Below.refl _ _) hbg⟩
    show World.ownsRow _ _ _ _ _ _ _
    rw [flat_enc]
    exact hc
set_option maxRecDepth 100000 in
theorem sorted_any (Bs : Nat) (a : Option Addr) (len cap : Nat) (zs : List (List UInt8)) (hreach : len ≤ 1099511627776) (w : World) (hBs : Bs < w.heap.size)
    (hc : w.cell? ⟨Bs, 0, none⟩ = some (.slice a len cap)) (hL : Words.Lies w a len zs) (hlow : ∀ x, a = some x → x.block < w.heap.size) :
    Calls Tryd.prog 11 #[.func (.func 22) #[] #[.pointer (some ⟨Bs, 0, none⟩)]] w fun e w' =>
      ∃ v, e = .returned v ∧ Words.Mine w' w.heap.size v (rising zs) ∧ Below w.heap.size w w' := by
  have A := Lib.hid (collect_any Bs a len cap zs hreach w hBs hc hL hlow)
  have A1 := hL.1
  clear hc hL hlow
  go_enter Tryd.func11, Tryd.ntmps11
  go_wp2_with fail
  refine A.out.mono ?_
  rintro e w1 ⟨v, rfl, h1, k1⟩
  have H := Lib.hid (sort_mine _ v zs w1 h1 k1.size (by omega))
  clear h1
  go_wp2_with fail
  refine H.out.mono ?_
  rintro e w2 ⟨rfl, h2, k2⟩
  have H2 := Lib.hid h2
  clear h2
  go_wp2
  go_ret
  exact ⟨v, rfl, H2.out, k1.trans k2⟩
end WordSeq
end Go.Proofs.YtibdpjhiblhnmaaDoor
