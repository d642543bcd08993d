/- peers: All: slices.Sorted(maps.Keys(..)) by the shelf's contracts (the laying and its proof after the kit's own lay-iter). -/
import Derived.Shelf.SlIter.Nil
import Derived.Shelf.SortM.Plain
import Derived.Shelf.SortM.SortNone
import Derived.Test.YtcbnkncgacbniaaShelf
import Derived.Test.YtcbnkncgacbniaaPeersIs
namespace Go.Proofs.Ytcbnkncgacbniaa
namespace Peers
open Go.RowKit Go.Maps Go.Sort Go.Shelf
theorem sorts (m : Nat) : AnyZ.SortsIn Try.prog Try.sortedP_ren Fence.wide m :=
  ⟨fun blk off cap ss W hH hblk hsz => callsIn_wide.2 (AnyM.slices_Sort_string Try.sortP blk off cap ss W hH hblk hsz),
   fun p cap W => callsIn_wide.2 (AnyM.slices_Sort_string_none Try.sortP p cap W)⟩
theorem keys_any (mb : Option Nat) (W : World) : Calls Try.prog 32 #[.map mb] W fun e w' => e = .returned (.func (.func 42) #[] #[.pointer (some ⟨W.heap.size, 0, none⟩)]) ∧ w' = W.alloc (.cells #[.map mb] 56) :=
  callsIn_wide.1 (AnyZ.keys_in Try.keysP Fence.wide 5 trivial rfl mb W)
set_option maxHeartbeats 1000000 in
theorem sorted_any {H : Type} (b nn : Nat) (D0 : DataW H) (R : Value → Option (DataW H × List MemPlace)) (w : World) (hown : w.ownsMap Try.prog 9 R b nn D0) (hmax : Maps.size D0 ≤ maxLen) (hbytes : Maps.size D0 * 16 ≤ 140737488355328) :
    Calls Try.prog 31 #[.func (.func 42) #[] #[.pointer (some ⟨w.heap.size, 0, none⟩)]] (w.alloc (.cells #[.map (some b)] 56)) fun e w' => ∃ (v : Value) (ss : List (List UInt8)), e = .returned v ∧ ss.Perm (strKeys D0) ∧
      w'.ownsRow (w.alloc (.cells #[.map (some b)] 56)).heap.size 9 1 v ss.length ((ss.mergeSort (fun x y => decide (x ≤ y))).map encStr) ∧ (v = .slice none 0 0 ↔ ss = []) ∧ Below (w.alloc (.cells #[.map (some b)] 56)).heap.size (w.alloc (.cells #[.map (some b)] 56)) w' := by
  have hbl := hown.lt
  have hseq : SeqGives Fence.wide 2 Try.prog 42 #[.pointer (some ⟨w.heap.size, 0, none⟩)] encStr (fun ss => ss.Perm (strKeys D0)) (Maps.size D0) (w.alloc (.cells #[.map (some b)] 56)) :=
    AnyZ.keys_gives (ρ := Try.keysP_ren) { Try.keysP with } Fence.wide _ trivial rfl (by omega) w.heap.size b nn D0 _ (by simp) (by simp) (by
      obtain ⟨es, clock, hb, Ft, hs, hD⟩ := hown
      exact ⟨es, clock, (Below.heap_alloc _ _ b hbl).trans hb, Ft, hs, hD⟩)
  exact callsIn_wide.1 (AnyZ.sorted_in Try.sortedP Fence.wide 5 trivial trivial trivial trivial rfl (by omega) (sorts _) (enters_of Try.func41 (by kernel_rfl) rfl) 42 #[.pointer (some ⟨w.heap.size, 0, none⟩)] trivial (enters_of Try.func42 (by kernel_rfl) rfl) _ _ hmax hbytes _ hseq)
theorem flat_enc (L : List (List UInt8)) : L.map encStr = Row.flat Words.enc L := by
  induction L with
  | nil => rfl
  | cons x L ih => rw [List.map_cons, ih]; rfl
set_option maxRecDepth 100000 in
/-- All: who they are, rising. -/
theorem all_any (w : World) (pb mb : Nat) (T : List (List UInt8)) (V : List UInt8 → List Mark.M) (last : List UInt8) (h : Is w pb mb T V last) :
    Calls Try.prog 16 #[.pointer (some ⟨pb, 0, none⟩)] w fun e w' => ∃ v, e = .returned v ∧ Words.Mine w' w.heap.size v T ∧ Below w.heap.size w w' := by
  obtain ⟨c0, c1, fz⟩ := h.cells
  have TH := Lib.hid (there_any w pb mb T V last h)
  obtain ⟨f, hm, h1, h2⟩ := h.map
  obtain ⟨D, hD, hs, hk⟩ := hm.keys Try.underlying9 h.up (fun q => by rw [h1 q]; simp)
  have hsm := h.small
  have SO := Lib.hid (sorted_any mb _ D _ w hD (by rw [hs]; unfold maxLen; omega) (by rw [hs]; omega))
  have HK := Lib.hid hk
  clear hk h h1 h2 hm hD hs hsm
  go_enter Try.func16, Try.ntmps16
  go_wp2_with fail
  refine TH.out.mono ?_
  rintro e w1 ⟨rfl, rfl⟩
  go_wp2_with fail
  refine (keys_any _ _).mono ?_
  rintro e w2 ⟨rfl, rfl⟩
  go_wp2_with fail
  refine SO.out.mono ?_
  rintro e w3 ⟨v, ss, rfl, hp, ho, -, k3⟩
  have hT := HK.out ss hp
  have HO : Hid (Words.Mine w3 w.heap.size v T) := Lib.hid (by
    have hl : ss.length = T.length := by rw [← hT]; exact (List.length_mergeSort ss).symm
    rw [hT, hl, flat_enc] at ho
    exact Row.Own.base ho (by simp))
  clear hp ho hT
  go_wp2
  go_ret
  exact ⟨v, rfl, HO.out, (((Below.refl _ w).alloc (Nat.le_refl _) _).trans (k3.mono (by simp)))⟩
set_option maxRecDepth 100000 in
theorem all_nil (w : World) : Calls Try.prog 16 #[.pointer none] w fun e w' => e = .returned (.slice none 0 0) ∧ w = w' := by
  go_enter Try.func16, Try.ntmps16
  go_wp2_with fail
  refine (there_nil _).mono ?_
  rintro e w1 ⟨rfl, rfl⟩
  go_wp2
  go_ret
  exact ⟨rfl, rfl⟩
end Peers
end Go.Proofs.Ytcbnkncgacbniaa
