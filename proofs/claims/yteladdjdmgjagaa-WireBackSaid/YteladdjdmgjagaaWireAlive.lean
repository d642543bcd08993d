/- The laws' small known case: alive() answers true. -/
import Derived.Test.YteladdjdmgjagaaWireDo
import Derived.Test.YteladdjdmgjagaaWireList
namespace Go.Proofs.Yteladdjdmgjagaa
open Go.RowKit
namespace Wire
open Num

theorem nats_one (w : World) (n : Nat) (hn : n ≤ 18446744073709551615) (t : TypeId) : Nats (w.alloc (.cells #[.int .u64 (n : Int)] t)) (some ⟨w.heap.size, 0, none⟩) 1 [n] := by
  refine ⟨rfl, by simpa using hn, fun _ => ⟨w.heap.size, 0, rfl, by simp, fun j hj => ?_⟩⟩
  obtain rfl : j = 0 := by simpa using hj
  simp
theorem txts_one (w : World) (x : ByteArray) (hn : x.size ≤ maxLen) (t : TypeId) : Txts (w.alloc (.cells #[.string x] t)) (some ⟨w.heap.size, 0, none⟩) 1 [x] := by
  refine ⟨rfl, by simpa using hn, fun _ => ⟨w.heap.size, 0, rfl, by simp, fun j hj => ?_⟩⟩
  obtain rfl : j = 0 := by simpa using hj
  simp

set_option maxRecDepth 100000 in
set_option maxHeartbeats 2000000 in
theorem alive_any (w : World) : Calls Try.prog 8 #[] w fun e w' => e = .returned (.bool true) ∧ Below w.heap.size w w' := by
  have h0 := Below.refl w.heap.size w
  have A1 := Lib.hid (nums_any (some ⟨w.heap.size, 0, none⟩) 1 1 [300] _ (nats_one w 300 (by decide) 32) (by decide))
  go_enter Try.func8, Try.ntmps8
  go_wp2_with fail
  refine A1.out.mono ?_
  rintro e w1 ⟨rfl, k1⟩
  have h1 := bstep (balloc h0 _) k1
  clear A1 k1
  have A2 := Lib.hid (texts_any (some ⟨w1.heap.size, 0, none⟩) 1 1 [⟨#[97, 98]⟩] _ (txts_one w1 ⟨#[97, 98]⟩ (by decide) 9) (by decide) (by decide))
  go_wp2_with fail
  refine A2.out.mono ?_
  rintro e w2 ⟨rfl, k2⟩
  have h2 := bstep (balloc h1 _) k2
  clear A2 k2
  go_wp2_with fail
  refine (bool_w true _).mono ?_
  rintro e w' ⟨rfl, rfl⟩
  have hs : (({ data := (cat [300]).toArray } : ByteArray) ++ { data := (tcat [⟨#[97, 98]⟩]).toArray }) ++ { data := #[tr true] } = { data := [172, 2, 2, 97, 98, 1].toArray } := by rfl
  go_wp2_with fail
  refine (new_any [172, 2, 2, 97, 98, 1] _ (by decide)).mono ?_
  rintro e w3 ⟨rfl, r3, k3⟩
  have h3 := bstep h2 k3
  have hb := h2.size
  clear hs k3
  go_wp2_with fail
  refine (num_any _ _ _ 300 _ r3 300 [2, 97, 98, 1] 0 (by decide)).mono ?_
  rintro e w4 ⟨rfl, r4, k4⟩
  have h4 := But.below h3 k4 hb h3.size
  clear k4 r3
  go_wp2_with fail
  refine (text_any _ _ _ 2 (by decide) (by decide) _ r4 [97, 98] [1] 0 (by decide)).mono ?_
  rintro e w5 ⟨rfl, r5, k5⟩
  have h5 := But.below h4 k5 hb h4.size
  clear k5 r4
  go_wp2_with fail
  refine (bool_any _ _ _ _ r5 true [] 0 (by decide)).mono ?_
  rintro e w6 ⟨rfl, r6, k6⟩
  have h6 := But.below h5 k6 hb h5.size
  clear k6 r5
  go_wp2_with fail
  refine (end_any _ _ _ _ r6 0 (by decide)).mono ?_
  rintro e w7 ⟨rfl, r7, k7⟩
  have h7 := But.below h6 k7 hb h6.size
  clear k7 r6
  go_wp2_with fail
  refine (new_any [172, 2, 2, 97, 98, 1] _ (by decide)).mono ?_
  rintro e w8 ⟨rfl, q8, k8⟩
  have h8 := bstep h7 k8
  have hq := h7.size
  have r8 := r7.below k8 r7.lt
  have hne : w2.heap.size ≠ w7.heap.size := by have := r7.lt; omega
  clear k8 r7
  go_wp2_with fail
  refine (num_any _ _ _ 299 _ q8 0 [172, 2, 2, 97, 98, 1] 9 (by decide)).mono ?_
  rintro e w9 ⟨rfl, q9, k9⟩
  have h9 := But.below h8 k9 hq h8.size
  have r9 := r8.but k9 hne
  clear k9 r8 q8
  go_wp2_with fail
  refine (num_any _ _ _ 1152921504606846976 _ q9 0 [172, 2, 2, 97, 98, 1] 9 (by decide)).mono ?_
  rintro e w10 ⟨rfl, q10, k10⟩
  have h10 := But.below h9 k10 hq h9.size
  have r10 := r9.but k10 hne
  clear k10 r9 q9
  have X := Lib.hid (err_any _ _ _ _ r10)
  have Y := Lib.hid (err_any _ _ _ _ q10)
  clear r10 q10
  go_wp2_with fail
  refine X.out.mono ?_
  rintro e w' ⟨rfl, rfl⟩
  go_wp2_with fail
  refine Y.out.mono ?_
  rintro e w' ⟨rfl, rfl⟩
  go_wp2
  go_ret
  exact ⟨rfl, h10⟩

end Wire
end Go.Proofs.Yteladdjdmgjagaa
