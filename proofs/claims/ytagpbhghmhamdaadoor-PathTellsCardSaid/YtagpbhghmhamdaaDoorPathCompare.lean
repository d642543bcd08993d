/- package path: Compare. -/
import Derived.Test.YtagpbhghmhamdaaDoorPathCmp
namespace Go.Proofs.YtagpbhghmhamdaaDoor
namespace Path
open Go.RowKit

set_option maxRecDepth 100000 in
set_option maxHeartbeats 2000000 in
theorem compare_any (a b : List UInt8) (w : World) (ha : a.length ≤ 1099511627776) (hb : b.length ≤ 1099511627776) :
    Calls Tryd.prog 23 #[.string ⟨a.toArray⟩, .string ⟨b.toArray⟩] w fun e w' => e = .returned (.int .i64 (cmpP a b)) ∧ Below w.heap.size w w' := by
  have C1 := Lib.hid (fun w => split_any a w ha)
  have C2 := Lib.hid (fun w => split_any b w hb)
  have S := Lib.hid (fun w => Tryd.strings_Compare ⟨a.toArray⟩ ⟨b.toArray⟩ w)
  have hl8 := parse_length a
  have hm8 := parse_length b
  have HU : Hid (cmpP a b = if parse a = [] then (if parse b = [] then Lib.compareBytes a b else -1) else if parse b = [] then 1 else cmpL (parse a) (parse b)) := Lib.hid rfl
  obtain ⟨l, hl⟩ : ∃ l, l = parse a := ⟨_, rfl⟩
  obtain ⟨m, hm⟩ : ∃ m, m = parse b := ⟨_, rfl⟩
  rw [← hl] at C1 hl8 HU
  rw [← hm] at C2 hm8 HU
  clear hl hm
  have h0 := Below.refl w.heap.size w
  obtain ⟨n, hn⟩ : ∃ n, n = l.length := ⟨_, rfl⟩
  obtain ⟨k, hk⟩ : ∃ k, k = m.length := ⟨_, rfl⟩
  rw [← hn] at C1
  rw [← hk] at C2
  have HN := Lib.hid hn
  have HK := Lib.hid hk
  have h8n : n ≤ 8 := by omega
  have h8k : k ≤ 8 := by omega
  have hle : Hid (n = 0 ↔ l = []) := Lib.hid (by rw [hn, List.length_eq_zero_iff])
  have hme : Hid (k = 0 ↔ m = []) := Lib.hid (by rw [hk, List.length_eq_zero_iff])
  clear hn hk
  go_enter Tryd.func23, Tryd.ntmps23
  go_wp2_with fail
  refine (C1.out _).mono ?_
  rintro e w1 ⟨rfl, k1⟩
  have h1 := bstep h0 k1
  unfold arr8
  go_wp2_with fail
  obtain ⟨W1, hW1⟩ : ∃ W1, w1.alloc (.cells (arrCells l) 43) = W1 := ⟨_, rfl⟩
  have A1 : Arr W1 w1.heap.size l := by rw [← hW1]; exact Arr.lay _ _ _ _ rfl
  have hb1 : Below w.heap.size w W1 := by rw [← hW1]; exact balloc h1 _
  simp only [arrCells, List.getD_eq_getElem?_getD] at hW1
  rw [hW1]
  clear hW1 k1
  refine (C2.out _).mono ?_
  rintro e w2 ⟨rfl, k2⟩
  have h2 := bstep hb1 k2
  have A1 := A1.below k2
  unfold arr8
  go_upto_region 3 with fail
  obtain ⟨W2, hW2⟩ : ∃ W2, w2.alloc (.cells (arrCells m) 43) = W2 := ⟨_, rfl⟩
  have A2 : Arr W2 w2.heap.size m := by rw [← hW2]; exact Arr.lay _ _ _ _ rfl
  have A1 : Arr W2 w1.heap.size l := by rw [← hW2]; exact A1.below (balloc (Below.refl _ _) _)
  have hb2 : Below w.heap.size w W2 := by rw [← hW2]; exact balloc h2 _
  simp only [arrCells, List.getD_eq_getElem?_getD] at hW2
  rw [hW2]
  clear hW2 k2 C1 C2 h0 h1 hb1 h2
  by_cases c1 : n = 0
  · have d1 : ((n : Int) == 0) = true := by rw [beq_iff_eq]; omega
    by_cases c2 : k = 0
    · have d2 : ((k : Int) == 0) = true := by rw [beq_iff_eq]; omega
      go_wp2_with fail
      refine (S.out _).mono ?_
      rintro e w' ⟨rfl, rfl⟩
      go_wp2
      go_ret
      exact ⟨by rw [HU.out, if_pos (hle.out.1 c1), if_pos (hme.out.1 c2)]; rfl, hb2⟩
    · have d2 : ((k : Int) == 0) = false := by rw [beq_eq_false_iff_ne]; omega
      go_wp2
      go_ret
      exact ⟨by rw [HU.out, if_pos (hle.out.1 c1), if_neg (fun e => c2 (hme.out.2 e))]; rfl, hb2⟩
  · have d1 : ((n : Int) == 0) = false := by rw [beq_eq_false_iff_ne]; omega
    by_cases c2 : k = 0
    · have d2 : ((k : Int) == 0) = true := by rw [beq_iff_eq]; omega
      go_wp2
      go_ret
      exact ⟨by rw [HU.out, if_neg (fun e => c1 (hle.out.2 e)), if_pos (hme.out.1 c2)]; rfl, hb2⟩
    · have d2 : ((k : Int) == 0) = false := by rw [beq_eq_false_iff_ne]; omega
      have hn0 : (0 : Int) ≤ (n : Int) := by omega
      have hn8 : (n : Int) ≤ 8 := by omega
      have hk0 : (0 : Int) ≤ (k : Int) := by omega
      have hk8 : (k : Int) ≤ 8 := by omega
      have E := Lib.hid (fun (W : World) (a1 : Arr W w1.heap.size l) (a2 : Arr W w2.heap.size m) => slices_any l m w1.heap.size w2.heap.size n k W a1 a2 HN.out HK.out hl8 hm8)
      go_wp2_with fail
      refine wp_region_noPanic ?_
      refine wp_region_held_drew (S := (fun W => Arr W w1.heap.size l ∧ Arr W w2.heap.size m)) (by kernel_rfl) (⟨A1, A2⟩) (fun hHeld => ?_)
      refine wpAnyH_take (i := 0) (v := ?_) (by simp only [List.getElem?_toArray, List.getElem?_cons_zero]; rfl) (by kernel_rfl) (by kernel_rfl) (by kernel_rfl) (fun _ _ _ h => h) (Or.inl ⟨by rfl, ?_⟩) (by assumption) ?_
      rotate_left
      · (intro w hSw; (try dsimp only at hSw); go_simp; try with_reducible rfl)
      try simp only [Act.put, List.setIfInBounds_toArray, List.set_cons_zero, List.set_cons_succ]
      refine wpAnyH_take (i := 1) (v := ?_) (by simp only [List.getElem?_toArray, List.getElem?_cons_succ, List.getElem?_cons_zero]; rfl) (by kernel_rfl) (by kernel_rfl) (by kernel_rfl) (fun _ _ _ h => h) (Or.inl ⟨by rfl, ?_⟩) (by assumption) ?_
      rotate_left
      · (intro w hSw; (try dsimp only at hSw); go_simp; try with_reducible rfl)
      try simp only [Act.put, List.setIfInBounds_toArray, List.set_cons_zero, List.set_cons_succ]
      refine wpAnyH_take (i := 2) (v := ?_) (by simp only [List.getElem?_toArray, List.getElem?_cons_succ, List.getElem?_cons_zero]; rfl) (by kernel_rfl) (by kernel_rfl) (by kernel_rfl) (fun _ _ _ h => h) (Or.inl ⟨by rfl, ?_⟩) (by assumption) ?_
      rotate_left
      · (intro w hSw; (try dsimp only at hSw); go_simp; try with_reducible rfl)
      try simp only [Act.put, List.setIfInBounds_toArray, List.set_cons_zero, List.set_cons_succ]
      refine wpAnyH_take (i := 3) (v := ?_) (by simp only [List.getElem?_toArray, List.getElem?_cons_succ, List.getElem?_cons_zero]; rfl) (by kernel_rfl) (by kernel_rfl) (by kernel_rfl) (fun _ _ _ h => h) (Or.inl ⟨by rfl, ?_⟩) (by assumption) ?_
      rotate_left
      · (intro w hSw; (try dsimp only at hSw); go_simp; try with_reducible rfl)
      try simp only [Act.put, List.setIfInBounds_toArray, List.set_cons_zero, List.set_cons_succ]
      refine wpAnyH_ready (rs := [4]) (by kernel_rfl) (by simp) ?_
      refine AllReadyH.cons (by simp only [List.getElem?_toArray, List.getElem?_cons_succ, List.getElem?_cons_zero]; rfl) (fun K hK => ?_) AllReadyH.nil
      go_simp
      go_at_call 33
      refine (E.out _ hHeld.1 hHeld.2).mono ?_
      rintro e w9 ⟨rfl, rfl⟩
      go_wp2_with fail
      refine hK.out _ _ (hHeld) (fun hHeld => ?_)
      clear hK K
      try simp only [Act.put, List.setIfInBounds_toArray, List.set_cons_zero, List.set_cons_succ]
      refine wpAnyH_take (i := 5) (v := ?_) (by simp only [List.getElem?_toArray, List.getElem?_cons_succ, List.getElem?_cons_zero]; rfl) (by kernel_rfl) (by kernel_rfl) (by kernel_rfl) (fun _ _ _ h => h) (Or.inl ⟨by rfl, ?_⟩) (by assumption) ?_
      rotate_left
      · (intro w hSw; (try dsimp only at hSw); go_simp; try with_reducible rfl)
      try simp only [Act.put, List.setIfInBounds_toArray, List.set_cons_zero, List.set_cons_succ]
      refine wpAnyH_done (by kernel_rfl) ?_ _
      refine NoPanic.normal ?_
      go_wp2
      go_ret
      exact ⟨by rw [HU.out, if_neg (fun e => c1 (hle.out.2 e)), if_neg (fun e => c2 (hme.out.2 e))]; rfl, Below.drew hb2⟩

end Path
end Go.Proofs.YtagpbhghmhamdaaDoor
