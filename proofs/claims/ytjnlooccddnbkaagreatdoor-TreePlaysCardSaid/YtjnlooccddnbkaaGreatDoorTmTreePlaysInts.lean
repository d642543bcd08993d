/- TreePlays: two lists of numbers held against each other; how many items the shards have. -/
import Derived.Test.YtjnlooccddnbkaaGreatDoorTmTreePlay
import Derived.Test.YtjnlooccddnbkaaGreatDoorTmRefSha0
namespace Go.Proofs.YtjnlooccddnbkaaGreatDoor
namespace TreePlay
open Go.RowKit Go.Proofs.YtjnlooccddnbkaaGreatDoor.Mark Go.Proofs.YtjnlooccddnbkaaGreatDoor.Dots Go.Proofs.YtjnlooccddnbkaaGreatDoor.Tree Go.Proofs.YtjnlooccddnbkaaGreatDoor.TreeLaw Go.Proofs.YtjnlooccddnbkaaGreatDoor.RefTree
/-- How many items the first shards have. -/
def cnt (l : List It) : Nat → Nat
  | 0 => 0
  | n + 1 => cnt l n + (items l n).length
theorem cnt_eq (l : List It) : ∀ n, cnt l n = (l.filter (fun y => decide (Shard.no y.k < n))).length
  | 0 => by
    rw [List.filter_eq_nil_iff.2 (fun y _ => by simp)]; rfl
  | n + 1 => by
    rw [cnt, cnt_eq l n]
    unfold items
    induction l with
    | nil => rfl
    | cons y l ih =>
      simp only [List.filter_cons]
      by_cases h1 : Shard.no y.k < n
      · have h2 : Shard.no y.k < n + 1 := by omega
        have h3 : (Shard.no y.k == n) = false := by simp; omega
        simp only [h1, h2, h3, decide_true, if_true, Bool.false_eq_true, if_false, List.length_cons]
        omega
      · by_cases h4 : Shard.no y.k = n
        · have h2 : Shard.no y.k < n + 1 := by omega
          have h3 : (Shard.no y.k == n) = true := by simp [h4]
          simp only [h1, h2, h3, decide_true, decide_false, if_true, Bool.false_eq_true, if_false, List.length_cons]
          omega
        · have h2 : ¬ Shard.no y.k < n + 1 := by omega
          have h3 : (Shard.no y.k == n) = false := by simpa using h4
          simp only [h1, h2, h3, decide_false, Bool.false_eq_true, if_false]
          exact ih
theorem cnt_le (l : List It) (n : Nat) : cnt l n ≤ l.length := by rw [cnt_eq]; exact List.length_filter_le _ _
theorem cnt_all (l : List It) : cnt l 16 = l.length := by
  rw [cnt_eq, List.filter_eq_self.2]
  intro y _
  exact decide_eq_true (Shard.no_lt y.k)
theorem items_key {l : List It} {i j : Nat} (h : j < ((items l i).map It.k).length) : ((items l i).map It.k)[j] ∈ l.map It.k ∧ Shard.no ((items l i).map It.k)[j] = i := by
  have hm := List.getElem_mem h
  obtain ⟨y, hy, e⟩ := List.mem_map.1 hm
  rw [← e]
  obtain ⟨h1, h2⟩ := List.mem_filter.1 hy
  exact ⟨List.mem_map_of_mem h1, by simpa using h2⟩
theorem items_rise {l : List It} (hu : Up l) {i j : Nat} (h : j + 1 < ((items l i).map It.k).length) : ((items l i).map It.k)[j] < ((items l i).map It.k)[j + 1] :=
  List.pairwise_iff_getElem.1 (up_keys (up_filter (fun x => Shard.no x.k == i) hu)) j (j + 1) (by show j < ((items l i).map It.k).length; omega) h (by omega)
theorem less_of {a b : List UInt8} (h : a < b) : Op.bytesLess a b = true ∧ Op.bytesLess b a = false ∧ (a == b) = false ∧ (b == a) = false := by
  have h1 := Go.Proofs.bytesLess_eq a b
  have h2 := Go.Proofs.bytesLess_eq b a
  have hn : ¬ b < a := fun k => Tree.lt_irrefl _ (Tree.lt_trans h k)
  have hne : a ≠ b := fun e => by rw [e] at h; exact Tree.lt_irrefl _ h
  exact ⟨by rw [h1]; exact decide_eq_true h, by rw [h2]; exact decide_eq_false hn, by simpa using hne, by simpa using fun e => hne e.symm⟩
set_option maxRecDepth 100000 in
set_option maxHeartbeats 1000000 in
theorem ints_any (L : List Int) (a1 a2 : Option Addr) (c1 c2 : Nat) (w : World) (hL : Row.Lies (Ones.enc .i64) w a1 L.length L) (hK : Row.Lies (Ones.enc .i64) w a2 L.length L) (hn : L.length ≤ 1099511627776) :
    Calls Tryz.prog 29 #[.slice a1 L.length c1, .slice a2 L.length c2] w fun e w' => e = .returned (.bool true) ∧ Below w.heap.size w w' := by
  have h0 := Below.refl w.heap.size w
  obtain ⟨n, hnn⟩ : ∃ n, n = L.length := ⟨_, rfl⟩
  rw [← hnn] at hL hK hn ⊢
  have HN := Lib.hid hnn
  have HL := Lib.hid hL
  have HK := Lib.hid hK
  have hneq : ((n : Int) != (n : Int)) = false := by simp
  clear hL hK hnn
  go_enter Tryz.func29, Tryz.ntmps29
  go_wp2_with fail
  go_loopw [5] (fun iv wr => ∃ k : Nat, k ≤ n ∧ iv = .int .i64 k ∧ Below w.heap.size w wr) (fun iv _ => n - (intOf iv).toNat)
  case atStart => exact ⟨0, by omega, rfl, h0⟩
  case round =>
    clear h0
    obtain ⟨k, hk, rfl, hb⟩ := hrel
    by_cases hlt : k < n
    · obtain ⟨b1, o1, rfl, hcell1⟩ := Ones.Lies.at (Row.Lies.below HL.out hb) (by omega)
      obtain ⟨b2, o2, rfl, hcell2⟩ := Ones.Lies.at (Row.Lies.below HK.out hb) (by omega)
      have x1 := hcell1 k (by rw [← HN.out]; exact hlt)
      have x2 := hcell2 k (by rw [← HN.out]; exact hlt)
      obtain ⟨z, hz⟩ : ∃ z, z = L.getD k 0 := ⟨_, rfl⟩
      rw [← hz] at x1 x2
      have q1 : (z != z) = false := by simp
      have d1 : decide ((k : Int) < (n : Int)) = true := decide_eq_true (by omega)
      have j1 : (0 : Int) ≤ (k : Int) := by omega
      have j2 : (k : Int) < (n : Int) := by omega
      clear hcell1 hcell2 hz
      go_wp2_with fail
      refine wp_region_noPanic ?_
      refine wp_region_held_drew (S := (fun w' => w'.cell? ⟨b1, o1 + k, none⟩ = some (.int .i64 z) ∧ w'.cell? ⟨b2, o2 + k, none⟩ = some (.int .i64 z))) (by kernel_rfl) (⟨Dots.keepC x1 (Below.drew (Below.refl _ _)), Dots.keepC x2 (Below.drew (Below.refl _ _))⟩) (fun hHeld => ?_)
      refine wpAnyH_take (i := 0) (v := ?_) (by simp only [List.getElem?_toArray, List.getElem?_cons_zero]; rfl) (by kernel_rfl) (by kernel_rfl) (by kernel_rfl) (fun _ _ _ h => h) (Or.inl ⟨by rfl, ?_⟩) (by assumption) ?_
      rotate_left
      · (intro w hSw; (try dsimp only at hSw); go_simp; try with_reducible rfl)
      try simp only [Act.put, List.setIfInBounds_toArray, List.set_cons_zero, List.set_cons_succ]
      refine wpAnyH_take (i := 1) (v := ?_) (by simp only [List.getElem?_toArray, List.getElem?_cons_succ, List.getElem?_cons_zero]; rfl) (by kernel_rfl) (by kernel_rfl) (by kernel_rfl) (fun _ _ _ h => h) (Or.inl ⟨by rfl, ?_⟩) (by assumption) ?_
      rotate_left
      · (intro w hSw; (try dsimp only at hSw); go_simp; try with_reducible rfl)
      try simp only [Act.put, List.setIfInBounds_toArray, List.set_cons_zero, List.set_cons_succ]
      refine wpAnyH_take (i := 2) (v := ?_) (by simp only [List.getElem?_toArray, List.getElem?_cons_succ, List.getElem?_cons_zero]; rfl) (by kernel_rfl) (by kernel_rfl) (by kernel_rfl) (fun _ _ _ h => h) (Or.inl ⟨by rfl, ?_⟩) (by assumption) ?_
      rotate_left
      · (intro w hSw; (try dsimp only at hSw); go_simp; try with_reducible rfl)
      try simp only [Act.put, List.setIfInBounds_toArray, List.set_cons_zero, List.set_cons_succ]
      refine wpAnyH_take (i := 3) (v := ?_) (by simp only [List.getElem?_toArray, List.getElem?_cons_succ, List.getElem?_cons_zero]; rfl) (by kernel_rfl) (by kernel_rfl) (by kernel_rfl) (fun _ _ _ h => h) (Or.inl ⟨by rfl, ?_⟩) (by assumption) ?_
      rotate_left
      · (intro w hSw; (try dsimp only at hSw); go_simp; try with_reducible rfl)
      try simp only [Act.put, List.setIfInBounds_toArray, List.set_cons_zero, List.set_cons_succ]
      refine wpAnyH_take (i := 4) (v := ?_) (by simp only [List.getElem?_toArray, List.getElem?_cons_succ, List.getElem?_cons_zero]; rfl) (by kernel_rfl) (by kernel_rfl) (by kernel_rfl) (fun _ _ _ h => h) (Or.inl ⟨by rfl, ?_⟩) (by assumption) ?_
      rotate_left
      · (intro w hSw; (try dsimp only at hSw); go_simp; try with_reducible rfl)
      try simp only [Act.put, List.setIfInBounds_toArray, List.set_cons_zero, List.set_cons_succ]
      refine wpAnyH_take (i := 5) (v := ?_) (by simp only [List.getElem?_toArray, List.getElem?_cons_succ, List.getElem?_cons_zero]; rfl) (by kernel_rfl) (by kernel_rfl) (by kernel_rfl) (fun _ _ _ h => h) (Or.inl ⟨by rfl, ?_⟩) (by assumption) ?_
      rotate_left
      · (intro w hSw; (try dsimp only at hSw); go_simp; try with_reducible rfl)
      try simp only [Act.put, List.setIfInBounds_toArray, List.set_cons_zero, List.set_cons_succ]
      refine wpAnyH_take (i := 6) (v := ?_) (by simp only [List.getElem?_toArray, List.getElem?_cons_succ, List.getElem?_cons_zero]; rfl) (by kernel_rfl) (by kernel_rfl) (by kernel_rfl) (fun _ _ _ h => h) (Or.inl ⟨by rfl, ?_⟩) (by assumption) ?_
      rotate_left
      · (intro w hSw; (try dsimp only at hSw); go_simp; try with_reducible rfl)
      try simp only [Act.put, List.setIfInBounds_toArray, List.set_cons_zero, List.set_cons_succ]
      refine wpAnyH_take (i := 7) (v := ?_) (by simp only [List.getElem?_toArray, List.getElem?_cons_succ, List.getElem?_cons_zero]; rfl) (by kernel_rfl) (by kernel_rfl) (by kernel_rfl) (fun _ _ _ h => h) (Or.inl ⟨by rfl, ?_⟩) (by assumption) ?_
      rotate_left
      · (intro w hSw; (try dsimp only at hSw); go_simp; try with_reducible rfl)
      try simp only [Act.put, List.setIfInBounds_toArray, List.set_cons_zero, List.set_cons_succ]
      refine wpAnyH_take (i := 8) (v := ?_) (by simp only [List.getElem?_toArray, List.getElem?_cons_succ, List.getElem?_cons_zero]; rfl) (by kernel_rfl) (by kernel_rfl) (by kernel_rfl) (fun _ _ _ h => h) (Or.inl ⟨by rfl, ?_⟩) (by assumption) ?_
      rotate_left
      · (intro w hSw; (try dsimp only at hSw); go_simp; try with_reducible rfl)
      try simp only [Act.put, List.setIfInBounds_toArray, List.set_cons_zero, List.set_cons_succ]
      refine wpAnyH_done (by kernel_rfl) ?_ _
      refine NoPanic.normal ?_
      clear hHeld x1 x2
      go_wp2
      go_roundw
      case rel => exact ⟨k + 1, by omega, by go_num, Below.drew hb⟩
      case measure => simp [intOf]; omega
    · obtain rfl : k = n := by omega
      have d1 : decide ((k : Int) < (k : Int)) = false := decide_eq_false (by omega)
      go_wp2
      go_ret
      exact ⟨rfl, hb⟩
end TreePlay
end Go.Proofs.YtjnlooccddnbkaaGreatDoor
