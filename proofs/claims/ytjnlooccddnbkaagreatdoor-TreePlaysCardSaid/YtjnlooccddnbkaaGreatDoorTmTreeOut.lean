/- TreePlays: a node that is not there. -/
import Derived.Test.YtjnlooccddnbkaaGreatDoorTmLaw
import Derived.Test.YtjnlooccddnbkaaGreatDoorTmRefTreeNode
namespace Go.Proofs.YtjnlooccddnbkaaGreatDoor
namespace TreePlay
open Go.RowKit Go.Proofs.YtjnlooccddnbkaaGreatDoor.Mark Go.Proofs.YtjnlooccddnbkaaGreatDoor.Dots Go.Proofs.YtjnlooccddnbkaaGreatDoor.Tree Go.Proofs.YtjnlooccddnbkaaGreatDoor.TreeLaw Go.Proofs.YtjnlooccddnbkaaGreatDoor.RefTree
/-- A node that is there. -/
def In (d i : Int) : Prop := 0 ≤ d ∧ d ≤ 4 ∧ 0 ≤ i ∧ i < 2 ^ d.toNat
set_option maxRecDepth 100000 in
set_option maxHeartbeats 2000000 in
theorem out_p (x : World) (tb mb n : Nat) (l : List It) (h : Tree.Is x tb mb n l) (d i : Int) (hn : ¬ In d i) :
    CallsIn Fence.wide 10 Tryz.prog 19 #[.pointer (some ⟨tb, 0, none⟩), .int .i64 d, .int .i64 i] x fun e y => e = .returned (.tuple #[.string ⟨#[]⟩, .slice none 0 0]) ∧ Below x.heap.size x y := by
  have TH := Lib.hid (there_any x tb mb h.cell)
  have HN := Lib.hid hn
  clear h hn
  refine callsIn_of_wp_marks Tryz.func19 rfl trivial ?_ rfl
  simp only [Tryz.ntmps19, List.size_toArray, List.length_cons, List.length_nil, Nat.reduceAdd, Nat.reduceSub, Array.replicate_succ, Array.replicate_zero, List.push_toArray, List.append_toArray, List.nil_append, List.cons_append]
  gi_wp2_with fail
  refine ⟨trivial, (callsIn_wide.2 TH.out).mono ?_⟩
  rintro e w1 ⟨rfl, rfl⟩
  clear TH
  by_cases c1 : d < 0
  · have d1 : decide (d < 0) = true := decide_eq_true c1
    gi_wp2
    refine Marks.leaves (B := x.heap.size) (N := x.heap.size) [] _ trivial (Nat.le_refl _) ?_
    intro w9 hs
    exact ⟨.tuple #[.string ⟨#[]⟩, .slice none 0 0], by simp [results, Tryz.f19, go_sem], rfl, hs.below⟩
  have d1 : decide (d < 0) = false := decide_eq_false c1
  by_cases c2 : 4 < d
  · have d2 : decide (d > 4) = true := decide_eq_true c2
    have d3 : decide (4 < d) = true := decide_eq_true c2
    gi_wp2
    refine Marks.leaves (B := x.heap.size) (N := x.heap.size) [] _ trivial (Nat.le_refl _) ?_
    intro w9 hs
    exact ⟨.tuple #[.string ⟨#[]⟩, .slice none 0 0], by simp [results, Tryz.f19, go_sem], rfl, hs.below⟩
  have d2 : decide (d > 4) = false := decide_eq_false c2
  have d3 : decide (4 < d) = false := decide_eq_false c2
  by_cases c3 : i < 0
  · have d4 : decide (i < 0) = true := decide_eq_true c3
    gi_wp2
    refine Marks.leaves (B := x.heap.size) (N := x.heap.size) [] _ trivial (Nat.le_refl _) ?_
    intro w9 hs
    exact ⟨.tuple #[.string ⟨#[]⟩, .slice none 0 0], by simp [results, Tryz.f19, go_sem], rfl, hs.below⟩
  have d4 : decide (i < 0) = false := decide_eq_false c3
  obtain ⟨dn, rfl⟩ : ∃ k : Nat, d = (k : Int) := ⟨d.toNat, by omega⟩
  obtain ⟨j, rfl⟩ : ∃ k : Nat, i = (k : Int) := ⟨i.toNat, by omega⟩
  obtain ⟨dd, hdd⟩ : ∃ k, k = 2 ^ dn := ⟨_, rfl⟩
  have hd16 : dd ≤ 16 := by rw [hdd]; exact Nat.le_trans (Nat.pow_le_pow_right (by decide) (show dn ≤ 4 by omega)) (by decide)
  have hge : dd ≤ j := by
    rcases Nat.lt_or_ge j dd with hh | hh
    · refine absurd ?_ HN.out
      refine ⟨by omega, by omega, by omega, ?_⟩
      rw [Int.toNat_natCast, hdd] at *
      exact_mod_cast hh
    · exact hh
  have hs1 : wrap64 (2 ^ min dn 64) = (dd : Int) := by rw [Nat.min_eq_left (by omega)]; exact shl_nat dn dd hdd hd16
  have d5 : decide ((dd : Int) ≤ (j : Int)) = true := decide_eq_true (by omega)
  have d6 : decide ((j : Int) ≥ (dd : Int)) = true := decide_eq_true (by omega)
  have d7 : decide (dd ≤ j) = true := decide_eq_true hge
  clear hdd hd16 hge HN c1 c2 c3
  gi_wp2
  refine Marks.leaves (B := x.heap.size) (N := x.heap.size) [] _ trivial (Nat.le_refl _) ?_
  intro w9 hs
  exact ⟨.tuple #[.string ⟨#[]⟩, .slice none 0 0], by simp [results, Tryz.f19, go_sem], rfl, hs.below⟩
set_option maxRecDepth 100000 in
set_option maxHeartbeats 2000000 in
theorem out_r (x : World) (rb : Nat) (d i : Int) (hn : ¬ In d i) :
    Calls Tryz.prog 28 #[.pointer (some ⟨rb, 0, none⟩), .int .i64 d, .int .i64 i] x fun e y => e = .returned (.tuple #[.string ⟨#[]⟩, .slice none 0 0]) ∧ x = y := by
  have HN := Lib.hid hn
  clear hn
  by_cases c1 : d < 0
  · have d1 : decide (d < 0) = true := decide_eq_true c1
    go_enter Tryz.func28, Tryz.ntmps28
    go_wp2
    exact bodyPost_ret (v := .tuple #[.string ⟨#[]⟩, .slice none 0 0]) (by simp [results, Tryz.f28, go_sem]) rfl ⟨rfl, rfl⟩
  have d1 : decide (d < 0) = false := decide_eq_false c1
  by_cases c2 : 4 < d
  · have d2 : decide (d > 4) = true := decide_eq_true c2
    have d3 : decide (4 < d) = true := decide_eq_true c2
    go_enter Tryz.func28, Tryz.ntmps28
    go_wp2
    exact bodyPost_ret (v := .tuple #[.string ⟨#[]⟩, .slice none 0 0]) (by simp [results, Tryz.f28, go_sem]) rfl ⟨rfl, rfl⟩
  have d2 : decide (d > 4) = false := decide_eq_false c2
  have d3 : decide (4 < d) = false := decide_eq_false c2
  by_cases c3 : i < 0
  · have d4 : decide (i < 0) = true := decide_eq_true c3
    go_enter Tryz.func28, Tryz.ntmps28
    go_wp2
    exact bodyPost_ret (v := .tuple #[.string ⟨#[]⟩, .slice none 0 0]) (by simp [results, Tryz.f28, go_sem]) rfl ⟨rfl, rfl⟩
  have d4 : decide (i < 0) = false := decide_eq_false c3
  obtain ⟨dn, rfl⟩ : ∃ k : Nat, d = (k : Int) := ⟨d.toNat, by omega⟩
  obtain ⟨j, rfl⟩ : ∃ k : Nat, i = (k : Int) := ⟨i.toNat, by omega⟩
  obtain ⟨dd, hdd⟩ : ∃ k, k = 2 ^ dn := ⟨_, rfl⟩
  have hd16 : dd ≤ 16 := by rw [hdd]; exact Nat.le_trans (Nat.pow_le_pow_right (by decide) (show dn ≤ 4 by omega)) (by decide)
  have hge : dd ≤ j := by
    rcases Nat.lt_or_ge j dd with hh | hh
    · refine absurd ?_ HN.out
      refine ⟨by omega, by omega, by omega, ?_⟩
      rw [Int.toNat_natCast, hdd] at *
      exact_mod_cast hh
    · exact hh
  have hu : IntKind.u64.wrap (dn : Int) = (dn : Int) := by rw [IntKind.wrap_u64]; omega
  have hs1 : wrap64 (2 ^ min (IntKind.u64.wrap (dn : Int)).toNat 64) = (dd : Int) := by rw [hu, Int.toNat_natCast, Nat.min_eq_left (by omega)]; exact shl_nat dn dd hdd hd16
  have d5 : decide ((dd : Int) ≤ (j : Int)) = true := decide_eq_true (by omega)
  have d6 : decide ((j : Int) ≥ (dd : Int)) = true := decide_eq_true (by omega)
  have d7 : decide (dd ≤ j) = true := decide_eq_true hge
  clear hdd hd16 hge HN hu c1 c2 c3
  go_enter Tryz.func28, Tryz.ntmps28
  go_wp2
  exact bodyPost_ret (v := .tuple #[.string ⟨#[]⟩, .slice none 0 0]) (by simp [results, Tryz.f28, go_sem]) rfl ⟨rfl, rfl⟩

end TreePlay
end Go.Proofs.YtjnlooccddnbkaaGreatDoor
