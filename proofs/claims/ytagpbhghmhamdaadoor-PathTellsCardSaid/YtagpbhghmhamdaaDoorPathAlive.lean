/- The laws' small known case: alive() answers true. -/
import Derived.Test.YtagpbhghmhamdaaDoorPathChild
namespace Go.Proofs.YtagpbhghmhamdaaDoor
namespace Path
open Go.RowKit

theorem p1 : parse [49] = [1] := by decide
theorem p12 : parse [49, 46, 50] = [1, 2] := by decide
theorem p127 : parse [49, 46, 50, 46, 55] = [1, 2, 7] := by decide
theorem w1 : write [1] = [49] := by rw [write, Lib.decDigits_one (by decide)]; rfl
theorem w12 : write [1, 2] = [49, 46, 50] := by rw [write, write, Lib.decDigits_one (by decide), Lib.decDigits_one (by decide)]; rfl
theorem ch2 : childT [49] 2 = ([49, 46, 50], 0) := by
  rw [childT, p1, if_neg (by decide), if_neg (by decide), if_neg (by decide), Lib.decDigits_one (by decide)]; rfl
theorem ch7 : childT [49, 46, 50] 7 = ([49, 46, 50, 46, 55], 0) := by
  rw [childT, p12, if_neg (by decide), if_neg (by decide), if_neg (by decide), Lib.decDigits_one (by decide)]; rfl
theorem par : parentL [49, 46, 50, 46, 55] = [49, 46, 50] := by
  rw [parentL, p127, if_neg (by decide)]; exact w12
theorem up127 : ups 8 (parse [49, 46, 50, 46, 55]) = [[1, 2], [1]] := by rw [p127]; rfl

set_option maxRecDepth 100000 in
set_option maxHeartbeats 2000000 in
theorem alive_any (w : World) (ht : Tab w) : Calls Tryd.prog 7 #[] w fun e w' => e = .returned (.bool true) ∧ Below w.heap.size w w' := by
  have h0 := Below.refl w.heap.size w
  have T := Lib.hid ht
  clear ht
  have X1 := Lib.hid (fun w t => child_any [49] 2 w (by decide) t)
  rw [ch2] at X1
  have X2 := Lib.hid (fun w t => child_any [49, 46, 50] 7 w (by decide) t)
  rw [ch7] at X2
  have X3 := Lib.hid (fun w => chain_any [49, 46, 50, 46, 55] w (by decide))
  rw [up127] at X3
  have Y1 := Lib.hid (fun w => may_any [49, 46, 48, 50] w (by decide))
  rw [show (decide (0 < (parse [49, 46, 48, 50]).length)) = false by decide] at Y1
  have Y2 := Lib.hid (fun w => may_any [50, 46, 49] w (by decide))
  rw [show (decide (0 < (parse [50, 46, 49]).length)) = false by decide] at Y2
  have Y3 := Lib.hid (fun w => parent_any [49, 46, 50, 46, 55] w (by decide))
  rw [par] at Y3
  have Y4 := Lib.hid (fun w => numberOf_any [49, 46, 50, 46, 55] w (by decide))
  rw [show last (parse [49, 46, 50, 46, 55]) = 7 by decide] at Y4
  have Y5 := Lib.hid (fun w => under_any [49, 46, 50, 46, 55] [49] w (by decide) (by decide))
  rw [show under (parse [49, 46, 50, 46, 55]) (parse [49]) = true by decide] at Y5
  have Y6 := Lib.hid (fun w => may_any [49, 46, 50, 46, 55] w (by decide))
  rw [show (decide (0 < (parse [49, 46, 50, 46, 55]).length)) = true by decide] at Y6
  have Y7 := Lib.hid (fun w => deep_any [49, 46, 50, 46, 55] w (by decide))
  rw [show (parse [49, 46, 50, 46, 55]).length = 3 by decide] at Y7
  have Y8 := Lib.hid (fun w => compare_any [49, 46, 49, 48] [49, 46, 57] w (by decide) (by decide))
  rw [show cmpP [49, 46, 49, 48] [49, 46, 57] = 1 by decide] at Y8
  have Y9 := Lib.hid (fun w => compare_any [49, 46, 50] [49, 46, 50, 46, 49] w (by decide) (by decide))
  rw [show cmpP [49, 46, 50] [49, 46, 50, 46, 49] = -1 by decide] at Y9
  go_enter Tryd.func7, Tryd.ntmps7
  go_wp2_with fail
  refine (X1.out _ T.out).mono ?_
  rintro e v1 ⟨rfl, k1⟩
  have h1 := bstep h0 k1
  clear k1 X1
  go_wp2_with fail
  refine (X2.out _ (T.out.below h1)).mono ?_
  rintro e v2 ⟨rfl, k2⟩
  have h2 := bstep h1 k2
  clear k2 X2
  go_wp2_with fail
  refine (X3.out _).mono ?_
  rintro e v3 ⟨v, rfl, hown, k3⟩
  have h3 := bstep h2 k3
  clear X3
  rcases hown.2 with ⟨rfl, hc⟩ | ⟨g, cap, cur, rfl, _⟩
  · exact absurd hc (by decide)
  have c0 : v3.cell? ⟨g, 0, none⟩ = some (.string ⟨[49, 46, 50].toArray⟩) := by
    have := hown.cells (g := g) rfl 0 (.string ⟨(write [1, 2]).toArray⟩) rfl
    rw [w12] at this
    simpa [Addr.add] using this
  have c1 : v3.cell? ⟨g, 1, none⟩ = some (.string ⟨[49].toArray⟩) := by
    have := hown.cells (g := g) rfl 1 (.string ⟨(write [1]).toArray⟩) rfl
    rw [w1] at this
    simpa [Addr.add] using this
  have q0 := World.block_lt_of_cell? _ _ c0
  clear hown k3
  go_wp2_with fail
  refine (Y1.out _).mono ?_
  rintro e v4 ⟨rfl, k4⟩
  have h4 := bstep h3 k4
  have c0 := (k4.cell (p := ⟨g, 0, none⟩) q0).trans c0
  have c1 := (k4.cell (p := ⟨g, 1, none⟩) q0).trans c1
  have q0 := World.block_lt_of_cell? _ _ c0
  clear k4 Y1
  go_wp2_with fail
  refine (Y2.out _).mono ?_
  rintro e v5 ⟨rfl, k5⟩
  have h5 := bstep h4 k5
  have c0 := (k5.cell (p := ⟨g, 0, none⟩) q0).trans c0
  have c1 := (k5.cell (p := ⟨g, 1, none⟩) q0).trans c1
  have q0 := World.block_lt_of_cell? _ _ c0
  clear k5 Y2
  go_wp2_with fail
  refine (Y3.out _).mono ?_
  rintro e v6 ⟨rfl, k6⟩
  have h6 := bstep h5 k6
  have c0 := (k6.cell (p := ⟨g, 0, none⟩) q0).trans c0
  have c1 := (k6.cell (p := ⟨g, 1, none⟩) q0).trans c1
  have q0 := World.block_lt_of_cell? _ _ c0
  clear k6 Y3
  go_wp2_with fail
  refine (Y4.out _).mono ?_
  rintro e v7 ⟨rfl, k7⟩
  have h7 := bstep h6 k7
  have c0 := (k7.cell (p := ⟨g, 0, none⟩) q0).trans c0
  have c1 := (k7.cell (p := ⟨g, 1, none⟩) q0).trans c1
  have q0 := World.block_lt_of_cell? _ _ c0
  clear k7 Y4
  go_wp2_with fail
  refine (Y5.out _).mono ?_
  rintro e v8 ⟨rfl, k8⟩
  have h8 := bstep h7 k8
  have c0 := (k8.cell (p := ⟨g, 0, none⟩) q0).trans c0
  have c1 := (k8.cell (p := ⟨g, 1, none⟩) q0).trans c1
  have q0 := World.block_lt_of_cell? _ _ c0
  clear k8 Y5
  go_wp2_with fail
  refine (Y6.out _).mono ?_
  rintro e v9 ⟨rfl, k9⟩
  have h9 := bstep h8 k9
  have c0 := (k9.cell (p := ⟨g, 0, none⟩) q0).trans c0
  have c1 := (k9.cell (p := ⟨g, 1, none⟩) q0).trans c1
  have q0 := World.block_lt_of_cell? _ _ c0
  clear k9 Y6
  go_wp2_with fail
  refine (Y7.out _).mono ?_
  rintro e v10 ⟨rfl, k10⟩
  have h10 := bstep h9 k10
  have c0 := (k10.cell (p := ⟨g, 0, none⟩) q0).trans c0
  have c1 := (k10.cell (p := ⟨g, 1, none⟩) q0).trans c1
  have q0 := World.block_lt_of_cell? _ _ c0
  clear k10 Y7
  go_wp2_with fail
  refine (Y8.out _).mono ?_
  rintro e v11 ⟨rfl, k11⟩
  have h11 := bstep h10 k11
  have c0 := (k11.cell (p := ⟨g, 0, none⟩) q0).trans c0
  have c1 := (k11.cell (p := ⟨g, 1, none⟩) q0).trans c1
  have q0 := World.block_lt_of_cell? _ _ c0
  clear k11 Y8
  go_wp2_with fail
  refine (Y9.out _).mono ?_
  rintro e v12 ⟨rfl, k12⟩
  have h12 := bstep h11 k12
  have c0 := (k12.cell (p := ⟨g, 0, none⟩) q0).trans c0
  have c1 := (k12.cell (p := ⟨g, 1, none⟩) q0).trans c1
  have q0 := World.block_lt_of_cell? _ _ c0
  clear k12 Y9
  go_wp2
  go_ret
  exact ⟨rfl, h12⟩

end Path
end Go.Proofs.YtagpbhghmhamdaaDoor
