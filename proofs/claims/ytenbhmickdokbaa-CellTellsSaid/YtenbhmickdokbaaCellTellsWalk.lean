/- The walk of CellTells: it answers true. -/
import Derived.Test.YtenbhmickdokbaaCellAlive
namespace Go.Proofs.Ytenbhmickdokbaa.CellTells
open Go.RowKit Go.Proofs.Ytenbhmickdokbaa.Cell

theorem keep4 {w w' : World} {b1 b2 b3 b4 : Nat} {s1 s2 s3 s4 : Int} {t1 t2 t3 t4 : ByteArray} {g1 g2 g3 g4 : Bool}
    (h : w.cell? ⟨b1, 0, none⟩ = some (.int .u64 s1) ∧ w.cell? ⟨b1, 1, none⟩ = some (.string t1) ∧ w.cell? ⟨b1, 2, none⟩ = some (.bool g1) ∧
      w.cell? ⟨b2, 0, none⟩ = some (.int .u64 s2) ∧ w.cell? ⟨b2, 1, none⟩ = some (.string t2) ∧ w.cell? ⟨b2, 2, none⟩ = some (.bool g2) ∧
      w.cell? ⟨b3, 0, none⟩ = some (.int .u64 s3) ∧ w.cell? ⟨b3, 1, none⟩ = some (.string t3) ∧ w.cell? ⟨b3, 2, none⟩ = some (.bool g3) ∧
      w.cell? ⟨b4, 0, none⟩ = some (.int .u64 s4) ∧ w.cell? ⟨b4, 1, none⟩ = some (.string t4) ∧ w.cell? ⟨b4, 2, none⟩ = some (.bool g4))
    (k : Below w.heap.size w w') :
    w'.cell? ⟨b1, 0, none⟩ = some (.int .u64 s1) ∧ w'.cell? ⟨b1, 1, none⟩ = some (.string t1) ∧ w'.cell? ⟨b1, 2, none⟩ = some (.bool g1) ∧
      w'.cell? ⟨b2, 0, none⟩ = some (.int .u64 s2) ∧ w'.cell? ⟨b2, 1, none⟩ = some (.string t2) ∧ w'.cell? ⟨b2, 2, none⟩ = some (.bool g2) ∧
      w'.cell? ⟨b3, 0, none⟩ = some (.int .u64 s3) ∧ w'.cell? ⟨b3, 1, none⟩ = some (.string t3) ∧ w'.cell? ⟨b3, 2, none⟩ = some (.bool g3) ∧
      w'.cell? ⟨b4, 0, none⟩ = some (.int .u64 s4) ∧ w'.cell? ⟨b4, 1, none⟩ = some (.string t4) ∧ w'.cell? ⟨b4, 2, none⟩ = some (.bool g4) := by
  obtain ⟨h1, h2, h3, h4, h5, h6, h7⟩ := h
  obtain ⟨a1, a2, a3, a4, a5, a6⟩ := In6.below (b := b1) (b' := b2) ⟨h1, h2, h3, h4, h5, h6⟩ k
  obtain ⟨a7, a8, a9, aa, ab, ac⟩ := In6.below (b := b3) (b' := b4) h7 k
  exact ⟨a1, a2, a3, a4, a5, a6, a7, a8, a9, aa, ab, ac⟩

set_option maxRecDepth 100000 in
set_option maxHeartbeats 4000000 in
theorem walk (a0_0 : Int) (a0_1 : ByteArray) (a0_2 : Bool) (a1_0 : Int) (a1_1 : ByteArray) (a1_2 : Bool) (a2 : ByteArray) (a3 : Bool) (w : World) (w0_0 : (Lit.int .u64 a0_0).wf = true) (_w0_1 : a0_1.size ≤ maxLen) (w1_0 : (Lit.int .u64 a1_0).wf = true) (_w1_1 : a1_1.size ≤ maxLen) (w2 : a2.size ≤ maxLen) :
    Calls Try.prog 3 #[.agg #[.int .u64 a0_0, .string a0_1, .bool a0_2], .agg #[.int .u64 a1_0, .string a1_1, .bool a1_2], .string a2, .bool a3] w fun e w' => e = .returned (.bool true) ∧ Below w.heap.size w w' := by
  obtain ⟨l0, u0⟩ := bounds_u64 w0_0
  obtain ⟨l1, u1⟩ := bounds_u64 w1_0
  unfold maxLen at w2
  clear w0_0 w1_0
  have La := Lib.hid (large_any a0_0 a0_1 a0_2)
  have Lb := Lib.hid (large_any a1_0 a1_1 a1_2)
  have h0 := Below.refl w.heap.size w
  have In1 := ((In.new w a0_0 a0_1 a0_2 _ rfl).alloc (.cells #[.int .u64 a1_0, .string a1_1, .bool a1_2] 24))
  have In2 := (In.new (w.alloc (.cells #[.int .u64 a0_0, .string a0_1, .bool a0_2] 24)) a1_0 a1_1 a1_2 (w.heap.size + 1) (by simp))
  by_cases c1 : 8192 < (a0_1.size : Int)
  · rw [decide_eq_true c1] at La
    go_enter Try.func3, Try.ntmps3
    go_wp2_with fail
    refine (La.out _).mono ?_
    rintro e w1 ⟨rfl, k1⟩
    have h1 := bstep (balloc (balloc h0 _) _) k1
    go_wp2_with fail
    refine (alive_any _).mono ?_
    rintro e w2 ⟨rfl, k2⟩
    go_wp2
    go_ret
    exact ⟨rfl, bstep h1 k2⟩
  rw [decide_eq_false c1] at La
  by_cases c2 : 8192 < (a1_1.size : Int)
  · rw [decide_eq_true c2] at Lb
    go_enter Try.func3, Try.ntmps3
    go_wp2_with fail
    refine (La.out _).mono ?_
    rintro e w1 ⟨rfl, k1⟩
    have h1 := bstep (balloc (balloc h0 _) _) k1
    obtain ⟨_, _, _⟩ := In1.below k1
    obtain ⟨_, _, _⟩ := In2.below k1
    go_wp2_with fail
    refine (Lb.out _).mono ?_
    rintro e w2 ⟨rfl, k2⟩
    have h2 := bstep h1 k2
    go_wp2_with fail
    refine (alive_any _).mono ?_
    rintro e w3 ⟨rfl, k3⟩
    go_wp2
    go_ret
    exact ⟨rfl, bstep h2 k3⟩
  rw [decide_eq_false c2] at Lb
  by_cases c3 : 8192 < (a2.size : Int)
  · go_enter Try.func3, Try.ntmps3
    go_wp2_with fail
    refine (La.out _).mono ?_
    rintro e w1 ⟨rfl, k1⟩
    have h1 := bstep (balloc (balloc h0 _) _) k1
    obtain ⟨_, _, _⟩ := In1.below k1
    obtain ⟨_, _, _⟩ := In2.below k1
    go_wp2_with fail
    refine (Lb.out _).mono ?_
    rintro e w2 ⟨rfl, k2⟩
    have h2 := bstep h1 k2
    go_wp2_with fail
    refine (alive_any _).mono ?_
    rintro e w3 ⟨rfl, k3⟩
    go_wp2
    go_ret
    exact ⟨rfl, bstep h2 k3⟩
  obtain ⟨⟨⟨s2, t2, g2⟩, n⟩, hw⟩ : ∃ r, wrote a0_0 a2 a3 = r := ⟨_, rfl⟩
  obtain ⟨⟨t3, g3⟩, ht⟩ : ∃ r, tell a0_0 a0_1 a0_2 = r := ⟨_, rfl⟩
  obtain ⟨⟨s4, t4, g4⟩, hj⟩ : ∃ r, later a0_0 a0_1 a0_2 a1_0 a1_1 a1_2 = r := ⟨_, rfl⟩
  have W1 := Lib.hid (write_to hw l0)
  have W2 := Lib.hid (refwrite_to hw l0)
  have T1 := Lib.hid (text_to ht)
  have T2 := Lib.hid (reftext_to ht)
  have J1 := Lib.hid (join_to hj)
  have J2 := Lib.hid (refjoin_to hj)
  have M1 := Lib.hid (may_any a0_0 a0_1 a0_2)
  have M2 := Lib.hid (fun w => refmay_any a0_0 a0_1 a0_2 w l0)
  have C1 := Lib.hid (compare_any a0_0 a1_0 a0_1 a1_1 a0_2 a1_2)
  have C2 := Lib.hid (refcompare_any a0_0 a1_0 a0_1 a1_1 a0_2 a1_2)
  obtain ⟨m, hm⟩ : ∃ m, may a0_0 a0_1 a0_2 = m := ⟨_, rfl⟩
  obtain ⟨c, hc⟩ : ∃ c, cmp a0_0 a0_1 a0_2 a1_0 a1_1 a1_2 = c := ⟨_, rfl⟩
  rw [hm] at M1 M2
  rw [hc] at C1 C2
  clear hw ht hj hm hc
  go_enter Try.func3, Try.ntmps3
  go_wp2_with fail
  refine (La.out _).mono ?_
  rintro e w1 ⟨rfl, k1⟩
  have h1 := bstep (balloc (balloc h0 _) _) k1
  have In1 := In1.below k1
  have In2 := In2.below k1
  obtain ⟨_, _, _⟩ := id In1
  obtain ⟨_, _, _⟩ := id In2
  clear k1
  go_wp2_with fail
  refine (Lb.out _).mono ?_
  rintro e w2 ⟨rfl, k2⟩
  have h2 := bstep h1 k2
  have In1 := In1.below k2
  have In2 := In2.below k2
  obtain ⟨_, _, _⟩ := id In1
  obtain ⟨_, _, _⟩ := id In2
  clear k2
  go_wp2_with fail
  refine (W1.out _ _ _).mono ?_
  rintro e w3 ⟨rfl, k3⟩
  have h3 := bstep h2 k3
  have In1 := In1.below k3
  have In2 := In2.below k3
  obtain ⟨_, _, _⟩ := id In1
  obtain ⟨_, _, _⟩ := id In2
  have q1 := In1.lt
  have q2 := In2.lt
  clear k3
  go_wp2_with fail
  refine (W2.out _ _ _).mono ?_
  rintro e w4 ⟨rfl, k4⟩
  have h4 := bstep (balloc h3 _) k4
  have In1 := (In1.alloc _).below k4
  have In2 := (In2.alloc _).below k4
  have In3 := (In.new w3 s2 t2 g2 _ rfl).below k4
  obtain ⟨_, _, _⟩ := id In1
  obtain ⟨_, _, _⟩ := id In2
  obtain ⟨_, _, _⟩ := id In3
  have q1 := In1.lt
  have q2 := In2.lt
  have q3 := In3.lt
  clear k4
  go_wp2_with fail
  refine (T1.out _).mono ?_
  rintro e w5 ⟨rfl, k5⟩
  have h5 := bstep (balloc h4 _) k5
  have In1 := (In1.alloc _).below k5
  have In2 := (In2.alloc _).below k5
  have In3 := (In3.alloc _).below k5
  have In4 := (In.new w4 s2 t2 g2 _ rfl).below k5
  obtain ⟨_, _, _⟩ := id In1
  obtain ⟨_, _, _⟩ := id In2
  obtain ⟨_, _, _⟩ := id In3
  obtain ⟨_, _, _⟩ := id In4
  clear k5
  go_wp2_with fail
  refine (T2.out _).mono ?_
  rintro e w6 ⟨rfl, k6⟩
  have h6 := bstep h5 k6
  obtain ⟨x1, x2, x3⟩ := In1.below k6
  obtain ⟨x4, x5, x6⟩ := In2.below k6
  obtain ⟨x7, x8, x9⟩ := In3.below k6
  obtain ⟨y1, y2, y3⟩ := In4.below k6
  clear k6 In1 In2 In3 In4 h0 h1 h2 h3 h4 h5
  go_wp2_with fail
  go_region_held3 (fun w' => w'.cell? ⟨w.heap.size, 0, none⟩ = some (.int .u64 a0_0) ∧ w'.cell? ⟨w.heap.size, 1, none⟩ = some (.string a0_1) ∧ w'.cell? ⟨w.heap.size, 2, none⟩ = some (.bool a0_2) ∧ w'.cell? ⟨w.heap.size + 1, 0, none⟩ = some (.int .u64 a1_0) ∧ w'.cell? ⟨w.heap.size + 1, 1, none⟩ = some (.string a1_1) ∧ w'.cell? ⟨w.heap.size + 1, 2, none⟩ = some (.bool a1_2) ∧ w'.cell? ⟨w3.heap.size, 0, none⟩ = some (.int .u64 s2) ∧ w'.cell? ⟨w3.heap.size, 1, none⟩ = some (.string t2) ∧ w'.cell? ⟨w3.heap.size, 2, none⟩ = some (.bool g2) ∧ w'.cell? ⟨w4.heap.size, 0, none⟩ = some (.int .u64 s2) ∧ w'.cell? ⟨w4.heap.size, 1, none⟩ = some (.string t2) ∧ w'.cell? ⟨w4.heap.size, 2, none⟩ = some (.bool g2))
    (first | go_keep | exact keep4 (by assumption) k7 | exact keep4 (by assumption) k6 | exact keep4 (by assumption) k5 | exact keep4 (by assumption) k4 | exact keep4 (by assumption) k3 | exact keep4 (by assumption) k2 | exact keep4 (by assumption) k1)
    (first | (go_at_call 12; refine (M1.out _).mono ?_; rintro e v1 ⟨rfl, k1⟩; go_wp2_with fail) | (go_at_call 13; refine (M2.out _).mono ?_; rintro e v2 ⟨rfl, k2⟩; go_wp2_with fail) | (go_at_call 14; refine (C1.out _).mono ?_; rintro e v3 ⟨rfl, k3⟩; go_wp2_with fail) | (go_at_call 15; refine (C2.out _).mono ?_; rintro e v4 ⟨rfl, k4⟩; go_wp2_with fail) | (go_at_call 16; refine (J1.out _).mono ?_; rintro e v5 ⟨rfl, k5⟩; go_wp2_with fail) | (go_at_call 17; refine (J2.out _).mono ?_; rintro e v6 ⟨rfl, k6⟩; go_wp2_with fail) | (go_at_call 7; refine (alive_any _).mono ?_; rintro e v7 ⟨rfl, k7⟩; go_wp2_with fail))
  go_wp2
  go_ret
  exact ⟨by simp, bstep (bstep (bstep (bstep (bstep (bstep (bstep (by first | exact h6 | exact Below.drew h6 | exact bdrewN h6 _) k1) k2) k3) k4) k5) k6) k7⟩

end Go.Proofs.Ytenbhmickdokbaa.CellTells
