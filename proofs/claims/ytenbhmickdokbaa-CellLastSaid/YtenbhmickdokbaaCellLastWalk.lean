/- The walk of CellLast: it answers true. -/
import Derived.Test.YtenbhmickdokbaaCellAlive
import Derived.Test.YtenbhmickdokbaaCellPlain
import Derived.Deep.DeepCutAuto
namespace Go.Proofs.Ytenbhmickdokbaa.CellLast
open Go.RowKit Go.Proofs.Ytenbhmickdokbaa.Cell

theorem keep3 {w w' : World} {b1 b2 b3 : Nat} {s1 s2 s3 : Int} {t1 t2 t3 : ByteArray} {g1 g2 g3 : Bool}
    (h : w.cell? ⟨b1, 0, none⟩ = some (.int .u64 s1) ∧ w.cell? ⟨b1, 1, none⟩ = some (.string t1) ∧ w.cell? ⟨b1, 2, none⟩ = some (.bool g1) ∧ w.cell? ⟨b2, 0, none⟩ = some (.int .u64 s2) ∧ w.cell? ⟨b2, 1, none⟩ = some (.string t2) ∧ w.cell? ⟨b2, 2, none⟩ = some (.bool g2) ∧ w.cell? ⟨b3, 0, none⟩ = some (.int .u64 s3) ∧ w.cell? ⟨b3, 1, none⟩ = some (.string t3) ∧ w.cell? ⟨b3, 2, none⟩ = some (.bool g3)) (k : Below w.heap.size w w') : w'.cell? ⟨b1, 0, none⟩ = some (.int .u64 s1) ∧ w'.cell? ⟨b1, 1, none⟩ = some (.string t1) ∧ w'.cell? ⟨b1, 2, none⟩ = some (.bool g1) ∧ w'.cell? ⟨b2, 0, none⟩ = some (.int .u64 s2) ∧ w'.cell? ⟨b2, 1, none⟩ = some (.string t2) ∧ w'.cell? ⟨b2, 2, none⟩ = some (.bool g2) ∧ w'.cell? ⟨b3, 0, none⟩ = some (.int .u64 s3) ∧ w'.cell? ⟨b3, 1, none⟩ = some (.string t3) ∧ w'.cell? ⟨b3, 2, none⟩ = some (.bool g3) := by
  obtain ⟨h1, h2, h3, h4, h5, h6, h7, h8, h9⟩ := h
  obtain ⟨p0, q0, r0⟩ := In.below (b := b1) ⟨h1, h2, h3⟩ k
  obtain ⟨p1, q1, r1⟩ := In.below (b := b2) ⟨h4, h5, h6⟩ k
  obtain ⟨p2, q2, r2⟩ := In.below (b := b3) ⟨h7, h8, h9⟩ k
  exact ⟨p0, q0, r0, p1, q1, r1, p2, q2, r2⟩

theorem keep4 {w w' : World} {b1 b2 b3 b4 : Nat} {s1 s2 s3 s4 : Int} {t1 t2 t3 t4 : ByteArray} {g1 g2 g3 g4 : Bool}
    (h : w.cell? ⟨b1, 0, none⟩ = some (.int .u64 s1) ∧ w.cell? ⟨b1, 1, none⟩ = some (.string t1) ∧ w.cell? ⟨b1, 2, none⟩ = some (.bool g1) ∧ w.cell? ⟨b2, 0, none⟩ = some (.int .u64 s2) ∧ w.cell? ⟨b2, 1, none⟩ = some (.string t2) ∧ w.cell? ⟨b2, 2, none⟩ = some (.bool g2) ∧ w.cell? ⟨b3, 0, none⟩ = some (.int .u64 s3) ∧ w.cell? ⟨b3, 1, none⟩ = some (.string t3) ∧ w.cell? ⟨b3, 2, none⟩ = some (.bool g3) ∧ w.cell? ⟨b4, 0, none⟩ = some (.int .u64 s4) ∧ w.cell? ⟨b4, 1, none⟩ = some (.string t4) ∧ w.cell? ⟨b4, 2, none⟩ = some (.bool g4)) (k : Below w.heap.size w w') : w'.cell? ⟨b1, 0, none⟩ = some (.int .u64 s1) ∧ w'.cell? ⟨b1, 1, none⟩ = some (.string t1) ∧ w'.cell? ⟨b1, 2, none⟩ = some (.bool g1) ∧ w'.cell? ⟨b2, 0, none⟩ = some (.int .u64 s2) ∧ w'.cell? ⟨b2, 1, none⟩ = some (.string t2) ∧ w'.cell? ⟨b2, 2, none⟩ = some (.bool g2) ∧ w'.cell? ⟨b3, 0, none⟩ = some (.int .u64 s3) ∧ w'.cell? ⟨b3, 1, none⟩ = some (.string t3) ∧ w'.cell? ⟨b3, 2, none⟩ = some (.bool g3) ∧ w'.cell? ⟨b4, 0, none⟩ = some (.int .u64 s4) ∧ w'.cell? ⟨b4, 1, none⟩ = some (.string t4) ∧ w'.cell? ⟨b4, 2, none⟩ = some (.bool g4) := by
  obtain ⟨h1, h2, h3, h4, h5, h6, h7, h8, h9, h10, h11, h12⟩ := h
  obtain ⟨p0, q0, r0⟩ := In.below (b := b1) ⟨h1, h2, h3⟩ k
  obtain ⟨p1, q1, r1⟩ := In.below (b := b2) ⟨h4, h5, h6⟩ k
  obtain ⟨p2, q2, r2⟩ := In.below (b := b3) ⟨h7, h8, h9⟩ k
  obtain ⟨p3, q3, r3⟩ := In.below (b := b4) ⟨h10, h11, h12⟩ k
  exact ⟨p0, q0, r0, p1, q1, r1, p2, q2, r2, p3, q3, r3⟩

theorem wrote_ok {s : Int} {tx : ByteArray} {g : Bool} {s2 : Int} {t2 : ByteArray} {g2 : Bool} (h : wrote s tx g = ((s2, t2, g2), 0)) : s2 = s + 1 ∧ t2 = (if g then ⟨#[]⟩ else tx) ∧ g = g2 ∧ (tx.size : Int) ≤ 4096 ∧ s < 281474976710656 := by
  unfold wrote at h
  split at h
  · simp at h
  split at h
  · simp at h
  · simp only [Prod.mk.injEq, and_true] at h
    obtain ⟨h1, h2, h3⟩ := h
    exact ⟨h1.symm, h2.symm, h3, by omega, by omega⟩
theorem wrote_may {s : Int} {tx : ByteArray} {g : Bool} (h0 : 0 ≤ s) (h1 : s < 281474976710656) (h2 : (tx.size : Int) ≤ 4096) : may (s + 1) (if g then ⟨#[]⟩ else tx) g = true := by
  unfold may
  rw [if_neg (by omega), decide_eq_true (show s + 1 ≤ 281474976710656 by omega)]
  cases g
  · rw [if_neg (by decide), decide_eq_true h2]; rfl
  · rw [if_pos rfl]; simp [Lib.toList_data]; decide
theorem wrote_tell {s : Int} {tx : ByteArray} {g : Bool} (h0 : 0 ≤ s) : tell (s + 1) (if g then ⟨#[]⟩ else tx) g = ((if g then ⟨#[]⟩ else tx), !g) := by
  unfold tell
  cases g
  · rw [if_neg (by simp; omega)]; rfl
  · rw [if_pos (.inr rfl)]; rfl

theorem cells_ne {α : Type} {s s' : Int} {t t' : ByteArray} {g g' : Bool} {X Y : α} [Decidable (s = s')] [Decidable (t.toList = t'.toList)] [Decidable (g = g')] (h : ¬ ((s, t, g) = (s', t', g'))) :
    (if s = s' then if t.toList = t'.toList then if g = g' then X else Y else Y else Y) = Y := by
  split
  · split
    · split
      · rename_i h1 h2 h3
        refine absurd ?_ h
        rw [h1, h3, Str.ext (s := t) (t := t') (by rw [← Lib.toList_data, ← Lib.toList_data, h2])]
      · rfl
    · rfl
  · rfl
theorem cells_eq {α : Type} {s s' : Int} {t t' : ByteArray} {g g' : Bool} {X Y : α} [Decidable (s = s')] [Decidable (t.toList = t'.toList)] [Decidable (g = g')] (h : (s, t, g) = (s', t', g')) :
    (if s = s' then if t.toList = t'.toList then if g = g' then X else Y else Y else Y) = X := by
  simp only [Prod.mk.injEq] at h
  rw [if_pos h.1, if_pos (by rw [h.2.1]), if_pos h.2.2]

set_option maxRecDepth 100000 in
set_option maxHeartbeats 8000000 in
theorem walk (a0_0 : Int) (a0_1 : ByteArray) (a0_2 : Bool) (a1_0 : Int) (a1_1 : ByteArray) (a1_2 : Bool) (a2_0 : Int) (a2_1 : ByteArray) (a2_2 : Bool) (a3 : ByteArray) (a4 : Bool) (w : World) (w0_0 : (Lit.int .u64 a0_0).wf = true) (_w0_1 : a0_1.size ≤ maxLen) (w1_0 : (Lit.int .u64 a1_0).wf = true) (_w1_1 : a1_1.size ≤ maxLen) (w2_0 : (Lit.int .u64 a2_0).wf = true) (_w2_1 : a2_1.size ≤ maxLen) (w3 : a3.size ≤ maxLen) :
    Calls Try.prog 4 #[.agg #[.int .u64 a0_0, .string a0_1, .bool a0_2], .agg #[.int .u64 a1_0, .string a1_1, .bool a1_2], .agg #[.int .u64 a2_0, .string a2_1, .bool a2_2], .string a3, .bool a4] w fun e w' => e = .returned (.bool true) ∧ Below w.heap.size w w' := by
  obtain ⟨l0, u0⟩ := bounds_u64 w0_0
  obtain ⟨l1, u1⟩ := bounds_u64 w1_0
  obtain ⟨l2, u2⟩ := bounds_u64 w2_0
  unfold maxLen at w3
  clear w0_0 w1_0 w2_0
  have La := Lib.hid (large_any a0_0 a0_1 a0_2)
  have Lb := Lib.hid (large_any a1_0 a1_1 a1_2)
  have Lc := Lib.hid (large_any a2_0 a2_1 a2_2)
  have h0 := Below.refl w.heap.size w
  have In1 := ((In.new w a0_0 a0_1 a0_2 _ rfl).alloc (.cells #[.int .u64 a1_0, .string a1_1, .bool a1_2] 24)).alloc (.cells #[.int .u64 a2_0, .string a2_1, .bool a2_2] 24)
  have In2 := (In.new (w.alloc (.cells #[.int .u64 a0_0, .string a0_1, .bool a0_2] 24)) a1_0 a1_1 a1_2 (w.heap.size + 1) (by simp)).alloc (.cells #[.int .u64 a2_0, .string a2_1, .bool a2_2] 24)
  have In3 := In.new ((w.alloc (.cells #[.int .u64 a0_0, .string a0_1, .bool a0_2] 24)).alloc (.cells #[.int .u64 a1_0, .string a1_1, .bool a1_2] 24)) a2_0 a2_1 a2_2 (w.heap.size + 1 + 1) (by simp)
  by_cases c1 : 8192 < (a0_1.size : Int)
  · rw [decide_eq_true c1] at La
    go_enter Try.func4, Try.ntmps4
    go_wp2_with fail
    refine (La.out _).mono ?_
    rintro e w1 ⟨rfl, k1⟩
    have h1 := bstep (balloc (balloc (balloc h0 _) _) _) k1
    have In1 := In1.below k1
    have In2 := In2.below k1
    have In3 := In3.below k1
    obtain ⟨_, _, _⟩ := id In1
    have qIn1 := In1.lt
    obtain ⟨_, _, _⟩ := id In2
    have qIn2 := In2.lt
    obtain ⟨_, _, _⟩ := id In3
    have qIn3 := In3.lt
    clear k1
    go_wp2_with fail
    refine (alive_any _).mono ?_
    rintro e w2 ⟨rfl, k2⟩
    have h2 := bstep h1 k2
    clear k2
    go_wp2
    go_ret
    exact ⟨rfl, h2⟩
  rw [decide_eq_false c1] at La
  by_cases c2 : 8192 < (a1_1.size : Int)
  · rw [decide_eq_true c2] at Lb
    go_enter Try.func4, Try.ntmps4
    go_wp2_with fail
    refine (La.out _).mono ?_
    rintro e w1 ⟨rfl, k1⟩
    have h1 := bstep (balloc (balloc (balloc h0 _) _) _) k1
    have In1 := In1.below k1
    have In2 := In2.below k1
    have In3 := In3.below k1
    obtain ⟨_, _, _⟩ := id In1
    have qIn1 := In1.lt
    obtain ⟨_, _, _⟩ := id In2
    have qIn2 := In2.lt
    obtain ⟨_, _, _⟩ := id In3
    have qIn3 := In3.lt
    clear k1
    go_wp2_with fail
    refine (Lb.out _).mono ?_
    rintro e w2 ⟨rfl, k2⟩
    have h2 := bstep h1 k2
    have In1 := In1.below k2
    have In2 := In2.below k2
    have In3 := In3.below k2
    obtain ⟨_, _, _⟩ := id In1
    have qIn1 := In1.lt
    obtain ⟨_, _, _⟩ := id In2
    have qIn2 := In2.lt
    obtain ⟨_, _, _⟩ := id In3
    have qIn3 := In3.lt
    clear k2
    go_wp2_with fail
    refine (alive_any _).mono ?_
    rintro e w3 ⟨rfl, k3⟩
    have h3 := bstep h2 k3
    clear k3
    go_wp2
    go_ret
    exact ⟨rfl, h3⟩
  rw [decide_eq_false c2] at Lb
  by_cases c3 : 8192 < (a2_1.size : Int)
  · rw [decide_eq_true c3] at Lc
    go_enter Try.func4, Try.ntmps4
    go_wp2_with fail
    refine (La.out _).mono ?_
    rintro e w1 ⟨rfl, k1⟩
    have h1 := bstep (balloc (balloc (balloc h0 _) _) _) k1
    have In1 := In1.below k1
    have In2 := In2.below k1
    have In3 := In3.below k1
    obtain ⟨_, _, _⟩ := id In1
    have qIn1 := In1.lt
    obtain ⟨_, _, _⟩ := id In2
    have qIn2 := In2.lt
    obtain ⟨_, _, _⟩ := id In3
    have qIn3 := In3.lt
    clear k1
    go_wp2_with fail
    refine (Lb.out _).mono ?_
    rintro e w2 ⟨rfl, k2⟩
    have h2 := bstep h1 k2
    have In1 := In1.below k2
    have In2 := In2.below k2
    have In3 := In3.below k2
    obtain ⟨_, _, _⟩ := id In1
    have qIn1 := In1.lt
    obtain ⟨_, _, _⟩ := id In2
    have qIn2 := In2.lt
    obtain ⟨_, _, _⟩ := id In3
    have qIn3 := In3.lt
    clear k2
    go_wp2_with fail
    refine (Lc.out _).mono ?_
    rintro e w3 ⟨rfl, k3⟩
    have h3 := bstep h2 k3
    have In1 := In1.below k3
    have In2 := In2.below k3
    have In3 := In3.below k3
    obtain ⟨_, _, _⟩ := id In1
    have qIn1 := In1.lt
    obtain ⟨_, _, _⟩ := id In2
    have qIn2 := In2.lt
    obtain ⟨_, _, _⟩ := id In3
    have qIn3 := In3.lt
    clear k3
    go_wp2_with fail
    refine (alive_any _).mono ?_
    rintro e w4 ⟨rfl, k4⟩
    have h4 := bstep h3 k4
    clear k4
    go_wp2
    go_ret
    exact ⟨rfl, h4⟩
  rw [decide_eq_false c3] at Lc
  by_cases c4 : 8192 < (a3.size : Int)
  · go_enter Try.func4, Try.ntmps4
    go_wp2_with fail
    refine (La.out _).mono ?_
    rintro e w1 ⟨rfl, k1⟩
    have h1 := bstep (balloc (balloc (balloc h0 _) _) _) k1
    have In1 := In1.below k1
    have In2 := In2.below k1
    have In3 := In3.below k1
    obtain ⟨_, _, _⟩ := id In1
    have qIn1 := In1.lt
    obtain ⟨_, _, _⟩ := id In2
    have qIn2 := In2.lt
    obtain ⟨_, _, _⟩ := id In3
    have qIn3 := In3.lt
    clear k1
    go_wp2_with fail
    refine (Lb.out _).mono ?_
    rintro e w2 ⟨rfl, k2⟩
    have h2 := bstep h1 k2
    have In1 := In1.below k2
    have In2 := In2.below k2
    have In3 := In3.below k2
    obtain ⟨_, _, _⟩ := id In1
    have qIn1 := In1.lt
    obtain ⟨_, _, _⟩ := id In2
    have qIn2 := In2.lt
    obtain ⟨_, _, _⟩ := id In3
    have qIn3 := In3.lt
    clear k2
    go_wp2_with fail
    refine (Lc.out _).mono ?_
    rintro e w3 ⟨rfl, k3⟩
    have h3 := bstep h2 k3
    have In1 := In1.below k3
    have In2 := In2.below k3
    have In3 := In3.below k3
    obtain ⟨_, _, _⟩ := id In1
    have qIn1 := In1.lt
    obtain ⟨_, _, _⟩ := id In2
    have qIn2 := In2.lt
    obtain ⟨_, _, _⟩ := id In3
    have qIn3 := In3.lt
    clear k3
    go_wp2_with fail
    refine (alive_any _).mono ?_
    rintro e w4 ⟨rfl, k4⟩
    have h4 := bstep h3 k4
    clear k4
    go_wp2
    go_ret
    exact ⟨rfl, h4⟩
  obtain ⟨J, hJ⟩ : ∃ J, J = joinT (a0_0, a0_1, a0_2) (a1_0, a1_1, a1_2) := ⟨_, rfl⟩
  have hst := join_stamp (a0_0, a0_1, a0_2) (a1_0, a1_1, a1_2)
  rw [← hJ] at hst
  obtain ⟨sj, tj, gj⟩ := J
  obtain ⟨hsa, hsb⟩ := hst
  simp only at hsa hsb
  obtain ⟨⟨⟨sw, tw, gw⟩, n⟩, hw⟩ : ∃ r, wrote sj a3 a4 = r := ⟨_, rfl⟩
  have Jab := Lib.hid (join_to (show later a0_0 a0_1 a0_2 a1_0 a1_1 a1_2 = (sj, tj, gj) from hJ.symm))
  have Wr := Lib.hid (write_to hw (show 0 ≤ sj by omega))
  have HJ := Lib.hid hJ
  have HW := Lib.hid hw
  clear hJ hw
  go_enter Try.func4, Try.ntmps4
  go_wp2_with fail
  refine (La.out _).mono ?_
  rintro e w1 ⟨rfl, k1⟩
  have h1 := bstep (balloc (balloc (balloc h0 _) _) _) k1
  have In1 := In1.below k1
  have In2 := In2.below k1
  have In3 := In3.below k1
  obtain ⟨_, _, _⟩ := id In1
  have qIn1 := In1.lt
  obtain ⟨_, _, _⟩ := id In2
  have qIn2 := In2.lt
  obtain ⟨_, _, _⟩ := id In3
  have qIn3 := In3.lt
  clear k1
  go_wp2_with fail
  refine (Lb.out _).mono ?_
  rintro e w2 ⟨rfl, k2⟩
  have h2 := bstep h1 k2
  have In1 := In1.below k2
  have In2 := In2.below k2
  have In3 := In3.below k2
  obtain ⟨_, _, _⟩ := id In1
  have qIn1 := In1.lt
  obtain ⟨_, _, _⟩ := id In2
  have qIn2 := In2.lt
  obtain ⟨_, _, _⟩ := id In3
  have qIn3 := In3.lt
  clear k2
  go_wp2_with fail
  refine (Lc.out _).mono ?_
  rintro e w3 ⟨rfl, k3⟩
  have h3 := bstep h2 k3
  have In1 := In1.below k3
  have In2 := In2.below k3
  have In3 := In3.below k3
  obtain ⟨_, _, _⟩ := id In1
  have qIn1 := In1.lt
  obtain ⟨_, _, _⟩ := id In2
  have qIn2 := In2.lt
  obtain ⟨_, _, _⟩ := id In3
  have qIn3 := In3.lt
  clear k3
  go_wp2_with fail
  refine (Jab.out _).mono ?_
  rintro e w4 ⟨rfl, k4⟩
  have h4 := bstep h3 k4
  have In1 := In1.below k4
  have In2 := In2.below k4
  have In3 := In3.below k4
  obtain ⟨_, _, _⟩ := id In1
  have qIn1 := In1.lt
  obtain ⟨_, _, _⟩ := id In2
  have qIn2 := In2.lt
  obtain ⟨_, _, _⟩ := id In3
  have qIn3 := In3.lt
  clear k4
  go_wp2_with fail
  refine (Wr.out _ _ _).mono ?_
  rintro e w5 ⟨rfl, k5⟩
  have h5 := bstep h4 k5
  have In1 := In1.below k5
  have In2 := In2.below k5
  have In3 := In3.below k5
  obtain ⟨_, _, _⟩ := id In1
  have qIn1 := In1.lt
  obtain ⟨_, _, _⟩ := id In2
  have qIn2 := In2.lt
  obtain ⟨_, _, _⟩ := id In3
  have qIn3 := In3.lt
  clear k5
  have In4 := In.new w5 sw tw gw _ rfl
  have In1 := In1.alloc (.cells #[.int .u64 sw, .string tw, .bool gw] 24)
  have In2 := In2.alloc (.cells #[.int .u64 sw, .string tw, .bool gw] 24)
  have In3 := In3.alloc (.cells #[.int .u64 sw, .string tw, .bool gw] 24)
  have h6 := balloc h5 (.cells #[.int .u64 sw, .string tw, .bool gw] 24)
  clear h0 h1 h2 h3 h4
  go_upto_if 42 with (fail)
  go_cut [] (fun wx => In wx w.heap.size a0_0 a0_1 a0_2 ∧ In wx (w.heap.size + 1) a1_0 a1_1 a1_2 ∧ In wx (w.heap.size + 1 + 1) a2_0 a2_1 a2_2 ∧ Below w.heap.size w wx)

  case first =>
    by_cases hn : n = 0
    · subst hn
      have hn' : ((0 : Int) == 0) = true := rfl
      obtain ⟨rfl, rfl, rfl, ho1, ho2⟩ := wrote_ok HW.out
      have Ca := Lib.hid (compare_to (show cmp (sj + 1) (if a4 then ⟨#[]⟩ else a3) a4 a0_0 a0_1 a0_2 = 1 from cmp_later (a := (sj + 1, (if a4 then ⟨#[]⟩ else a3), a4)) (b := (a0_0, a0_1, a0_2)) (by simp only; omega)))
      have Cb := Lib.hid (compare_to (show cmp (sj + 1) (if a4 then ⟨#[]⟩ else a3) a4 a1_0 a1_1 a1_2 = 1 from cmp_later (a := (sj + 1, (if a4 then ⟨#[]⟩ else a3), a4)) (b := (a1_0, a1_1, a1_2)) (by simp only; omega)))
      have Jwa := Lib.hid (join_to (show later (sj + 1) (if a4 then ⟨#[]⟩ else a3) a4 a0_0 a0_1 a0_2 = (sj + 1, (if a4 then ⟨#[]⟩ else a3), a4) from join_later (a := (sj + 1, (if a4 then ⟨#[]⟩ else a3), a4)) (b := (a0_0, a0_1, a0_2)) (by simp only; omega)))
      have Mw := Lib.hid (may_to (wrote_may (tx := a3) (g := a4) (by omega) ho2 ho1))
      have Tw := Lib.hid (text_to (wrote_tell (tx := a3) (g := a4) (show 0 ≤ sj by omega)))
      obtain ⟨_, _, _⟩ := id In4
      clear HW HJ Wr Jab La Lb Lc hn' ho1
      generalize hz : sj + 1 = z at Ca Cb Jwa Mw Tw In1 In2 In3 In4 h6 ⊢
      clear hz ho2
      cases a4
      · simp only [if_neg (show ¬ (false = true) by decide), Bool.not_false] at Ca Cb Jwa Mw Tw In1 In2 In3 In4 h6
        go_wp2_with fail
        refine (Tw.out _).mono ?_
        rintro e x1 ⟨rfl, kx⟩
        have hx := bstep h6 kx
        obtain ⟨_, _, _⟩ := In1.below kx
        obtain ⟨_, _, _⟩ := In2.below kx
        obtain ⟨_, _, _⟩ := In4.below kx
        have In3 := In3.below kx
        have J1 := In1.below kx
        have J2 := In2.below kx
        go_wp2_with fail
        go_region_held3 (fun w' => w'.cell? ⟨w5.heap.size, 0, none⟩ = some (.int .u64 z) ∧ w'.cell? ⟨w5.heap.size, 1, none⟩ = some (.string a3) ∧ w'.cell? ⟨w5.heap.size, 2, none⟩ = some (.bool false) ∧ w'.cell? ⟨w.heap.size, 0, none⟩ = some (.int .u64 a0_0) ∧ w'.cell? ⟨w.heap.size, 1, none⟩ = some (.string a0_1) ∧ w'.cell? ⟨w.heap.size, 2, none⟩ = some (.bool a0_2) ∧ w'.cell? ⟨w.heap.size + 1, 0, none⟩ = some (.int .u64 a1_0) ∧ w'.cell? ⟨w.heap.size + 1, 1, none⟩ = some (.string a1_1) ∧ w'.cell? ⟨w.heap.size + 1, 2, none⟩ = some (.bool a1_2))
          (first | go_keep | exact keep3 (by assumption) k4 | exact keep3 (by assumption) k3 | exact keep3 (by assumption) k2 | exact keep3 (by assumption) k1)
          (first | (go_at_call 14; with_reducible refine (Ca.out _).mono ?_; rintro e v1 ⟨rfl, k1⟩; go_wp2_with fail) | (go_at_call 14; with_reducible refine (Cb.out _).mono ?_; rintro e v2 ⟨rfl, k2⟩; go_wp2_with fail) | (go_at_call 16; with_reducible refine (Jwa.out _).mono ?_; rintro e v3 ⟨rfl, k3⟩; go_wp2_with fail) | (go_at_call 12; with_reducible refine (Mw.out _).mono ?_; rintro e v4 ⟨rfl, k4⟩; go_wp2_with fail))
        have D := Below.drew (Below.refl x1.heap.size x1)
        go_wp2_with fail
        go_meet
        exact ⟨((((J1.below D).below k1).below k2).below k3).below k4, ((((J2.below D).below k1).below k2).below k3).below k4, ((((In3.below D).below k1).below k2).below k3).below k4, bstep (bstep (bstep (bstep (Below.drew hx) k1) k2) k3) k4⟩
      · simp only [if_true, Bool.not_true] at Ca Cb Jwa Mw Tw In1 In2 In3 In4 h6
        go_wp2_with fail
        refine (Tw.out _).mono ?_
        rintro e x1 ⟨rfl, kx⟩
        have hx := bstep h6 kx
        obtain ⟨_, _, _⟩ := In1.below kx
        obtain ⟨_, _, _⟩ := In2.below kx
        obtain ⟨_, _, _⟩ := In4.below kx
        have In3 := In3.below kx
        have J1 := In1.below kx
        have J2 := In2.below kx
        go_wp2_with fail
        refine wp_region_noPanic ?_
        refine wp_region_held_drew (S := (fun w' => w'.cell? ⟨w5.heap.size, 0, none⟩ = some (.int .u64 z) ∧ w'.cell? ⟨w5.heap.size, 1, none⟩ = some (.string ⟨#[]⟩) ∧ w'.cell? ⟨w5.heap.size, 2, none⟩ = some (.bool true) ∧ w'.cell? ⟨w.heap.size, 0, none⟩ = some (.int .u64 a0_0) ∧ w'.cell? ⟨w.heap.size, 1, none⟩ = some (.string a0_1) ∧ w'.cell? ⟨w.heap.size, 2, none⟩ = some (.bool a0_2) ∧ w'.cell? ⟨w.heap.size + 1, 0, none⟩ = some (.int .u64 a1_0) ∧ w'.cell? ⟨w.heap.size + 1, 1, none⟩ = some (.string a1_1) ∧ w'.cell? ⟨w.heap.size + 1, 2, none⟩ = some (.bool a1_2))) (by kernel_rfl) (by go_keep) (fun hHeld => ?_)
        refine wpAnyH_take (i := 0) (v := ?_) (by simp only [List.getElem?_toArray, List.getElem?_cons_zero]; rfl) (by kernel_rfl) (by kernel_rfl) (by kernel_rfl) (fun _ _ _ h => h) (Or.inl ⟨by rfl, ?_⟩) (by assumption) ?_
        rotate_left
        · (intro w hSw; (try dsimp only at hSw); go_simp; try with_reducible rfl)
        try simp only [Act.put, List.setIfInBounds_toArray, List.set_cons_zero, List.set_cons_succ]
        refine wpAnyH_take (i := 1) (v := ?_) (by simp only [List.getElem?_toArray, List.getElem?_cons_succ, List.getElem?_cons_zero]; rfl) (by kernel_rfl) (by kernel_rfl) (by kernel_rfl) (fun _ _ _ h => h) (Or.inl ⟨by rfl, ?_⟩) (by assumption) ?_
        rotate_left
        · (intro w hSw; (try dsimp only at hSw); go_simp; try with_reducible rfl)
        try simp only [Act.put, List.setIfInBounds_toArray, List.set_cons_zero, List.set_cons_succ]
        refine wpAnyH_ready (rs := [2]) (by kernel_rfl) (by simp) ?_
        refine AllReadyH.cons (by simp only [List.getElem?_toArray, List.getElem?_cons_succ, List.getElem?_cons_zero]; rfl) (fun K hK => ?_) AllReadyH.nil
        go_simp
        go_at_call 14
        refine (Ca.out _).mono ?_
        rintro e v1 ⟨rfl, k1⟩
        go_wp2_with fail
        refine hK.out _ _ (keep3 hHeld k1) (fun hHeld => ?_)
        clear hK K
        try simp only [Act.put, List.setIfInBounds_toArray, List.set_cons_zero, List.set_cons_succ]
        refine wpAnyH_take (i := 3) (v := ?_) (by simp only [List.getElem?_toArray, List.getElem?_cons_succ, List.getElem?_cons_zero]; rfl) (by kernel_rfl) (by kernel_rfl) (by kernel_rfl) (fun _ _ _ h => h) (Or.inl ⟨by rfl, ?_⟩) (by assumption) ?_
        rotate_left
        · (intro w hSw; (try dsimp only at hSw); go_simp; try with_reducible rfl)
        try simp only [Act.put, List.setIfInBounds_toArray, List.set_cons_zero, List.set_cons_succ]
        refine wpAnyH_take (i := 4) (v := ?_) (by simp only [List.getElem?_toArray, List.getElem?_cons_succ, List.getElem?_cons_zero]; rfl) (by kernel_rfl) (by kernel_rfl) (by kernel_rfl) (fun _ _ _ h => h) (Or.inl ⟨by rfl, ?_⟩) (by assumption) ?_
        rotate_left
        · (intro w hSw; (try dsimp only at hSw); go_simp; try with_reducible rfl)
        try simp only [Act.put, List.setIfInBounds_toArray, List.set_cons_zero, List.set_cons_succ]
        refine wpAnyH_take (i := 5) (v := ?_) (by simp only [List.getElem?_toArray, List.getElem?_cons_succ, List.getElem?_cons_zero]; rfl) (by kernel_rfl) (by kernel_rfl) (by kernel_rfl) (fun _ _ _ h => h) (Or.inl ⟨by rfl, ?_⟩) (by assumption) ?_
        rotate_left
        · (intro w hSw; (try dsimp only at hSw); go_simp; try with_reducible rfl)
        try simp only [Act.put, List.setIfInBounds_toArray, List.set_cons_zero, List.set_cons_succ]
        refine wpAnyH_take (i := 6) (v := ?_) (by simp only [List.getElem?_toArray, List.getElem?_cons_succ, List.getElem?_cons_zero]; rfl) (by kernel_rfl) (by kernel_rfl) (by kernel_rfl) (fun _ _ _ h => h) (Or.inl ⟨by rfl, ?_⟩) (by assumption) ?_
        rotate_left
        · (intro w hSw; (try dsimp only at hSw); go_simp; try with_reducible rfl)
        try simp only [Act.put, List.setIfInBounds_toArray, List.set_cons_zero, List.set_cons_succ]
        refine wpAnyH_ready (rs := [7]) (by kernel_rfl) (by simp) ?_
        refine AllReadyH.cons (by simp only [List.getElem?_toArray, List.getElem?_cons_succ, List.getElem?_cons_zero]; rfl) (fun K hK => ?_) AllReadyH.nil
        go_simp
        go_at_call 14
        refine (Cb.out _).mono ?_
        rintro e v2 ⟨rfl, k2⟩
        go_wp2_with fail
        refine hK.out _ _ (keep3 hHeld k2) (fun hHeld => ?_)
        clear hK K
        try simp only [Act.put, List.setIfInBounds_toArray, List.set_cons_zero, List.set_cons_succ]
        refine wpAnyH_take (i := 8) (v := ?_) (by simp only [List.getElem?_toArray, List.getElem?_cons_succ, List.getElem?_cons_zero]; rfl) (by kernel_rfl) (by kernel_rfl) (by kernel_rfl) (fun _ _ _ h => h) (Or.inl ⟨by rfl, ?_⟩) (by assumption) ?_
        rotate_left
        · (intro w hSw; (try dsimp only at hSw); go_simp; try with_reducible rfl)
        try simp only [Act.put, List.setIfInBounds_toArray, List.set_cons_zero, List.set_cons_succ]
        refine wpAnyH_take (i := 9) (v := ?_) (by simp only [List.getElem?_toArray, List.getElem?_cons_succ, List.getElem?_cons_zero]; rfl) (by kernel_rfl) (by kernel_rfl) (by kernel_rfl) (fun _ _ _ h => h) (Or.inl ⟨by rfl, ?_⟩) (by assumption) ?_
        rotate_left
        · (intro w hSw; (try dsimp only at hSw); go_simp; try with_reducible rfl)
        try simp only [Act.put, List.setIfInBounds_toArray, List.set_cons_zero, List.set_cons_succ]
        refine wpAnyH_take (i := 10) (v := ?_) (by simp only [List.getElem?_toArray, List.getElem?_cons_succ, List.getElem?_cons_zero]; rfl) (by kernel_rfl) (by kernel_rfl) (by kernel_rfl) (fun _ _ _ h => h) (Or.inl ⟨by rfl, ?_⟩) (by assumption) ?_
        rotate_left
        · (intro w hSw; (try dsimp only at hSw); go_simp; try with_reducible rfl)
        try simp only [Act.put, List.setIfInBounds_toArray, List.set_cons_zero, List.set_cons_succ]
        refine wpAnyH_take (i := 11) (v := ?_) (by simp only [List.getElem?_toArray, List.getElem?_cons_succ, List.getElem?_cons_zero]; rfl) (by kernel_rfl) (by kernel_rfl) (by kernel_rfl) (fun _ _ _ h => h) (Or.inl ⟨by rfl, ?_⟩) (by assumption) ?_
        rotate_left
        · (intro w hSw; (try dsimp only at hSw); go_simp; try with_reducible rfl)
        try simp only [Act.put, List.setIfInBounds_toArray, List.set_cons_zero, List.set_cons_succ]
        refine wpAnyH_take (i := 12) (v := ?_) (by simp only [List.getElem?_toArray, List.getElem?_cons_succ, List.getElem?_cons_zero]; rfl) (by kernel_rfl) (by kernel_rfl) (by kernel_rfl) (fun _ _ _ h => h) (Or.inl ⟨by rfl, ?_⟩) (by assumption) ?_
        rotate_left
        · (intro w hSw; (try dsimp only at hSw); go_simp; try with_reducible rfl)
        try simp only [Act.put, List.setIfInBounds_toArray, List.set_cons_zero, List.set_cons_succ]
        refine wpAnyH_take (i := 14) (v := ?_) (by simp only [List.getElem?_toArray, List.getElem?_cons_succ, List.getElem?_cons_zero]; rfl) (by kernel_rfl) (by kernel_rfl) (by kernel_rfl) (fun _ _ _ h => h) (Or.inl ⟨by rfl, ?_⟩) (by assumption) ?_
        rotate_left
        · (intro w hSw; (try dsimp only at hSw); go_simp; try with_reducible rfl)
        try simp only [Act.put, List.setIfInBounds_toArray, List.set_cons_zero, List.set_cons_succ]
        refine wpAnyH_ready (rs := [13]) (by kernel_rfl) (by simp) ?_
        refine AllReadyH.cons (by simp only [List.getElem?_toArray, List.getElem?_cons_succ, List.getElem?_cons_zero]; rfl) (fun K hK => ?_) AllReadyH.nil
        go_simp
        go_at_call 16
        refine (Jwa.out _).mono ?_
        rintro e v3 ⟨rfl, k3⟩
        go_wp2_with fail
        refine hK.out _ _ (keep3 hHeld k3) (fun hHeld => ?_)
        clear hK K
        try simp only [Act.put, List.setIfInBounds_toArray, List.set_cons_zero, List.set_cons_succ]
        refine wpAnyH_take (i := 15) (v := ?_) (by simp only [List.getElem?_toArray, List.getElem?_cons_succ, List.getElem?_cons_zero]; rfl) (by kernel_rfl) (by kernel_rfl) (by kernel_rfl) (fun _ _ _ h => h) (Or.inl ⟨by rfl, ?_⟩) (by assumption) ?_
        rotate_left
        · (intro w hSw; (try dsimp only at hSw); go_simp; try with_reducible rfl)
        try simp only [Act.put, List.setIfInBounds_toArray, List.set_cons_zero, List.set_cons_succ]
        refine wpAnyH_take (i := 16) (v := ?_) (by simp only [List.getElem?_toArray, List.getElem?_cons_succ, List.getElem?_cons_zero]; rfl) (by kernel_rfl) (by kernel_rfl) (by kernel_rfl) (fun _ _ _ h => h) (Or.inl ⟨by rfl, ?_⟩) (by assumption) ?_
        rotate_left
        · (intro w hSw; (try dsimp only at hSw); go_simp; try with_reducible rfl)
        try simp only [Act.put, List.setIfInBounds_toArray, List.set_cons_zero, List.set_cons_succ]
        refine wpAnyH_take (i := 17) (v := ?_) (by simp only [List.getElem?_toArray, List.getElem?_cons_succ, List.getElem?_cons_zero]; rfl) (by kernel_rfl) (by kernel_rfl) (by kernel_rfl) (fun _ _ _ h => h) (Or.inl ⟨by rfl, ?_⟩) (by assumption) ?_
        rotate_left
        · (intro w hSw; (try dsimp only at hSw); go_simp; try with_reducible rfl)
        try simp only [Act.put, List.setIfInBounds_toArray, List.set_cons_zero, List.set_cons_succ]
        refine wpAnyH_take (i := 18) (v := ?_) (by simp only [List.getElem?_toArray, List.getElem?_cons_succ, List.getElem?_cons_zero]; rfl) (by kernel_rfl) (by kernel_rfl) (by kernel_rfl) (fun _ _ _ h => h) (Or.inl ⟨by rfl, ?_⟩) (by assumption) ?_
        rotate_left
        · (intro w hSw; (try dsimp only at hSw); go_simp; try with_reducible rfl)
        try simp only [Act.put, List.setIfInBounds_toArray, List.set_cons_zero, List.set_cons_succ]
        refine wpAnyH_take (i := 19) (v := ?_) (by simp only [List.getElem?_toArray, List.getElem?_cons_succ, List.getElem?_cons_zero]; rfl) (by kernel_rfl) (by kernel_rfl) (by kernel_rfl) (fun _ _ _ h => h) (Or.inl ⟨by rfl, ?_⟩) (by assumption) ?_
        rotate_left
        · (intro w hSw; (try dsimp only at hSw); go_simp; try with_reducible rfl)
        try simp only [Act.put, List.setIfInBounds_toArray, List.set_cons_zero, List.set_cons_succ]
        refine wpAnyH_take (i := 20) (v := ?_) (by simp only [List.getElem?_toArray, List.getElem?_cons_succ, List.getElem?_cons_zero]; rfl) (by kernel_rfl) (by kernel_rfl) (by kernel_rfl) (fun _ _ _ h => h) (Or.inl ⟨by rfl, ?_⟩) (by assumption) ?_
        rotate_left
        · (intro w hSw; (try dsimp only at hSw); go_simp; try with_reducible rfl)
        try simp only [Act.put, List.setIfInBounds_toArray, List.set_cons_zero, List.set_cons_succ]
        refine wpAnyH_take (i := 21) (v := ?_) (by simp only [List.getElem?_toArray, List.getElem?_cons_succ, List.getElem?_cons_zero]; rfl) (by kernel_rfl) (by kernel_rfl) (by kernel_rfl) (fun _ _ _ h => h) (Or.inl ⟨by rfl, ?_⟩) (by assumption) ?_
        rotate_left
        · (intro w hSw; (try dsimp only at hSw); go_simp; try with_reducible rfl)
        try simp only [Act.put, List.setIfInBounds_toArray, List.set_cons_zero, List.set_cons_succ]
        refine wpAnyH_take (i := 22) (v := ?_) (by simp only [List.getElem?_toArray, List.getElem?_cons_succ, List.getElem?_cons_zero]; rfl) (by kernel_rfl) (by kernel_rfl) (by kernel_rfl) (fun _ _ _ h => h) (Or.inl ⟨by rfl, ?_⟩) (by assumption) ?_
        rotate_left
        · (intro w hSw; (try dsimp only at hSw); go_simp; try with_reducible rfl)
        try simp only [Act.put, List.setIfInBounds_toArray, List.set_cons_zero, List.set_cons_succ]
        refine wpAnyH_take (i := 23) (v := ?_) (by simp only [List.getElem?_toArray, List.getElem?_cons_succ, List.getElem?_cons_zero]; rfl) (by kernel_rfl) (by kernel_rfl) (by kernel_rfl) (fun _ _ _ h => h) (Or.inl ⟨by rfl, ?_⟩) (by assumption) ?_
        rotate_left
        · (intro w hSw; (try dsimp only at hSw); go_simp; try with_reducible rfl)
        try simp only [Act.put, List.setIfInBounds_toArray, List.set_cons_zero, List.set_cons_succ]
        refine wpAnyH_take (i := 24) (v := ?_) (by simp only [List.getElem?_toArray, List.getElem?_cons_succ, List.getElem?_cons_zero]; rfl) (by kernel_rfl) (by kernel_rfl) (by kernel_rfl) (fun _ _ _ h => h) (Or.inl ⟨by rfl, ?_⟩) (by assumption) ?_
        rotate_left
        · (intro w hSw; (try dsimp only at hSw); go_simp; try with_reducible rfl)
        try simp only [Act.put, List.setIfInBounds_toArray, List.set_cons_zero, List.set_cons_succ]
        refine wpAnyH_take (i := 25) (v := undef) (by simp only [List.getElem?_toArray, List.getElem?_cons_succ, List.getElem?_cons_zero]; rfl) (by kernel_rfl) (by kernel_rfl) (by kernel_rfl) (fun _ _ _ h => h) (Or.inr ⟨by rfl, rfl⟩) (by assumption) ?_
        try simp only [Act.put, List.setIfInBounds_toArray, List.set_cons_zero, List.set_cons_succ]
        refine wpAnyH_take (i := 26) (v := undef) (by simp only [List.getElem?_toArray, List.getElem?_cons_succ, List.getElem?_cons_zero]; rfl) (by kernel_rfl) (by kernel_rfl) (by kernel_rfl) (fun _ _ _ h => h) (Or.inr ⟨by rfl, rfl⟩) (by assumption) ?_
        try simp only [Act.put, List.setIfInBounds_toArray, List.set_cons_zero, List.set_cons_succ]
        refine wpAnyH_take (i := 27) (v := undef) (by simp only [List.getElem?_toArray, List.getElem?_cons_succ, List.getElem?_cons_zero]; rfl) (by kernel_rfl) (by kernel_rfl) (by kernel_rfl) (fun _ _ _ h => h) (Or.inr ⟨by rfl, rfl⟩) (by assumption) ?_
        try simp only [Act.put, List.setIfInBounds_toArray, List.set_cons_zero, List.set_cons_succ]
        refine wpAnyH_take (i := 28) (v := ?_) (by simp only [List.getElem?_toArray, List.getElem?_cons_succ, List.getElem?_cons_zero]; rfl) (by kernel_rfl) (by kernel_rfl) (by kernel_rfl) (fun _ _ _ h => h) (Or.inl ⟨by rfl, ?_⟩) (by assumption) ?_
        rotate_left
        · (intro w hSw; (try dsimp only at hSw); go_simp; try with_reducible rfl)
        try simp only [Act.put, List.setIfInBounds_toArray, List.set_cons_zero, List.set_cons_succ]
        refine wpAnyH_take (i := 29) (v := ?_) (by simp only [List.getElem?_toArray, List.getElem?_cons_succ, List.getElem?_cons_zero]; rfl) (by kernel_rfl) (by kernel_rfl) (by kernel_rfl) (fun _ _ _ h => h) (Or.inl ⟨by rfl, ?_⟩) (by assumption) ?_
        rotate_left
        · (intro w hSw; (try dsimp only at hSw); go_simp; try with_reducible rfl)
        try simp only [Act.put, List.setIfInBounds_toArray, List.set_cons_zero, List.set_cons_succ]
        refine wpAnyH_take (i := 30) (v := ?_) (by simp only [List.getElem?_toArray, List.getElem?_cons_succ, List.getElem?_cons_zero]; rfl) (by kernel_rfl) (by kernel_rfl) (by kernel_rfl) (fun _ _ _ h => h) (Or.inl ⟨by rfl, ?_⟩) (by assumption) ?_
        rotate_left
        · (intro w hSw; (try dsimp only at hSw); go_simp; try with_reducible rfl)
        try simp only [Act.put, List.setIfInBounds_toArray, List.set_cons_zero, List.set_cons_succ]
        refine wpAnyH_take (i := 31) (v := ?_) (by simp only [List.getElem?_toArray, List.getElem?_cons_succ, List.getElem?_cons_zero]; rfl) (by kernel_rfl) (by kernel_rfl) (by kernel_rfl) (fun _ _ _ h => h) (Or.inl ⟨by rfl, ?_⟩) (by assumption) ?_
        rotate_left
        · (intro w hSw; (try dsimp only at hSw); go_simp; try with_reducible rfl)
        try simp only [Act.put, List.setIfInBounds_toArray, List.set_cons_zero, List.set_cons_succ]
        refine wpAnyH_ready (rs := [32]) (by kernel_rfl) (by simp) ?_
        refine AllReadyH.cons (by simp only [List.getElem?_toArray, List.getElem?_cons_succ, List.getElem?_cons_zero]; rfl) (fun K hK => ?_) AllReadyH.nil
        go_simp
        go_at_call 12
        refine (Mw.out _).mono ?_
        rintro e v4 ⟨rfl, k4⟩
        go_wp2_with fail
        refine hK.out _ _ (keep3 hHeld k4) (fun hHeld => ?_)
        clear hK K
        try simp only [Act.put, List.setIfInBounds_toArray, List.set_cons_zero, List.set_cons_succ]
        refine wpAnyH_take (i := 33) (v := ?_) (by simp only [List.getElem?_toArray, List.getElem?_cons_succ, List.getElem?_cons_zero]; rfl) (by kernel_rfl) (by kernel_rfl) (by kernel_rfl) (fun _ _ _ h => h) (Or.inl ⟨by rfl, ?_⟩) (by assumption) ?_
        rotate_left
        · (intro w hSw; (try dsimp only at hSw); go_simp; try with_reducible rfl)
        try simp only [Act.put, List.setIfInBounds_toArray, List.set_cons_zero, List.set_cons_succ]
        refine wpAnyH_take (i := 34) (v := ?_) (by simp only [List.getElem?_toArray, List.getElem?_cons_succ, List.getElem?_cons_zero]; rfl) (by kernel_rfl) (by kernel_rfl) (by kernel_rfl) (fun _ _ _ h => h) (Or.inl ⟨by rfl, ?_⟩) (by assumption) ?_
        rotate_left
        · (intro w hSw; (try dsimp only at hSw); go_simp; try with_reducible rfl)
        try simp only [Act.put, List.setIfInBounds_toArray, List.set_cons_zero, List.set_cons_succ]
        refine wpAnyH_done (by kernel_rfl) ?_ _
        refine NoPanic.normal ?_
        have D := Below.drew (Below.refl x1.heap.size x1)
        go_wp2_with fail
        go_meet
        exact ⟨((((J1.below D).below k1).below k2).below k3).below k4, ((((J2.below D).below k1).below k2).below k3).below k4, ((((In3.below D).below k1).below k2).below k3).below k4, bstep (bstep (bstep (bstep (Below.drew hx) k1) k2) k3) k4⟩
    · have hn' : (n == 0) = false := by rw [beq_eq_false_iff_ne]; exact hn
      go_wp2_with fail
      go_meet
      exact ⟨In1, In2, In3, h6⟩
  case rest =>
    obtain ⟨In1, In2, In3, h7⟩ := hcut
    obtain ⟨_, _, _⟩ := id In1
    have qIn1 := In1.lt
    obtain ⟨_, _, _⟩ := id In2
    have qIn2 := In2.lt
    obtain ⟨_, _, _⟩ := id In3
    have qIn3 := In3.lt
    have hJ := HJ.out
    obtain ⟨⟨sx, tx, gx⟩, hX⟩ : ∃ r, joinT (sj, tj, gj) (a2_0, a2_1, a2_2) = r := ⟨_, rfl⟩
    obtain ⟨⟨sy, ty, gy⟩, hY⟩ : ∃ r, joinT (a1_0, a1_1, a1_2) (a2_0, a2_1, a2_2) = r := ⟨_, rfl⟩
    have Jba := Lib.hid (join_to (show later a1_0 a1_1 a1_2 a0_0 a0_1 a0_2 = (sj, tj, gj) from (join_comm (a1_0, a1_1, a1_2) (a0_0, a0_1, a0_2)).trans hJ.symm))
    have Jjc := Lib.hid (join_to (show later sj tj gj a2_0 a2_1 a2_2 = (sx, tx, gx) from hX))
    have Jbc := Lib.hid (join_to (show later a1_0 a1_1 a1_2 a2_0 a2_1 a2_2 = (sy, ty, gy) from hY))
    have Jay := Lib.hid (join_to (show later a0_0 a0_1 a0_2 sy ty gy = (sx, tx, gx) from by rw [← hX, hJ, join_assoc, hY]; rfl))
    have Jjj := Lib.hid (join_to (show later sj tj gj sj tj gj = (sj, tj, gj) from join_self (sj, tj, gj)))
    have Cbc := Lib.hid (compare_to (show cmp a1_0 a1_1 a1_2 a2_0 a2_1 a2_2 = cmpT (a1_0, a1_1, a1_2) (a2_0, a2_1, a2_2) from rfl))
    have Cac := Lib.hid (compare_to (show cmp a0_0 a0_1 a0_2 a2_0 a2_1 a2_2 = cmpT (a0_0, a0_1, a0_2) (a2_0, a2_1, a2_2) from rfl))
    have hflip := cmpT_flip (a1_0, a1_1, a1_2) (a0_0, a0_1, a0_2)
    have htr := cmpT_trans (a := (a0_0, a0_1, a0_2)) (b := (a1_0, a1_1, a1_2)) (c := (a2_0, a2_1, a2_2))
    have hz := cmpT_zero (a := (a0_0, a0_1, a0_2)) (b := (a1_0, a1_1, a1_2))
    generalize cmpT (a1_0, a1_1, a1_2) (a2_0, a2_1, a2_2) = m at Cbc htr
    generalize cmpT (a0_0, a0_1, a0_2) (a2_0, a2_1, a2_2) = p at Cac htr
    clear La Lb Lc Wr HW HJ hX hY
    rcases cmpT_ways (a0_0, a0_1, a0_2) (a1_0, a1_1, a1_2) with hn | hn | hn
    · have Cab := Lib.hid (compare_to (show cmp a0_0 a0_1 a0_2 a1_0 a1_1 a1_2 = -1 from hn))
      have Cba := Lib.hid (compare_to (show cmp a1_0 a1_1 a1_2 a0_0 a0_1 a0_2 = 1 from hflip.trans (by omega)))
      have hne : ¬ ((a0_0, a0_1, a0_2) = (a1_0, a1_1, a1_2)) := fun h => by rw [hz.2 h] at hn; cases hn
      have hne2 : ¬ ((a1_0, a1_1, a1_2) = (a0_0, a0_1, a0_2)) := fun h => hne h.symm
      obtain ⟨j1, j2, j3⟩ : a1_0 = sj ∧ a1_1 = tj ∧ a1_2 = gj := by rw [joinT, if_pos (by rw [hn]; decide)] at hJ; simp only [Prod.mk.injEq] at hJ; exact ⟨hJ.1.symm, hJ.2.1.symm, hJ.2.2.symm⟩
      rw [hn] at htr
      clear hJ hz hn hflip
      subst j1 j2 j3
      go_wp2_with fail
      refine (Jab.out _).mono ?_
      rintro e w8 ⟨rfl, k8⟩
      have h8 := bstep h7 k8
      have In1 := In1.below k8
      have In2 := In2.below k8
      have In3 := In3.below k8
      have In5 := In.new w8 a1_0 a1_1 a1_2 _ rfl
      have In1 := In1.alloc (.cells #[.int .u64 a1_0, .string a1_1, .bool a1_2] 24)
      obtain ⟨_, _, _⟩ := id In1
      have qIn1 := In1.lt
      have In2 := In2.alloc (.cells #[.int .u64 a1_0, .string a1_1, .bool a1_2] 24)
      obtain ⟨_, _, _⟩ := id In2
      have qIn2 := In2.lt
      have In3 := In3.alloc (.cells #[.int .u64 a1_0, .string a1_1, .bool a1_2] 24)
      obtain ⟨_, _, _⟩ := id In3
      have qIn3 := In3.lt
      have h8 := balloc h8 (.cells #[.int .u64 a1_0, .string a1_1, .bool a1_2] 24)
      obtain ⟨_, _, _⟩ := id In5
      have qIn5 := In5.lt
      clear k8 Jab
      go_wp2_with fail
      refine wp_region_noPanic ?_
      refine wp_region_held_drew (S := (fun w' => w'.cell? ⟨w.heap.size, 0, none⟩ = some (.int .u64 a0_0) ∧ w'.cell? ⟨w.heap.size, 1, none⟩ = some (.string a0_1) ∧ w'.cell? ⟨w.heap.size, 2, none⟩ = some (.bool a0_2) ∧ w'.cell? ⟨w.heap.size + 1, 0, none⟩ = some (.int .u64 a1_0) ∧ w'.cell? ⟨w.heap.size + 1, 1, none⟩ = some (.string a1_1) ∧ w'.cell? ⟨w.heap.size + 1, 2, none⟩ = some (.bool a1_2) ∧ w'.cell? ⟨w.heap.size + 1 + 1, 0, none⟩ = some (.int .u64 a2_0) ∧ w'.cell? ⟨w.heap.size + 1 + 1, 1, none⟩ = some (.string a2_1) ∧ w'.cell? ⟨w.heap.size + 1 + 1, 2, none⟩ = some (.bool a2_2) ∧ w'.cell? ⟨w8.heap.size, 0, none⟩ = some (.int .u64 a1_0) ∧ w'.cell? ⟨w8.heap.size, 1, none⟩ = some (.string a1_1) ∧ w'.cell? ⟨w8.heap.size, 2, none⟩ = some (.bool a1_2))) (by kernel_rfl) (by go_keep) (fun hHeld => ?_)
      refine wpAnyH_take (i := 0) (v := ?_) (by simp only [List.getElem?_toArray, List.getElem?_cons_zero]; rfl) (by kernel_rfl) (by kernel_rfl) (by kernel_rfl) (fun _ _ _ h => h) (Or.inl ⟨by rfl, ?_⟩) (by assumption) ?_
      rotate_left
      · (intro w hSw; (try dsimp only at hSw); go_simp; (try rw [cells_ne (by assumption)]); try with_reducible rfl)
      try simp only [Act.put, List.setIfInBounds_toArray, List.set_cons_zero, List.set_cons_succ]
      refine wpAnyH_take (i := 1) (v := ?_) (by simp only [List.getElem?_toArray, List.getElem?_cons_succ, List.getElem?_cons_zero]; rfl) (by kernel_rfl) (by kernel_rfl) (by kernel_rfl) (fun _ _ _ h => h) (Or.inl ⟨by rfl, ?_⟩) (by assumption) ?_
      rotate_left
      · (intro w hSw; (try dsimp only at hSw); go_simp; (try rw [cells_ne (by assumption)]); try with_reducible rfl)
      try simp only [Act.put, List.setIfInBounds_toArray, List.set_cons_zero, List.set_cons_succ]
      refine wpAnyH_take (i := 2) (v := ?_) (by simp only [List.getElem?_toArray, List.getElem?_cons_succ, List.getElem?_cons_zero]; rfl) (by kernel_rfl) (by kernel_rfl) (by kernel_rfl) (fun _ _ _ h => h) (Or.inl ⟨by rfl, ?_⟩) (by assumption) ?_
      rotate_left
      · (intro w hSw; (try dsimp only at hSw); go_simp; (try rw [cells_ne (by assumption)]); try with_reducible rfl)
      try simp only [Act.put, List.setIfInBounds_toArray, List.set_cons_zero, List.set_cons_succ]
      refine wpAnyH_ready (rs := [3]) (by kernel_rfl) (by simp) ?_
      refine AllReadyH.cons (by simp only [List.getElem?_toArray, List.getElem?_cons_succ, List.getElem?_cons_zero]; rfl) (fun K hK => ?_) AllReadyH.nil
      go_simp
      go_at_call 16
      refine (Jba.out _).mono ?_
      rintro e v1 ⟨rfl, k1⟩
      go_wp2_with fail
      refine hK.out _ _ (keep4 hHeld k1) (fun hHeld => ?_)
      clear hK K
      try simp only [Act.put, List.setIfInBounds_toArray, List.set_cons_zero, List.set_cons_succ]
      refine wpAnyH_take (i := 4) (v := ?_) (by simp only [List.getElem?_toArray, List.getElem?_cons_succ, List.getElem?_cons_zero]; rfl) (by kernel_rfl) (by kernel_rfl) (by kernel_rfl) (fun _ _ _ h => h) (Or.inl ⟨by rfl, ?_⟩) (by assumption) ?_
      rotate_left
      · (intro w hSw; (try dsimp only at hSw); go_simp; (try rw [cells_ne (by assumption)]); try with_reducible rfl)
      try simp only [Act.put, List.setIfInBounds_toArray, List.set_cons_zero, List.set_cons_succ]
      refine wpAnyH_take (i := 5) (v := ?_) (by simp only [List.getElem?_toArray, List.getElem?_cons_succ, List.getElem?_cons_zero]; rfl) (by kernel_rfl) (by kernel_rfl) (by kernel_rfl) (fun _ _ _ h => h) (Or.inl ⟨by rfl, ?_⟩) (by assumption) ?_
      rotate_left
      · (intro w hSw; (try dsimp only at hSw); go_simp; (try rw [cells_ne (by assumption)]); try with_reducible rfl)
      try simp only [Act.put, List.setIfInBounds_toArray, List.set_cons_zero, List.set_cons_succ]
      refine wpAnyH_take (i := 6) (v := ?_) (by simp only [List.getElem?_toArray, List.getElem?_cons_succ, List.getElem?_cons_zero]; rfl) (by kernel_rfl) (by kernel_rfl) (by kernel_rfl) (fun _ _ _ h => h) (Or.inl ⟨by rfl, ?_⟩) (by assumption) ?_
      rotate_left
      · (intro w hSw; (try dsimp only at hSw); go_simp; (try rw [cells_ne (by assumption)]); try with_reducible rfl)
      try simp only [Act.put, List.setIfInBounds_toArray, List.set_cons_zero, List.set_cons_succ]
      refine wpAnyH_take (i := 7) (v := ?_) (by simp only [List.getElem?_toArray, List.getElem?_cons_succ, List.getElem?_cons_zero]; rfl) (by kernel_rfl) (by kernel_rfl) (by kernel_rfl) (fun _ _ _ h => h) (Or.inl ⟨by rfl, ?_⟩) (by assumption) ?_
      rotate_left
      · (intro w hSw; (try dsimp only at hSw); go_simp; (try rw [cells_ne (by assumption)]); try with_reducible rfl)
      try simp only [Act.put, List.setIfInBounds_toArray, List.set_cons_zero, List.set_cons_succ]
      refine wpAnyH_take (i := 9) (v := ?_) (by simp only [List.getElem?_toArray, List.getElem?_cons_succ, List.getElem?_cons_zero]; rfl) (by kernel_rfl) (by kernel_rfl) (by kernel_rfl) (fun _ _ _ h => h) (Or.inl ⟨by rfl, ?_⟩) (by assumption) ?_
      rotate_left
      · (intro w hSw; (try dsimp only at hSw); go_simp; (try rw [cells_ne (by assumption)]); try with_reducible rfl)
      try simp only [Act.put, List.setIfInBounds_toArray, List.set_cons_zero, List.set_cons_succ]
      refine wpAnyH_take (i := 10) (v := ?_) (by simp only [List.getElem?_toArray, List.getElem?_cons_succ, List.getElem?_cons_zero]; rfl) (by kernel_rfl) (by kernel_rfl) (by kernel_rfl) (fun _ _ _ h => h) (Or.inl ⟨by rfl, ?_⟩) (by assumption) ?_
      rotate_left
      · (intro w hSw; (try dsimp only at hSw); go_simp; (try rw [cells_ne (by assumption)]); try with_reducible rfl)
      try simp only [Act.put, List.setIfInBounds_toArray, List.set_cons_zero, List.set_cons_succ]
      refine wpAnyH_take (i := 11) (v := ?_) (by simp only [List.getElem?_toArray, List.getElem?_cons_succ, List.getElem?_cons_zero]; rfl) (by kernel_rfl) (by kernel_rfl) (by kernel_rfl) (fun _ _ _ h => h) (Or.inl ⟨by rfl, ?_⟩) (by assumption) ?_
      rotate_left
      · (intro w hSw; (try dsimp only at hSw); go_simp; (try rw [cells_ne (by assumption)]); try with_reducible rfl)
      try simp only [Act.put, List.setIfInBounds_toArray, List.set_cons_zero, List.set_cons_succ]
      refine wpAnyH_ready (rs := [8]) (by kernel_rfl) (by simp) ?_
      refine AllReadyH.cons (by simp only [List.getElem?_toArray, List.getElem?_cons_succ, List.getElem?_cons_zero]; rfl) (fun K hK => ?_) AllReadyH.nil
      go_simp
      go_at_call 16
      refine (Jjc.out _).mono ?_
      rintro e v2 ⟨rfl, k2⟩
      go_wp2_with fail
      refine hK.out _ _ (keep4 hHeld k2) (fun hHeld => ?_)
      clear hK K
      try simp only [Act.put, List.setIfInBounds_toArray, List.set_cons_zero, List.set_cons_succ]
      refine wpAnyH_ready (rs := [12]) (by kernel_rfl) (by simp) ?_
      refine AllReadyH.cons (by simp only [List.getElem?_toArray, List.getElem?_cons_succ, List.getElem?_cons_zero]; rfl) (fun K hK => ?_) AllReadyH.nil
      go_simp
      go_at_call 16
      refine (Jbc.out _).mono ?_
      rintro e v3 ⟨rfl, k3⟩
      go_wp2_with fail
      refine hK.out _ _ (keep4 hHeld k3) (fun hHeld => ?_)
      clear hK K
      try simp only [Act.put, List.setIfInBounds_toArray, List.set_cons_zero, List.set_cons_succ]
      refine wpAnyH_ready (rs := [13]) (by kernel_rfl) (by simp) ?_
      refine AllReadyH.cons (by simp only [List.getElem?_toArray, List.getElem?_cons_succ, List.getElem?_cons_zero]; rfl) (fun K hK => ?_) AllReadyH.nil
      go_simp
      go_at_call 16
      refine (Jay.out _).mono ?_
      rintro e v4 ⟨rfl, k4⟩
      go_wp2_with fail
      refine hK.out _ _ (keep4 hHeld k4) (fun hHeld => ?_)
      clear hK K
      try simp only [Act.put, List.setIfInBounds_toArray, List.set_cons_zero, List.set_cons_succ]
      refine wpAnyH_take (i := 14) (v := ?_) (by simp only [List.getElem?_toArray, List.getElem?_cons_succ, List.getElem?_cons_zero]; rfl) (by kernel_rfl) (by kernel_rfl) (by kernel_rfl) (fun _ _ _ h => h) (Or.inl ⟨by rfl, ?_⟩) (by assumption) ?_
      rotate_left
      · (intro w hSw; (try dsimp only at hSw); go_simp; (try rw [cells_ne (by assumption)]); try with_reducible rfl)
      try simp only [Act.put, List.setIfInBounds_toArray, List.set_cons_zero, List.set_cons_succ]
      refine wpAnyH_take (i := 15) (v := ?_) (by simp only [List.getElem?_toArray, List.getElem?_cons_succ, List.getElem?_cons_zero]; rfl) (by kernel_rfl) (by kernel_rfl) (by kernel_rfl) (fun _ _ _ h => h) (Or.inl ⟨by rfl, ?_⟩) (by assumption) ?_
      rotate_left
      · (intro w hSw; (try dsimp only at hSw); go_simp; (try rw [cells_ne (by assumption)]); try with_reducible rfl)
      try simp only [Act.put, List.setIfInBounds_toArray, List.set_cons_zero, List.set_cons_succ]
      refine wpAnyH_take (i := 16) (v := ?_) (by simp only [List.getElem?_toArray, List.getElem?_cons_succ, List.getElem?_cons_zero]; rfl) (by kernel_rfl) (by kernel_rfl) (by kernel_rfl) (fun _ _ _ h => h) (Or.inl ⟨by rfl, ?_⟩) (by assumption) ?_
      rotate_left
      · (intro w hSw; (try dsimp only at hSw); go_simp; (try rw [cells_ne (by assumption)]); try with_reducible rfl)
      try simp only [Act.put, List.setIfInBounds_toArray, List.set_cons_zero, List.set_cons_succ]
      refine wpAnyH_take (i := 17) (v := ?_) (by simp only [List.getElem?_toArray, List.getElem?_cons_succ, List.getElem?_cons_zero]; rfl) (by kernel_rfl) (by kernel_rfl) (by kernel_rfl) (fun _ _ _ h => h) (Or.inl ⟨by rfl, ?_⟩) (by assumption) ?_
      rotate_left
      · (intro w hSw; (try dsimp only at hSw); go_simp; (try rw [cells_ne (by assumption)]); try with_reducible rfl)
      try simp only [Act.put, List.setIfInBounds_toArray, List.set_cons_zero, List.set_cons_succ]
      refine wpAnyH_take (i := 18) (v := ?_) (by simp only [List.getElem?_toArray, List.getElem?_cons_succ, List.getElem?_cons_zero]; rfl) (by kernel_rfl) (by kernel_rfl) (by kernel_rfl) (fun _ _ _ h => h) (Or.inl ⟨by rfl, ?_⟩) (by assumption) ?_
      rotate_left
      · (intro w hSw; (try dsimp only at hSw); go_simp; (try rw [cells_ne (by assumption)]); try with_reducible rfl)
      try simp only [Act.put, List.setIfInBounds_toArray, List.set_cons_zero, List.set_cons_succ]
      refine wpAnyH_take (i := 20) (v := ?_) (by simp only [List.getElem?_toArray, List.getElem?_cons_succ, List.getElem?_cons_zero]; rfl) (by kernel_rfl) (by kernel_rfl) (by kernel_rfl) (fun _ _ _ h => h) (Or.inl ⟨by rfl, ?_⟩) (by assumption) ?_
      rotate_left
      · (intro w hSw; (try dsimp only at hSw); go_simp; (try rw [cells_ne (by assumption)]); try with_reducible rfl)
      try simp only [Act.put, List.setIfInBounds_toArray, List.set_cons_zero, List.set_cons_succ]
      refine wpAnyH_ready (rs := [19]) (by kernel_rfl) (by simp) ?_
      refine AllReadyH.cons (by simp only [List.getElem?_toArray, List.getElem?_cons_succ, List.getElem?_cons_zero]; rfl) (fun K hK => ?_) AllReadyH.nil
      go_simp
      go_at_call 16
      refine (Jjj.out _).mono ?_
      rintro e v5 ⟨rfl, k5⟩
      go_wp2_with fail
      refine hK.out _ _ (keep4 hHeld k5) (fun hHeld => ?_)
      clear hK K
      try simp only [Act.put, List.setIfInBounds_toArray, List.set_cons_zero, List.set_cons_succ]
      refine wpAnyH_take (i := 21) (v := ?_) (by simp only [List.getElem?_toArray, List.getElem?_cons_succ, List.getElem?_cons_zero]; rfl) (by kernel_rfl) (by kernel_rfl) (by kernel_rfl) (fun _ _ _ h => h) (Or.inl ⟨by rfl, ?_⟩) (by assumption) ?_
      rotate_left
      · (intro w hSw; (try dsimp only at hSw); go_simp; (try rw [cells_ne (by assumption)]); try with_reducible rfl)
      try simp only [Act.put, List.setIfInBounds_toArray, List.set_cons_zero, List.set_cons_succ]
      refine wpAnyH_take (i := 22) (v := ?_) (by simp only [List.getElem?_toArray, List.getElem?_cons_succ, List.getElem?_cons_zero]; rfl) (by kernel_rfl) (by kernel_rfl) (by kernel_rfl) (fun _ _ _ h => h) (Or.inl ⟨by rfl, ?_⟩) (by assumption) ?_
      rotate_left
      · (intro w hSw; (try dsimp only at hSw); go_simp; (try rw [cells_ne (by assumption)]); try with_reducible rfl)
      try simp only [Act.put, List.setIfInBounds_toArray, List.set_cons_zero, List.set_cons_succ]
      refine wpAnyH_take (i := 23) (v := ?_) (by simp only [List.getElem?_toArray, List.getElem?_cons_succ, List.getElem?_cons_zero]; rfl) (by kernel_rfl) (by kernel_rfl) (by kernel_rfl) (fun _ _ _ h => h) (Or.inl ⟨by rfl, ?_⟩) (by assumption) ?_
      rotate_left
      · (intro w hSw; (try dsimp only at hSw); go_simp; (try rw [cells_ne (by assumption)]); try with_reducible rfl)
      try simp only [Act.put, List.setIfInBounds_toArray, List.set_cons_zero, List.set_cons_succ]
      refine wpAnyH_take (i := 24) (v := ?_) (by simp only [List.getElem?_toArray, List.getElem?_cons_succ, List.getElem?_cons_zero]; rfl) (by kernel_rfl) (by kernel_rfl) (by kernel_rfl) (fun _ _ _ h => h) (Or.inl ⟨by rfl, ?_⟩) (by assumption) ?_
      rotate_left
      · (intro w hSw; (try dsimp only at hSw); go_simp; (try rw [cells_ne (by assumption)]); try with_reducible rfl)
      try simp only [Act.put, List.setIfInBounds_toArray, List.set_cons_zero, List.set_cons_succ]
      refine wpAnyH_take (i := 25) (v := ?_) (by simp only [List.getElem?_toArray, List.getElem?_cons_succ, List.getElem?_cons_zero]; rfl) (by kernel_rfl) (by kernel_rfl) (by kernel_rfl) (fun _ _ _ h => h) (Or.inl ⟨by rfl, ?_⟩) (by assumption) ?_
      rotate_left
      · (intro w hSw; (try dsimp only at hSw); go_simp; (try rw [cells_ne (by assumption)]); try with_reducible rfl)
      try simp only [Act.put, List.setIfInBounds_toArray, List.set_cons_zero, List.set_cons_succ]
      refine wpAnyH_take (i := 26) (v := ?_) (by simp only [List.getElem?_toArray, List.getElem?_cons_succ, List.getElem?_cons_zero]; rfl) (by kernel_rfl) (by kernel_rfl) (by kernel_rfl) (fun _ _ _ h => h) (Or.inl ⟨by rfl, ?_⟩) (by assumption) ?_
      rotate_left
      · (intro w hSw; (try dsimp only at hSw); go_simp; (try rw [cells_ne (by assumption)]); try with_reducible rfl)
      try simp only [Act.put, List.setIfInBounds_toArray, List.set_cons_zero, List.set_cons_succ]
      refine wpAnyH_take (i := 27) (v := ?_) (by simp only [List.getElem?_toArray, List.getElem?_cons_succ, List.getElem?_cons_zero]; rfl) (by kernel_rfl) (by kernel_rfl) (by kernel_rfl) (fun _ _ _ h => h) (Or.inl ⟨by rfl, ?_⟩) (by assumption) ?_
      rotate_left
      · (intro w hSw; (try dsimp only at hSw); go_simp; (try rw [cells_ne (by assumption)]); try with_reducible rfl)
      try simp only [Act.put, List.setIfInBounds_toArray, List.set_cons_zero, List.set_cons_succ]
      refine wpAnyH_take (i := 28) (v := ?_) (by simp only [List.getElem?_toArray, List.getElem?_cons_succ, List.getElem?_cons_zero]; rfl) (by kernel_rfl) (by kernel_rfl) (by kernel_rfl) (fun _ _ _ h => h) (Or.inl ⟨by rfl, ?_⟩) (by assumption) ?_
      rotate_left
      · (intro w hSw; (try dsimp only at hSw); go_simp; (try rw [cells_ne (by assumption)]); try with_reducible rfl)
      try simp only [Act.put, List.setIfInBounds_toArray, List.set_cons_zero, List.set_cons_succ]
      refine wpAnyH_take (i := 29) (v := ?_) (by simp only [List.getElem?_toArray, List.getElem?_cons_succ, List.getElem?_cons_zero]; rfl) (by kernel_rfl) (by kernel_rfl) (by kernel_rfl) (fun _ _ _ h => h) (Or.inl ⟨by rfl, ?_⟩) (by assumption) ?_
      rotate_left
      · (intro w hSw; (try dsimp only at hSw); go_simp; (try rw [cells_ne (by assumption)]); try with_reducible rfl)
      try simp only [Act.put, List.setIfInBounds_toArray, List.set_cons_zero, List.set_cons_succ]
      refine wpAnyH_take (i := 30) (v := ?_) (by simp only [List.getElem?_toArray, List.getElem?_cons_succ, List.getElem?_cons_zero]; rfl) (by kernel_rfl) (by kernel_rfl) (by kernel_rfl) (fun _ _ _ h => h) (Or.inl ⟨by rfl, ?_⟩) (by assumption) ?_
      rotate_left
      · (intro w hSw; (try dsimp only at hSw); go_simp; (try rw [cells_ne (by assumption)]); try with_reducible rfl)
      try simp only [Act.put, List.setIfInBounds_toArray, List.set_cons_zero, List.set_cons_succ]
      refine wpAnyH_take (i := 31) (v := ?_) (by simp only [List.getElem?_toArray, List.getElem?_cons_succ, List.getElem?_cons_zero]; rfl) (by kernel_rfl) (by kernel_rfl) (by kernel_rfl) (fun _ _ _ h => h) (Or.inl ⟨by rfl, ?_⟩) (by assumption) ?_
      rotate_left
      · (intro w hSw; (try dsimp only at hSw); go_simp; (try rw [cells_ne (by assumption)]); try with_reducible rfl)
      try simp only [Act.put, List.setIfInBounds_toArray, List.set_cons_zero, List.set_cons_succ]
      refine wpAnyH_take (i := 32) (v := ?_) (by simp only [List.getElem?_toArray, List.getElem?_cons_succ, List.getElem?_cons_zero]; rfl) (by kernel_rfl) (by kernel_rfl) (by kernel_rfl) (fun _ _ _ h => h) (Or.inl ⟨by rfl, ?_⟩) (by assumption) ?_
      rotate_left
      · (intro w hSw; (try dsimp only at hSw); go_simp; (try rw [cells_ne (by assumption)]); try with_reducible rfl)
      try simp only [Act.put, List.setIfInBounds_toArray, List.set_cons_zero, List.set_cons_succ]
      refine wpAnyH_done (by kernel_rfl) ?_ _
      refine NoPanic.normal ?_
      have h9 := bstep (bstep (bstep (bstep (bstep (Below.drew h8) k1) k2) k3) k4) k5
      have D9 := Below.drew (Below.refl (World.heap (w8.alloc (.cells #[.int .u64 a1_0, .string a1_1, .bool a1_2] 24))).size (w8.alloc (.cells #[.int .u64 a1_0, .string a1_1, .bool a1_2] 24)))
      have In1 := ((((((In1.below D9).below k1).below k2).below k3).below k4).below k5)
      obtain ⟨_, _, _⟩ := id In1
      have qIn1 := In1.lt
      have In2 := ((((((In2.below D9).below k1).below k2).below k3).below k4).below k5)
      obtain ⟨_, _, _⟩ := id In2
      have qIn2 := In2.lt
      have In3 := ((((((In3.below D9).below k1).below k2).below k3).below k4).below k5)
      obtain ⟨_, _, _⟩ := id In3
      have qIn3 := In3.lt
      clear k1 k2 k3 k4 k5 hHeld Jba Jjc Jbc Jay Jjj
      go_wp2_with fail
      have hwr : IntKind.i64.wrap (-1) = -1 := by decide
      have hwr2 : IntKind.i64.wrap (-(1)) = -1 := by decide
      refine wp_region_noPanic ?_
      refine wp_region_held_drew (S := (fun w' => w'.cell? ⟨w.heap.size, 0, none⟩ = some (.int .u64 a0_0) ∧ w'.cell? ⟨w.heap.size, 1, none⟩ = some (.string a0_1) ∧ w'.cell? ⟨w.heap.size, 2, none⟩ = some (.bool a0_2) ∧ w'.cell? ⟨w.heap.size + 1, 0, none⟩ = some (.int .u64 a1_0) ∧ w'.cell? ⟨w.heap.size + 1, 1, none⟩ = some (.string a1_1) ∧ w'.cell? ⟨w.heap.size + 1, 2, none⟩ = some (.bool a1_2) ∧ w'.cell? ⟨w.heap.size + 1 + 1, 0, none⟩ = some (.int .u64 a2_0) ∧ w'.cell? ⟨w.heap.size + 1 + 1, 1, none⟩ = some (.string a2_1) ∧ w'.cell? ⟨w.heap.size + 1 + 1, 2, none⟩ = some (.bool a2_2))) (by kernel_rfl) (by go_keep) (fun hHeld => ?_)
      refine wpAnyH_take (i := 0) (v := ?_) (by simp only [List.getElem?_toArray, List.getElem?_cons_zero]; rfl) (by kernel_rfl) (by kernel_rfl) (by kernel_rfl) (fun _ _ _ h => h) (Or.inl ⟨by rfl, ?_⟩) (by assumption) ?_
      rotate_left
      · (intro w hSw; (try dsimp only at hSw); go_simp; (try rw [cells_ne (by assumption)]); try with_reducible rfl)
      try simp only [Act.put, List.setIfInBounds_toArray, List.set_cons_zero, List.set_cons_succ]
      refine wpAnyH_take (i := 1) (v := ?_) (by simp only [List.getElem?_toArray, List.getElem?_cons_succ, List.getElem?_cons_zero]; rfl) (by kernel_rfl) (by kernel_rfl) (by kernel_rfl) (fun _ _ _ h => h) (Or.inl ⟨by rfl, ?_⟩) (by assumption) ?_
      rotate_left
      · (intro w hSw; (try dsimp only at hSw); go_simp; (try rw [cells_ne (by assumption)]); try with_reducible rfl)
      try simp only [Act.put, List.setIfInBounds_toArray, List.set_cons_zero, List.set_cons_succ]
      refine wpAnyH_take (i := 3) (v := ?_) (by simp only [List.getElem?_toArray, List.getElem?_cons_succ, List.getElem?_cons_zero]; rfl) (by kernel_rfl) (by kernel_rfl) (by kernel_rfl) (fun _ _ _ h => h) (Or.inl ⟨by rfl, ?_⟩) (by assumption) ?_
      rotate_left
      · (intro w hSw; (try dsimp only at hSw); go_simp; (try rw [cells_ne (by assumption)]); try with_reducible rfl)
      try simp only [Act.put, List.setIfInBounds_toArray, List.set_cons_zero, List.set_cons_succ]
      refine wpAnyH_take (i := 4) (v := ?_) (by simp only [List.getElem?_toArray, List.getElem?_cons_succ, List.getElem?_cons_zero]; rfl) (by kernel_rfl) (by kernel_rfl) (by kernel_rfl) (fun _ _ _ h => h) (Or.inl ⟨by rfl, ?_⟩) (by assumption) ?_
      rotate_left
      · (intro w hSw; (try dsimp only at hSw); go_simp; (try rw [cells_ne (by assumption)]); try with_reducible rfl)
      try simp only [Act.put, List.setIfInBounds_toArray, List.set_cons_zero, List.set_cons_succ]
      refine wpAnyH_ready (rs := [2]) (by kernel_rfl) (by simp) ?_
      refine AllReadyH.cons (by simp only [List.getElem?_toArray, List.getElem?_cons_succ, List.getElem?_cons_zero]; rfl) (fun K hK => ?_) AllReadyH.nil
      go_simp
      go_at_call 14
      refine (Cab.out _).mono ?_
      rintro e v1 ⟨rfl, k1⟩
      go_wp2_with fail
      refine hK.out _ _ (keep3 hHeld k1) (fun hHeld => ?_)
      clear hK K
      try simp only [Act.put, List.setIfInBounds_toArray, List.set_cons_zero, List.set_cons_succ]
      refine wpAnyH_ready (rs := [5]) (by kernel_rfl) (by simp) ?_
      refine AllReadyH.cons (by simp only [List.getElem?_toArray, List.getElem?_cons_succ, List.getElem?_cons_zero]; rfl) (fun K hK => ?_) AllReadyH.nil
      go_simp
      go_at_call 14
      refine (Cba.out _).mono ?_
      rintro e v2 ⟨rfl, k2⟩
      go_wp2_with fail
      refine hK.out _ _ (keep3 hHeld k2) (fun hHeld => ?_)
      clear hK K
      try simp only [Act.put, List.setIfInBounds_toArray, List.set_cons_zero, List.set_cons_succ]
      refine wpAnyH_take (i := 6) (v := ?_) (by simp only [List.getElem?_toArray, List.getElem?_cons_succ, List.getElem?_cons_zero]; rfl) (by kernel_rfl) (by kernel_rfl) (by kernel_rfl) (fun _ _ _ h => h) (Or.inl ⟨by rfl, ?_⟩) (by assumption) ?_
      rotate_left
      · (intro w hSw; (try dsimp only at hSw); go_simp; (try rw [cells_ne (by assumption)]); try with_reducible rfl)
      try simp only [Act.put, List.setIfInBounds_toArray, List.set_cons_zero, List.set_cons_succ]
      refine wpAnyH_take (i := 7) (v := ?_) (by simp only [List.getElem?_toArray, List.getElem?_cons_succ, List.getElem?_cons_zero]; rfl) (by kernel_rfl) (by kernel_rfl) (by kernel_rfl) (fun _ _ _ h => h) (Or.inl ⟨by rfl, ?_⟩) (by assumption) ?_
      rotate_left
      · (intro w hSw; (try dsimp only at hSw); go_simp; (try rw [cells_ne (by assumption)]); try with_reducible rfl)
      try simp only [Act.put, List.setIfInBounds_toArray, List.set_cons_zero, List.set_cons_succ]
      refine wpAnyH_take (i := 8) (v := ?_) (by simp only [List.getElem?_toArray, List.getElem?_cons_succ, List.getElem?_cons_zero]; rfl) (by kernel_rfl) (by kernel_rfl) (by kernel_rfl) (fun _ _ _ h => h) (Or.inl ⟨by rfl, ?_⟩) (by assumption) ?_
      rotate_left
      · (intro w hSw; (try dsimp only at hSw); go_simp; (try rw [cells_ne (by assumption)]); try with_reducible rfl)
      try simp only [Act.put, List.setIfInBounds_toArray, List.set_cons_zero, List.set_cons_succ]
      refine wpAnyH_take (i := 9) (v := ?_) (by simp only [List.getElem?_toArray, List.getElem?_cons_succ, List.getElem?_cons_zero]; rfl) (by kernel_rfl) (by kernel_rfl) (by kernel_rfl) (fun _ _ _ h => h) (Or.inl ⟨by rfl, ?_⟩) (by assumption) ?_
      rotate_left
      · (intro w hSw; (try dsimp only at hSw); go_simp; (try rw [cells_ne (by assumption)]); try with_reducible rfl)
      try simp only [Act.put, List.setIfInBounds_toArray, List.set_cons_zero, List.set_cons_succ]
      refine wpAnyH_take (i := 10) (v := ?_) (by simp only [List.getElem?_toArray, List.getElem?_cons_succ, List.getElem?_cons_zero]; rfl) (by kernel_rfl) (by kernel_rfl) (by kernel_rfl) (fun _ _ _ h => h) (Or.inl ⟨by rfl, ?_⟩) (by assumption) ?_
      rotate_left
      · (intro w hSw; (try dsimp only at hSw); go_simp; (try rw [cells_ne (by assumption)]); try with_reducible rfl)
      try simp only [Act.put, List.setIfInBounds_toArray, List.set_cons_zero, List.set_cons_succ]
      refine wpAnyH_take (i := 13) (v := ?_) (by simp only [List.getElem?_toArray, List.getElem?_cons_succ, List.getElem?_cons_zero]; rfl) (by kernel_rfl) (by kernel_rfl) (by kernel_rfl) (fun _ _ _ h => h) (Or.inl ⟨by rfl, ?_⟩) (by assumption) ?_
      rotate_left
      · (intro w hSw; (try dsimp only at hSw); go_simp; (try rw [cells_ne (by assumption)]); try with_reducible rfl)
      try simp only [Act.put, List.setIfInBounds_toArray, List.set_cons_zero, List.set_cons_succ]
      refine wpAnyH_take (i := 14) (v := ?_) (by simp only [List.getElem?_toArray, List.getElem?_cons_succ, List.getElem?_cons_zero]; rfl) (by kernel_rfl) (by kernel_rfl) (by kernel_rfl) (fun _ _ _ h => h) (Or.inl ⟨by rfl, ?_⟩) (by assumption) ?_
      rotate_left
      · (intro w hSw; (try dsimp only at hSw); go_simp; (try rw [cells_ne (by assumption)]); try with_reducible rfl)
      try simp only [Act.put, List.setIfInBounds_toArray, List.set_cons_zero, List.set_cons_succ]
      refine wpAnyH_take (i := 15) (v := ?_) (by simp only [List.getElem?_toArray, List.getElem?_cons_succ, List.getElem?_cons_zero]; rfl) (by kernel_rfl) (by kernel_rfl) (by kernel_rfl) (fun _ _ _ h => h) (Or.inl ⟨by rfl, ?_⟩) (by assumption) ?_
      rotate_left
      · (intro w hSw; (try dsimp only at hSw); go_simp; (try rw [cells_ne (by assumption)]); try with_reducible rfl)
      try simp only [Act.put, List.setIfInBounds_toArray, List.set_cons_zero, List.set_cons_succ]
      refine wpAnyH_ready (rs := [11]) (by kernel_rfl) (by simp) ?_
      refine AllReadyH.cons (by simp only [List.getElem?_toArray, List.getElem?_cons_succ, List.getElem?_cons_zero]; rfl) (fun K hK => ?_) AllReadyH.nil
      go_simp
      go_at_call 14
      refine (Cab.out _).mono ?_
      rintro e v3 ⟨rfl, k3⟩
      go_wp2_with fail
      refine hK.out _ _ (keep3 hHeld k3) (fun hHeld => ?_)
      clear hK K
      try simp only [Act.put, List.setIfInBounds_toArray, List.set_cons_zero, List.set_cons_succ]
      refine wpAnyH_take (i := 12) (v := ?_) (by simp only [List.getElem?_toArray, List.getElem?_cons_succ, List.getElem?_cons_zero]; rfl) (by kernel_rfl) (by kernel_rfl) (by kernel_rfl) (fun _ _ _ h => h) (Or.inl ⟨by rfl, ?_⟩) (by assumption) ?_
      rotate_left
      · (intro w hSw; (try dsimp only at hSw); go_simp; (try rw [cells_ne (by assumption)]); try with_reducible rfl)
      try simp only [Act.put, List.setIfInBounds_toArray, List.set_cons_zero, List.set_cons_succ]
      refine wpAnyH_take (i := 16) (v := ?_) (by simp only [List.getElem?_toArray, List.getElem?_cons_succ, List.getElem?_cons_zero]; rfl) (by kernel_rfl) (by kernel_rfl) (by kernel_rfl) (fun _ _ _ h => h) (Or.inl ⟨by rfl, ?_⟩) (by assumption) ?_
      rotate_left
      · (intro w hSw; (try dsimp only at hSw); go_simp; (try rw [cells_ne (by assumption)]); try with_reducible rfl)
      try simp only [Act.put, List.setIfInBounds_toArray, List.set_cons_zero, List.set_cons_succ]
      refine wpAnyH_take (i := 17) (v := ?_) (by simp only [List.getElem?_toArray, List.getElem?_cons_succ, List.getElem?_cons_zero]; rfl) (by kernel_rfl) (by kernel_rfl) (by kernel_rfl) (fun _ _ _ h => h) (Or.inl ⟨by rfl, ?_⟩) (by assumption) ?_
      rotate_left
      · (intro w hSw; (try dsimp only at hSw); go_simp; (try rw [cells_ne (by assumption)]); try with_reducible rfl)
      try simp only [Act.put, List.setIfInBounds_toArray, List.set_cons_zero, List.set_cons_succ]
      refine wpAnyH_done (by kernel_rfl) ?_ _
      refine NoPanic.normal ?_
      have h10 := bstep (bstep (bstep (Below.drew h9) k1) k2) k3
      have D10 := Below.drew (Below.refl v5.heap.size v5)
      have In1 := ((((In1.below D10).below k1).below k2).below k3)
      obtain ⟨_, _, _⟩ := id In1
      have qIn1 := In1.lt
      have In2 := ((((In2.below D10).below k1).below k2).below k3)
      obtain ⟨_, _, _⟩ := id In2
      have qIn2 := In2.lt
      have In3 := ((((In3.below D10).below k1).below k2).below k3)
      obtain ⟨_, _, _⟩ := id In3
      have qIn3 := In3.lt
      clear k1 k2 k3 hHeld
      go_wp2_with fail
      refine (Cab.out _).mono ?_
      rintro e y11 ⟨rfl, k11⟩
      have h11 := bstep h10 k11
      have In1 := In1.below k11
      obtain ⟨_, _, _⟩ := id In1
      have qIn1 := In1.lt
      have In2 := In2.below k11
      obtain ⟨_, _, _⟩ := id In2
      have qIn2 := In2.lt
      have In3 := In3.below k11
      obtain ⟨_, _, _⟩ := id In3
      have qIn3 := In3.lt
      clear k11
      by_cases hm : 0 < m
      · have hm1 : decide (0 < m) = true := decide_eq_true hm
        have hm2 : decide (m > 0) = true := hm1
        go_wp2_with fail
        refine (Cbc.out _).mono ?_
        rintro e y12 ⟨rfl, k12⟩
        have h12 := bstep h11 k12
        have In1 := In1.below k12
        obtain ⟨_, _, _⟩ := id In1
        have qIn1 := In1.lt
        have In2 := In2.below k12
        obtain ⟨_, _, _⟩ := id In2
        have qIn2 := In2.lt
        have In3 := In3.below k12
        obtain ⟨_, _, _⟩ := id In3
        have qIn3 := In3.lt
        clear k12
        go_wp2_with fail
        refine (alive_any _).mono ?_
        rintro e y20 ⟨rfl, k20⟩
        have h20 := bstep h12 k20
        clear k20
        go_wp2
        go_ret
        exact ⟨rfl, h20⟩
      · have hm1 : decide (0 < m) = false := decide_eq_false hm
        have hm2 : decide (m > 0) = false := hm1
        have hp := htr (by decide) (by omega)
        have hp1 : decide (p ≤ 0) = true := decide_eq_true hp
        go_wp2_with fail
        refine (Cbc.out _).mono ?_
        rintro e y12 ⟨rfl, k12⟩
        have h12 := bstep h11 k12
        have In1 := In1.below k12
        obtain ⟨_, _, _⟩ := id In1
        have qIn1 := In1.lt
        have In2 := In2.below k12
        obtain ⟨_, _, _⟩ := id In2
        have qIn2 := In2.lt
        have In3 := In3.below k12
        obtain ⟨_, _, _⟩ := id In3
        have qIn3 := In3.lt
        clear k12
        go_wp2_with fail
        refine (Cac.out _).mono ?_
        rintro e y13 ⟨rfl, k13⟩
        have h13 := bstep h12 k13
        have In1 := In1.below k13
        obtain ⟨_, _, _⟩ := id In1
        have qIn1 := In1.lt
        have In2 := In2.below k13
        obtain ⟨_, _, _⟩ := id In2
        have qIn2 := In2.lt
        have In3 := In3.below k13
        obtain ⟨_, _, _⟩ := id In3
        have qIn3 := In3.lt
        clear k13
        go_wp2_with fail
        refine (alive_any _).mono ?_
        rintro e y20 ⟨rfl, k20⟩
        have h20 := bstep h13 k20
        clear k20
        go_wp2
        go_ret
        exact ⟨rfl, h20⟩
    · have Cab := Lib.hid (compare_to (show cmp a0_0 a0_1 a0_2 a1_0 a1_1 a1_2 = 0 from hn))
      have Cba := Lib.hid (compare_to (show cmp a1_0 a1_1 a1_2 a0_0 a0_1 a0_2 = 0 from hflip.trans (by omega)))
      have heq : (a0_0, a0_1, a0_2) = (a1_0, a1_1, a1_2) := hz.1 hn
      obtain ⟨j1, j2, j3⟩ : a0_0 = sj ∧ a0_1 = tj ∧ a0_2 = gj := by rw [joinT, if_neg (by rw [hn]; decide)] at hJ; simp only [Prod.mk.injEq] at hJ; exact ⟨hJ.1.symm, hJ.2.1.symm, hJ.2.2.symm⟩
      rw [hn] at htr
      clear hJ hz hn hflip
      subst j1 j2 j3
      go_wp2_with fail
      refine (Jab.out _).mono ?_
      rintro e w8 ⟨rfl, k8⟩
      have h8 := bstep h7 k8
      have In1 := In1.below k8
      have In2 := In2.below k8
      have In3 := In3.below k8
      have In5 := In.new w8 a0_0 a0_1 a0_2 _ rfl
      have In1 := In1.alloc (.cells #[.int .u64 a0_0, .string a0_1, .bool a0_2] 24)
      obtain ⟨_, _, _⟩ := id In1
      have qIn1 := In1.lt
      have In2 := In2.alloc (.cells #[.int .u64 a0_0, .string a0_1, .bool a0_2] 24)
      obtain ⟨_, _, _⟩ := id In2
      have qIn2 := In2.lt
      have In3 := In3.alloc (.cells #[.int .u64 a0_0, .string a0_1, .bool a0_2] 24)
      obtain ⟨_, _, _⟩ := id In3
      have qIn3 := In3.lt
      have h8 := balloc h8 (.cells #[.int .u64 a0_0, .string a0_1, .bool a0_2] 24)
      obtain ⟨_, _, _⟩ := id In5
      have qIn5 := In5.lt
      clear k8 Jab
      go_wp2_with fail
      refine wp_region_noPanic ?_
      refine wp_region_held_drew (S := (fun w' => w'.cell? ⟨w.heap.size, 0, none⟩ = some (.int .u64 a0_0) ∧ w'.cell? ⟨w.heap.size, 1, none⟩ = some (.string a0_1) ∧ w'.cell? ⟨w.heap.size, 2, none⟩ = some (.bool a0_2) ∧ w'.cell? ⟨w.heap.size + 1, 0, none⟩ = some (.int .u64 a1_0) ∧ w'.cell? ⟨w.heap.size + 1, 1, none⟩ = some (.string a1_1) ∧ w'.cell? ⟨w.heap.size + 1, 2, none⟩ = some (.bool a1_2) ∧ w'.cell? ⟨w.heap.size + 1 + 1, 0, none⟩ = some (.int .u64 a2_0) ∧ w'.cell? ⟨w.heap.size + 1 + 1, 1, none⟩ = some (.string a2_1) ∧ w'.cell? ⟨w.heap.size + 1 + 1, 2, none⟩ = some (.bool a2_2) ∧ w'.cell? ⟨w8.heap.size, 0, none⟩ = some (.int .u64 a0_0) ∧ w'.cell? ⟨w8.heap.size, 1, none⟩ = some (.string a0_1) ∧ w'.cell? ⟨w8.heap.size, 2, none⟩ = some (.bool a0_2))) (by kernel_rfl) (by go_keep) (fun hHeld => ?_)
      refine wpAnyH_take (i := 0) (v := ?_) (by simp only [List.getElem?_toArray, List.getElem?_cons_zero]; rfl) (by kernel_rfl) (by kernel_rfl) (by kernel_rfl) (fun _ _ _ h => h) (Or.inl ⟨by rfl, ?_⟩) (by assumption) ?_
      rotate_left
      · (intro w hSw; (try dsimp only at hSw); go_simp; try with_reducible rfl)
      try simp only [Act.put, List.setIfInBounds_toArray, List.set_cons_zero, List.set_cons_succ]
      refine wpAnyH_take (i := 1) (v := ?_) (by simp only [List.getElem?_toArray, List.getElem?_cons_succ, List.getElem?_cons_zero]; rfl) (by kernel_rfl) (by kernel_rfl) (by kernel_rfl) (fun _ _ _ h => h) (Or.inl ⟨by rfl, ?_⟩) (by assumption) ?_
      rotate_left
      · (intro w hSw; (try dsimp only at hSw); go_simp; try with_reducible rfl)
      try simp only [Act.put, List.setIfInBounds_toArray, List.set_cons_zero, List.set_cons_succ]
      refine wpAnyH_take (i := 2) (v := ?_) (by simp only [List.getElem?_toArray, List.getElem?_cons_succ, List.getElem?_cons_zero]; rfl) (by kernel_rfl) (by kernel_rfl) (by kernel_rfl) (fun _ _ _ h => h) (Or.inl ⟨by rfl, ?_⟩) (by assumption) ?_
      rotate_left
      · (intro w hSw; (try dsimp only at hSw); go_simp; try with_reducible rfl)
      try simp only [Act.put, List.setIfInBounds_toArray, List.set_cons_zero, List.set_cons_succ]
      refine wpAnyH_ready (rs := [3]) (by kernel_rfl) (by simp) ?_
      refine AllReadyH.cons (by simp only [List.getElem?_toArray, List.getElem?_cons_succ, List.getElem?_cons_zero]; rfl) (fun K hK => ?_) AllReadyH.nil
      go_simp
      go_at_call 16
      refine (Jba.out _).mono ?_
      rintro e v1 ⟨rfl, k1⟩
      go_wp2_with fail
      refine hK.out _ _ (keep4 hHeld k1) (fun hHeld => ?_)
      clear hK K
      try simp only [Act.put, List.setIfInBounds_toArray, List.set_cons_zero, List.set_cons_succ]
      refine wpAnyH_take (i := 4) (v := ?_) (by simp only [List.getElem?_toArray, List.getElem?_cons_succ, List.getElem?_cons_zero]; rfl) (by kernel_rfl) (by kernel_rfl) (by kernel_rfl) (fun _ _ _ h => h) (Or.inl ⟨by rfl, ?_⟩) (by assumption) ?_
      rotate_left
      · (intro w hSw; (try dsimp only at hSw); go_simp; try with_reducible rfl)
      try simp only [Act.put, List.setIfInBounds_toArray, List.set_cons_zero, List.set_cons_succ]
      refine wpAnyH_take (i := 5) (v := ?_) (by simp only [List.getElem?_toArray, List.getElem?_cons_succ, List.getElem?_cons_zero]; rfl) (by kernel_rfl) (by kernel_rfl) (by kernel_rfl) (fun _ _ _ h => h) (Or.inl ⟨by rfl, ?_⟩) (by assumption) ?_
      rotate_left
      · (intro w hSw; (try dsimp only at hSw); go_simp; try with_reducible rfl)
      try simp only [Act.put, List.setIfInBounds_toArray, List.set_cons_zero, List.set_cons_succ]
      refine wpAnyH_take (i := 6) (v := ?_) (by simp only [List.getElem?_toArray, List.getElem?_cons_succ, List.getElem?_cons_zero]; rfl) (by kernel_rfl) (by kernel_rfl) (by kernel_rfl) (fun _ _ _ h => h) (Or.inl ⟨by rfl, ?_⟩) (by assumption) ?_
      rotate_left
      · (intro w hSw; (try dsimp only at hSw); go_simp; try with_reducible rfl)
      try simp only [Act.put, List.setIfInBounds_toArray, List.set_cons_zero, List.set_cons_succ]
      refine wpAnyH_take (i := 7) (v := ?_) (by simp only [List.getElem?_toArray, List.getElem?_cons_succ, List.getElem?_cons_zero]; rfl) (by kernel_rfl) (by kernel_rfl) (by kernel_rfl) (fun _ _ _ h => h) (Or.inl ⟨by rfl, ?_⟩) (by assumption) ?_
      rotate_left
      · (intro w hSw; (try dsimp only at hSw); go_simp; try with_reducible rfl)
      try simp only [Act.put, List.setIfInBounds_toArray, List.set_cons_zero, List.set_cons_succ]
      refine wpAnyH_take (i := 9) (v := ?_) (by simp only [List.getElem?_toArray, List.getElem?_cons_succ, List.getElem?_cons_zero]; rfl) (by kernel_rfl) (by kernel_rfl) (by kernel_rfl) (fun _ _ _ h => h) (Or.inl ⟨by rfl, ?_⟩) (by assumption) ?_
      rotate_left
      · (intro w hSw; (try dsimp only at hSw); go_simp; try with_reducible rfl)
      try simp only [Act.put, List.setIfInBounds_toArray, List.set_cons_zero, List.set_cons_succ]
      refine wpAnyH_take (i := 10) (v := ?_) (by simp only [List.getElem?_toArray, List.getElem?_cons_succ, List.getElem?_cons_zero]; rfl) (by kernel_rfl) (by kernel_rfl) (by kernel_rfl) (fun _ _ _ h => h) (Or.inl ⟨by rfl, ?_⟩) (by assumption) ?_
      rotate_left
      · (intro w hSw; (try dsimp only at hSw); go_simp; try with_reducible rfl)
      try simp only [Act.put, List.setIfInBounds_toArray, List.set_cons_zero, List.set_cons_succ]
      refine wpAnyH_take (i := 11) (v := ?_) (by simp only [List.getElem?_toArray, List.getElem?_cons_succ, List.getElem?_cons_zero]; rfl) (by kernel_rfl) (by kernel_rfl) (by kernel_rfl) (fun _ _ _ h => h) (Or.inl ⟨by rfl, ?_⟩) (by assumption) ?_
      rotate_left
      · (intro w hSw; (try dsimp only at hSw); go_simp; try with_reducible rfl)
      try simp only [Act.put, List.setIfInBounds_toArray, List.set_cons_zero, List.set_cons_succ]
      refine wpAnyH_ready (rs := [8]) (by kernel_rfl) (by simp) ?_
      refine AllReadyH.cons (by simp only [List.getElem?_toArray, List.getElem?_cons_succ, List.getElem?_cons_zero]; rfl) (fun K hK => ?_) AllReadyH.nil
      go_simp
      go_at_call 16
      refine (Jjc.out _).mono ?_
      rintro e v2 ⟨rfl, k2⟩
      go_wp2_with fail
      refine hK.out _ _ (keep4 hHeld k2) (fun hHeld => ?_)
      clear hK K
      try simp only [Act.put, List.setIfInBounds_toArray, List.set_cons_zero, List.set_cons_succ]
      refine wpAnyH_ready (rs := [12]) (by kernel_rfl) (by simp) ?_
      refine AllReadyH.cons (by simp only [List.getElem?_toArray, List.getElem?_cons_succ, List.getElem?_cons_zero]; rfl) (fun K hK => ?_) AllReadyH.nil
      go_simp
      go_at_call 16
      refine (Jbc.out _).mono ?_
      rintro e v3 ⟨rfl, k3⟩
      go_wp2_with fail
      refine hK.out _ _ (keep4 hHeld k3) (fun hHeld => ?_)
      clear hK K
      try simp only [Act.put, List.setIfInBounds_toArray, List.set_cons_zero, List.set_cons_succ]
      refine wpAnyH_ready (rs := [13]) (by kernel_rfl) (by simp) ?_
      refine AllReadyH.cons (by simp only [List.getElem?_toArray, List.getElem?_cons_succ, List.getElem?_cons_zero]; rfl) (fun K hK => ?_) AllReadyH.nil
      go_simp
      go_at_call 16
      refine (Jay.out _).mono ?_
      rintro e v4 ⟨rfl, k4⟩
      go_wp2_with fail
      refine hK.out _ _ (keep4 hHeld k4) (fun hHeld => ?_)
      clear hK K
      try simp only [Act.put, List.setIfInBounds_toArray, List.set_cons_zero, List.set_cons_succ]
      refine wpAnyH_take (i := 14) (v := ?_) (by simp only [List.getElem?_toArray, List.getElem?_cons_succ, List.getElem?_cons_zero]; rfl) (by kernel_rfl) (by kernel_rfl) (by kernel_rfl) (fun _ _ _ h => h) (Or.inl ⟨by rfl, ?_⟩) (by assumption) ?_
      rotate_left
      · (intro w hSw; (try dsimp only at hSw); go_simp; try with_reducible rfl)
      try simp only [Act.put, List.setIfInBounds_toArray, List.set_cons_zero, List.set_cons_succ]
      refine wpAnyH_take (i := 15) (v := ?_) (by simp only [List.getElem?_toArray, List.getElem?_cons_succ, List.getElem?_cons_zero]; rfl) (by kernel_rfl) (by kernel_rfl) (by kernel_rfl) (fun _ _ _ h => h) (Or.inl ⟨by rfl, ?_⟩) (by assumption) ?_
      rotate_left
      · (intro w hSw; (try dsimp only at hSw); go_simp; try with_reducible rfl)
      try simp only [Act.put, List.setIfInBounds_toArray, List.set_cons_zero, List.set_cons_succ]
      refine wpAnyH_take (i := 16) (v := ?_) (by simp only [List.getElem?_toArray, List.getElem?_cons_succ, List.getElem?_cons_zero]; rfl) (by kernel_rfl) (by kernel_rfl) (by kernel_rfl) (fun _ _ _ h => h) (Or.inl ⟨by rfl, ?_⟩) (by assumption) ?_
      rotate_left
      · (intro w hSw; (try dsimp only at hSw); go_simp; try with_reducible rfl)
      try simp only [Act.put, List.setIfInBounds_toArray, List.set_cons_zero, List.set_cons_succ]
      refine wpAnyH_take (i := 17) (v := ?_) (by simp only [List.getElem?_toArray, List.getElem?_cons_succ, List.getElem?_cons_zero]; rfl) (by kernel_rfl) (by kernel_rfl) (by kernel_rfl) (fun _ _ _ h => h) (Or.inl ⟨by rfl, ?_⟩) (by assumption) ?_
      rotate_left
      · (intro w hSw; (try dsimp only at hSw); go_simp; try with_reducible rfl)
      try simp only [Act.put, List.setIfInBounds_toArray, List.set_cons_zero, List.set_cons_succ]
      refine wpAnyH_take (i := 18) (v := ?_) (by simp only [List.getElem?_toArray, List.getElem?_cons_succ, List.getElem?_cons_zero]; rfl) (by kernel_rfl) (by kernel_rfl) (by kernel_rfl) (fun _ _ _ h => h) (Or.inl ⟨by rfl, ?_⟩) (by assumption) ?_
      rotate_left
      · (intro w hSw; (try dsimp only at hSw); go_simp; try with_reducible rfl)
      try simp only [Act.put, List.setIfInBounds_toArray, List.set_cons_zero, List.set_cons_succ]
      refine wpAnyH_take (i := 20) (v := ?_) (by simp only [List.getElem?_toArray, List.getElem?_cons_succ, List.getElem?_cons_zero]; rfl) (by kernel_rfl) (by kernel_rfl) (by kernel_rfl) (fun _ _ _ h => h) (Or.inl ⟨by rfl, ?_⟩) (by assumption) ?_
      rotate_left
      · (intro w hSw; (try dsimp only at hSw); go_simp; try with_reducible rfl)
      try simp only [Act.put, List.setIfInBounds_toArray, List.set_cons_zero, List.set_cons_succ]
      refine wpAnyH_ready (rs := [19]) (by kernel_rfl) (by simp) ?_
      refine AllReadyH.cons (by simp only [List.getElem?_toArray, List.getElem?_cons_succ, List.getElem?_cons_zero]; rfl) (fun K hK => ?_) AllReadyH.nil
      go_simp
      go_at_call 16
      refine (Jjj.out _).mono ?_
      rintro e v5 ⟨rfl, k5⟩
      go_wp2_with fail
      refine hK.out _ _ (keep4 hHeld k5) (fun hHeld => ?_)
      clear hK K
      try simp only [Act.put, List.setIfInBounds_toArray, List.set_cons_zero, List.set_cons_succ]
      refine wpAnyH_take (i := 21) (v := ?_) (by simp only [List.getElem?_toArray, List.getElem?_cons_succ, List.getElem?_cons_zero]; rfl) (by kernel_rfl) (by kernel_rfl) (by kernel_rfl) (fun _ _ _ h => h) (Or.inl ⟨by rfl, ?_⟩) (by assumption) ?_
      rotate_left
      · (intro w hSw; (try dsimp only at hSw); go_simp; try with_reducible rfl)
      try simp only [Act.put, List.setIfInBounds_toArray, List.set_cons_zero, List.set_cons_succ]
      refine wpAnyH_take (i := 22) (v := ?_) (by simp only [List.getElem?_toArray, List.getElem?_cons_succ, List.getElem?_cons_zero]; rfl) (by kernel_rfl) (by kernel_rfl) (by kernel_rfl) (fun _ _ _ h => h) (Or.inl ⟨by rfl, ?_⟩) (by assumption) ?_
      rotate_left
      · (intro w hSw; (try dsimp only at hSw); go_simp; try with_reducible rfl)
      try simp only [Act.put, List.setIfInBounds_toArray, List.set_cons_zero, List.set_cons_succ]
      refine wpAnyH_take (i := 23) (v := ?_) (by simp only [List.getElem?_toArray, List.getElem?_cons_succ, List.getElem?_cons_zero]; rfl) (by kernel_rfl) (by kernel_rfl) (by kernel_rfl) (fun _ _ _ h => h) (Or.inl ⟨by rfl, ?_⟩) (by assumption) ?_
      rotate_left
      · (intro w hSw; (try dsimp only at hSw); go_simp; try with_reducible rfl)
      try simp only [Act.put, List.setIfInBounds_toArray, List.set_cons_zero, List.set_cons_succ]
      refine wpAnyH_take (i := 24) (v := ?_) (by simp only [List.getElem?_toArray, List.getElem?_cons_succ, List.getElem?_cons_zero]; rfl) (by kernel_rfl) (by kernel_rfl) (by kernel_rfl) (fun _ _ _ h => h) (Or.inl ⟨by rfl, ?_⟩) (by assumption) ?_
      rotate_left
      · (intro w hSw; (try dsimp only at hSw); go_simp; try with_reducible rfl)
      try simp only [Act.put, List.setIfInBounds_toArray, List.set_cons_zero, List.set_cons_succ]
      refine wpAnyH_take (i := 25) (v := ?_) (by simp only [List.getElem?_toArray, List.getElem?_cons_succ, List.getElem?_cons_zero]; rfl) (by kernel_rfl) (by kernel_rfl) (by kernel_rfl) (fun _ _ _ h => h) (Or.inl ⟨by rfl, ?_⟩) (by assumption) ?_
      rotate_left
      · (intro w hSw; (try dsimp only at hSw); go_simp; try with_reducible rfl)
      try simp only [Act.put, List.setIfInBounds_toArray, List.set_cons_zero, List.set_cons_succ]
      refine wpAnyH_take (i := 26) (v := ?_) (by simp only [List.getElem?_toArray, List.getElem?_cons_succ, List.getElem?_cons_zero]; rfl) (by kernel_rfl) (by kernel_rfl) (by kernel_rfl) (fun _ _ _ h => h) (Or.inl ⟨by rfl, ?_⟩) (by assumption) ?_
      rotate_left
      · (intro w hSw; (try dsimp only at hSw); go_simp; try with_reducible rfl)
      try simp only [Act.put, List.setIfInBounds_toArray, List.set_cons_zero, List.set_cons_succ]
      refine wpAnyH_take (i := 27) (v := ?_) (by simp only [List.getElem?_toArray, List.getElem?_cons_succ, List.getElem?_cons_zero]; rfl) (by kernel_rfl) (by kernel_rfl) (by kernel_rfl) (fun _ _ _ h => h) (Or.inl ⟨by rfl, ?_⟩) (by assumption) ?_
      rotate_left
      · (intro w hSw; (try dsimp only at hSw); go_simp; try with_reducible rfl)
      try simp only [Act.put, List.setIfInBounds_toArray, List.set_cons_zero, List.set_cons_succ]
      refine wpAnyH_take (i := 28) (v := undef) (by simp only [List.getElem?_toArray, List.getElem?_cons_succ, List.getElem?_cons_zero]; rfl) (by kernel_rfl) (by kernel_rfl) (by kernel_rfl) (fun _ _ _ h => h) (Or.inr ⟨by rfl, rfl⟩) (by assumption) ?_
      try simp only [Act.put, List.setIfInBounds_toArray, List.set_cons_zero, List.set_cons_succ]
      refine wpAnyH_take (i := 29) (v := undef) (by simp only [List.getElem?_toArray, List.getElem?_cons_succ, List.getElem?_cons_zero]; rfl) (by kernel_rfl) (by kernel_rfl) (by kernel_rfl) (fun _ _ _ h => h) (Or.inr ⟨by rfl, rfl⟩) (by assumption) ?_
      try simp only [Act.put, List.setIfInBounds_toArray, List.set_cons_zero, List.set_cons_succ]
      refine wpAnyH_take (i := 30) (v := undef) (by simp only [List.getElem?_toArray, List.getElem?_cons_succ, List.getElem?_cons_zero]; rfl) (by kernel_rfl) (by kernel_rfl) (by kernel_rfl) (fun _ _ _ h => h) (Or.inr ⟨by rfl, rfl⟩) (by assumption) ?_
      try simp only [Act.put, List.setIfInBounds_toArray, List.set_cons_zero, List.set_cons_succ]
      refine wpAnyH_take (i := 31) (v := ?_) (by simp only [List.getElem?_toArray, List.getElem?_cons_succ, List.getElem?_cons_zero]; rfl) (by kernel_rfl) (by kernel_rfl) (by kernel_rfl) (fun _ _ _ h => h) (Or.inl ⟨by rfl, ?_⟩) (by assumption) ?_
      rotate_left
      · (intro w hSw; (try dsimp only at hSw); go_simp; try with_reducible rfl)
      try simp only [Act.put, List.setIfInBounds_toArray, List.set_cons_zero, List.set_cons_succ]
      refine wpAnyH_take (i := 32) (v := ?_) (by simp only [List.getElem?_toArray, List.getElem?_cons_succ, List.getElem?_cons_zero]; rfl) (by kernel_rfl) (by kernel_rfl) (by kernel_rfl) (fun _ _ _ h => h) (Or.inl ⟨by rfl, ?_⟩) (by assumption) ?_
      rotate_left
      · (intro w hSw; (try dsimp only at hSw); go_simp; try with_reducible rfl)
      try simp only [Act.put, List.setIfInBounds_toArray, List.set_cons_zero, List.set_cons_succ]
      refine wpAnyH_done (by kernel_rfl) ?_ _
      refine NoPanic.normal ?_
      have h9 := bstep (bstep (bstep (bstep (bstep (Below.drew h8) k1) k2) k3) k4) k5
      have D9 := Below.drew (Below.refl (World.heap (w8.alloc (.cells #[.int .u64 a0_0, .string a0_1, .bool a0_2] 24))).size (w8.alloc (.cells #[.int .u64 a0_0, .string a0_1, .bool a0_2] 24)))
      have In1 := ((((((In1.below D9).below k1).below k2).below k3).below k4).below k5)
      obtain ⟨_, _, _⟩ := id In1
      have qIn1 := In1.lt
      have In2 := ((((((In2.below D9).below k1).below k2).below k3).below k4).below k5)
      obtain ⟨_, _, _⟩ := id In2
      have qIn2 := In2.lt
      have In3 := ((((((In3.below D9).below k1).below k2).below k3).below k4).below k5)
      obtain ⟨_, _, _⟩ := id In3
      have qIn3 := In3.lt
      clear k1 k2 k3 k4 k5 hHeld Jba Jjc Jbc Jay Jjj
      go_wp2_with fail
      have hwr : IntKind.i64.wrap (0) = 0 := by decide
      have hwr2 : IntKind.i64.wrap (-(0)) = 0 := by decide
      refine wp_region_noPanic ?_
      refine wp_region_held_drew (S := (fun w' => w'.cell? ⟨w.heap.size, 0, none⟩ = some (.int .u64 a0_0) ∧ w'.cell? ⟨w.heap.size, 1, none⟩ = some (.string a0_1) ∧ w'.cell? ⟨w.heap.size, 2, none⟩ = some (.bool a0_2) ∧ w'.cell? ⟨w.heap.size + 1, 0, none⟩ = some (.int .u64 a1_0) ∧ w'.cell? ⟨w.heap.size + 1, 1, none⟩ = some (.string a1_1) ∧ w'.cell? ⟨w.heap.size + 1, 2, none⟩ = some (.bool a1_2) ∧ w'.cell? ⟨w.heap.size + 1 + 1, 0, none⟩ = some (.int .u64 a2_0) ∧ w'.cell? ⟨w.heap.size + 1 + 1, 1, none⟩ = some (.string a2_1) ∧ w'.cell? ⟨w.heap.size + 1 + 1, 2, none⟩ = some (.bool a2_2))) (by kernel_rfl) (by go_keep) (fun hHeld => ?_)
      refine wpAnyH_take (i := 0) (v := ?_) (by simp only [List.getElem?_toArray, List.getElem?_cons_zero]; rfl) (by kernel_rfl) (by kernel_rfl) (by kernel_rfl) (fun _ _ _ h => h) (Or.inl ⟨by rfl, ?_⟩) (by assumption) ?_
      rotate_left
      · (intro w hSw; (try dsimp only at hSw); go_simp; (try rw [cells_eq (by assumption)]); try with_reducible rfl)
      try simp only [Act.put, List.setIfInBounds_toArray, List.set_cons_zero, List.set_cons_succ]
      refine wpAnyH_take (i := 1) (v := ?_) (by simp only [List.getElem?_toArray, List.getElem?_cons_succ, List.getElem?_cons_zero]; rfl) (by kernel_rfl) (by kernel_rfl) (by kernel_rfl) (fun _ _ _ h => h) (Or.inl ⟨by rfl, ?_⟩) (by assumption) ?_
      rotate_left
      · (intro w hSw; (try dsimp only at hSw); go_simp; (try rw [cells_eq (by assumption)]); try with_reducible rfl)
      try simp only [Act.put, List.setIfInBounds_toArray, List.set_cons_zero, List.set_cons_succ]
      refine wpAnyH_take (i := 3) (v := ?_) (by simp only [List.getElem?_toArray, List.getElem?_cons_succ, List.getElem?_cons_zero]; rfl) (by kernel_rfl) (by kernel_rfl) (by kernel_rfl) (fun _ _ _ h => h) (Or.inl ⟨by rfl, ?_⟩) (by assumption) ?_
      rotate_left
      · (intro w hSw; (try dsimp only at hSw); go_simp; (try rw [cells_eq (by assumption)]); try with_reducible rfl)
      try simp only [Act.put, List.setIfInBounds_toArray, List.set_cons_zero, List.set_cons_succ]
      refine wpAnyH_take (i := 4) (v := ?_) (by simp only [List.getElem?_toArray, List.getElem?_cons_succ, List.getElem?_cons_zero]; rfl) (by kernel_rfl) (by kernel_rfl) (by kernel_rfl) (fun _ _ _ h => h) (Or.inl ⟨by rfl, ?_⟩) (by assumption) ?_
      rotate_left
      · (intro w hSw; (try dsimp only at hSw); go_simp; (try rw [cells_eq (by assumption)]); try with_reducible rfl)
      try simp only [Act.put, List.setIfInBounds_toArray, List.set_cons_zero, List.set_cons_succ]
      refine wpAnyH_ready (rs := [2]) (by kernel_rfl) (by simp) ?_
      refine AllReadyH.cons (by simp only [List.getElem?_toArray, List.getElem?_cons_succ, List.getElem?_cons_zero]; rfl) (fun K hK => ?_) AllReadyH.nil
      go_simp
      go_at_call 14
      refine (Cab.out _).mono ?_
      rintro e v1 ⟨rfl, k1⟩
      go_wp2_with fail
      refine hK.out _ _ (keep3 hHeld k1) (fun hHeld => ?_)
      clear hK K
      try simp only [Act.put, List.setIfInBounds_toArray, List.set_cons_zero, List.set_cons_succ]
      refine wpAnyH_ready (rs := [5]) (by kernel_rfl) (by simp) ?_
      refine AllReadyH.cons (by simp only [List.getElem?_toArray, List.getElem?_cons_succ, List.getElem?_cons_zero]; rfl) (fun K hK => ?_) AllReadyH.nil
      go_simp
      go_at_call 14
      refine (Cba.out _).mono ?_
      rintro e v2 ⟨rfl, k2⟩
      go_wp2_with fail
      refine hK.out _ _ (keep3 hHeld k2) (fun hHeld => ?_)
      clear hK K
      try simp only [Act.put, List.setIfInBounds_toArray, List.set_cons_zero, List.set_cons_succ]
      refine wpAnyH_take (i := 6) (v := ?_) (by simp only [List.getElem?_toArray, List.getElem?_cons_succ, List.getElem?_cons_zero]; rfl) (by kernel_rfl) (by kernel_rfl) (by kernel_rfl) (fun _ _ _ h => h) (Or.inl ⟨by rfl, ?_⟩) (by assumption) ?_
      rotate_left
      · (intro w hSw; (try dsimp only at hSw); go_simp; (try rw [cells_eq (by assumption)]); try with_reducible rfl)
      try simp only [Act.put, List.setIfInBounds_toArray, List.set_cons_zero, List.set_cons_succ]
      refine wpAnyH_take (i := 7) (v := ?_) (by simp only [List.getElem?_toArray, List.getElem?_cons_succ, List.getElem?_cons_zero]; rfl) (by kernel_rfl) (by kernel_rfl) (by kernel_rfl) (fun _ _ _ h => h) (Or.inl ⟨by rfl, ?_⟩) (by assumption) ?_
      rotate_left
      · (intro w hSw; (try dsimp only at hSw); go_simp; (try rw [cells_eq (by assumption)]); try with_reducible rfl)
      try simp only [Act.put, List.setIfInBounds_toArray, List.set_cons_zero, List.set_cons_succ]
      refine wpAnyH_take (i := 8) (v := ?_) (by simp only [List.getElem?_toArray, List.getElem?_cons_succ, List.getElem?_cons_zero]; rfl) (by kernel_rfl) (by kernel_rfl) (by kernel_rfl) (fun _ _ _ h => h) (Or.inl ⟨by rfl, ?_⟩) (by assumption) ?_
      rotate_left
      · (intro w hSw; (try dsimp only at hSw); go_simp; (try rw [cells_eq (by assumption)]); try with_reducible rfl)
      try simp only [Act.put, List.setIfInBounds_toArray, List.set_cons_zero, List.set_cons_succ]
      refine wpAnyH_take (i := 9) (v := ?_) (by simp only [List.getElem?_toArray, List.getElem?_cons_succ, List.getElem?_cons_zero]; rfl) (by kernel_rfl) (by kernel_rfl) (by kernel_rfl) (fun _ _ _ h => h) (Or.inl ⟨by rfl, ?_⟩) (by assumption) ?_
      rotate_left
      · (intro w hSw; (try dsimp only at hSw); go_simp; (try rw [cells_eq (by assumption)]); try with_reducible rfl)
      try simp only [Act.put, List.setIfInBounds_toArray, List.set_cons_zero, List.set_cons_succ]
      refine wpAnyH_take (i := 10) (v := ?_) (by simp only [List.getElem?_toArray, List.getElem?_cons_succ, List.getElem?_cons_zero]; rfl) (by kernel_rfl) (by kernel_rfl) (by kernel_rfl) (fun _ _ _ h => h) (Or.inl ⟨by rfl, ?_⟩) (by assumption) ?_
      rotate_left
      · (intro w hSw; (try dsimp only at hSw); go_simp; (try rw [cells_eq (by assumption)]); try with_reducible rfl)
      try simp only [Act.put, List.setIfInBounds_toArray, List.set_cons_zero, List.set_cons_succ]
      refine wpAnyH_take (i := 13) (v := ?_) (by simp only [List.getElem?_toArray, List.getElem?_cons_succ, List.getElem?_cons_zero]; rfl) (by kernel_rfl) (by kernel_rfl) (by kernel_rfl) (fun _ _ _ h => h) (Or.inl ⟨by rfl, ?_⟩) (by assumption) ?_
      rotate_left
      · (intro w hSw; (try dsimp only at hSw); go_simp; (try rw [cells_eq (by assumption)]); try with_reducible rfl)
      try simp only [Act.put, List.setIfInBounds_toArray, List.set_cons_zero, List.set_cons_succ]
      refine wpAnyH_take (i := 14) (v := ?_) (by simp only [List.getElem?_toArray, List.getElem?_cons_succ, List.getElem?_cons_zero]; rfl) (by kernel_rfl) (by kernel_rfl) (by kernel_rfl) (fun _ _ _ h => h) (Or.inl ⟨by rfl, ?_⟩) (by assumption) ?_
      rotate_left
      · (intro w hSw; (try dsimp only at hSw); go_simp; (try rw [cells_eq (by assumption)]); try with_reducible rfl)
      try simp only [Act.put, List.setIfInBounds_toArray, List.set_cons_zero, List.set_cons_succ]
      refine wpAnyH_take (i := 15) (v := ?_) (by simp only [List.getElem?_toArray, List.getElem?_cons_succ, List.getElem?_cons_zero]; rfl) (by kernel_rfl) (by kernel_rfl) (by kernel_rfl) (fun _ _ _ h => h) (Or.inl ⟨by rfl, ?_⟩) (by assumption) ?_
      rotate_left
      · (intro w hSw; (try dsimp only at hSw); go_simp; (try rw [cells_eq (by assumption)]); try with_reducible rfl)
      try simp only [Act.put, List.setIfInBounds_toArray, List.set_cons_zero, List.set_cons_succ]
      refine wpAnyH_ready (rs := [11]) (by kernel_rfl) (by simp) ?_
      refine AllReadyH.cons (by simp only [List.getElem?_toArray, List.getElem?_cons_succ, List.getElem?_cons_zero]; rfl) (fun K hK => ?_) AllReadyH.nil
      go_simp
      go_at_call 14
      refine (Cab.out _).mono ?_
      rintro e v3 ⟨rfl, k3⟩
      go_wp2_with fail
      refine hK.out _ _ (keep3 hHeld k3) (fun hHeld => ?_)
      clear hK K
      try simp only [Act.put, List.setIfInBounds_toArray, List.set_cons_zero, List.set_cons_succ]
      refine wpAnyH_take (i := 12) (v := ?_) (by simp only [List.getElem?_toArray, List.getElem?_cons_succ, List.getElem?_cons_zero]; rfl) (by kernel_rfl) (by kernel_rfl) (by kernel_rfl) (fun _ _ _ h => h) (Or.inl ⟨by rfl, ?_⟩) (by assumption) ?_
      rotate_left
      · (intro w hSw; (try dsimp only at hSw); go_simp; (try rw [cells_eq (by assumption)]); try with_reducible rfl)
      try simp only [Act.put, List.setIfInBounds_toArray, List.set_cons_zero, List.set_cons_succ]
      refine wpAnyH_take (i := 16) (v := ?_) (by simp only [List.getElem?_toArray, List.getElem?_cons_succ, List.getElem?_cons_zero]; rfl) (by kernel_rfl) (by kernel_rfl) (by kernel_rfl) (fun _ _ _ h => h) (Or.inl ⟨by rfl, ?_⟩) (by assumption) ?_
      rotate_left
      · (intro w hSw; (try dsimp only at hSw); go_simp; (try rw [cells_eq (by assumption)]); try with_reducible rfl)
      try simp only [Act.put, List.setIfInBounds_toArray, List.set_cons_zero, List.set_cons_succ]
      refine wpAnyH_take (i := 17) (v := ?_) (by simp only [List.getElem?_toArray, List.getElem?_cons_succ, List.getElem?_cons_zero]; rfl) (by kernel_rfl) (by kernel_rfl) (by kernel_rfl) (fun _ _ _ h => h) (Or.inl ⟨by rfl, ?_⟩) (by assumption) ?_
      rotate_left
      · (intro w hSw; (try dsimp only at hSw); go_simp; (try rw [cells_eq (by assumption)]); try with_reducible rfl)
      try simp only [Act.put, List.setIfInBounds_toArray, List.set_cons_zero, List.set_cons_succ]
      refine wpAnyH_done (by kernel_rfl) ?_ _
      refine NoPanic.normal ?_
      have h10 := bstep (bstep (bstep (Below.drew h9) k1) k2) k3
      have D10 := Below.drew (Below.refl v5.heap.size v5)
      have In1 := ((((In1.below D10).below k1).below k2).below k3)
      obtain ⟨_, _, _⟩ := id In1
      have qIn1 := In1.lt
      have In2 := ((((In2.below D10).below k1).below k2).below k3)
      obtain ⟨_, _, _⟩ := id In2
      have qIn2 := In2.lt
      have In3 := ((((In3.below D10).below k1).below k2).below k3)
      obtain ⟨_, _, _⟩ := id In3
      have qIn3 := In3.lt
      clear k1 k2 k3 hHeld
      go_wp2_with fail
      refine (Cab.out _).mono ?_
      rintro e y11 ⟨rfl, k11⟩
      have h11 := bstep h10 k11
      have In1 := In1.below k11
      obtain ⟨_, _, _⟩ := id In1
      have qIn1 := In1.lt
      have In2 := In2.below k11
      obtain ⟨_, _, _⟩ := id In2
      have qIn2 := In2.lt
      have In3 := In3.below k11
      obtain ⟨_, _, _⟩ := id In3
      have qIn3 := In3.lt
      clear k11
      by_cases hm : 0 < m
      · have hm1 : decide (0 < m) = true := decide_eq_true hm
        have hm2 : decide (m > 0) = true := hm1
        go_wp2_with fail
        refine (Cbc.out _).mono ?_
        rintro e y12 ⟨rfl, k12⟩
        have h12 := bstep h11 k12
        have In1 := In1.below k12
        obtain ⟨_, _, _⟩ := id In1
        have qIn1 := In1.lt
        have In2 := In2.below k12
        obtain ⟨_, _, _⟩ := id In2
        have qIn2 := In2.lt
        have In3 := In3.below k12
        obtain ⟨_, _, _⟩ := id In3
        have qIn3 := In3.lt
        clear k12
        go_wp2_with fail
        refine (alive_any _).mono ?_
        rintro e y20 ⟨rfl, k20⟩
        have h20 := bstep h12 k20
        clear k20
        go_wp2
        go_ret
        exact ⟨rfl, h20⟩
      · have hm1 : decide (0 < m) = false := decide_eq_false hm
        have hm2 : decide (m > 0) = false := hm1
        have hp := htr (by decide) (by omega)
        have hp1 : decide (p ≤ 0) = true := decide_eq_true hp
        go_wp2_with fail
        refine (Cbc.out _).mono ?_
        rintro e y12 ⟨rfl, k12⟩
        have h12 := bstep h11 k12
        have In1 := In1.below k12
        obtain ⟨_, _, _⟩ := id In1
        have qIn1 := In1.lt
        have In2 := In2.below k12
        obtain ⟨_, _, _⟩ := id In2
        have qIn2 := In2.lt
        have In3 := In3.below k12
        obtain ⟨_, _, _⟩ := id In3
        have qIn3 := In3.lt
        clear k12
        go_wp2_with fail
        refine (Cac.out _).mono ?_
        rintro e y13 ⟨rfl, k13⟩
        have h13 := bstep h12 k13
        have In1 := In1.below k13
        obtain ⟨_, _, _⟩ := id In1
        have qIn1 := In1.lt
        have In2 := In2.below k13
        obtain ⟨_, _, _⟩ := id In2
        have qIn2 := In2.lt
        have In3 := In3.below k13
        obtain ⟨_, _, _⟩ := id In3
        have qIn3 := In3.lt
        clear k13
        go_wp2_with fail
        refine (alive_any _).mono ?_
        rintro e y20 ⟨rfl, k20⟩
        have h20 := bstep h13 k20
        clear k20
        go_wp2
        go_ret
        exact ⟨rfl, h20⟩
    · have Cab := Lib.hid (compare_to (show cmp a0_0 a0_1 a0_2 a1_0 a1_1 a1_2 = 1 from hn))
      have Cba := Lib.hid (compare_to (show cmp a1_0 a1_1 a1_2 a0_0 a0_1 a0_2 = -1 from hflip.trans (by omega)))
      have hne : ¬ ((a0_0, a0_1, a0_2) = (a1_0, a1_1, a1_2)) := fun h => by rw [hz.2 h] at hn; cases hn
      have hne2 : ¬ ((a1_0, a1_1, a1_2) = (a0_0, a0_1, a0_2)) := fun h => hne h.symm
      obtain ⟨j1, j2, j3⟩ : a0_0 = sj ∧ a0_1 = tj ∧ a0_2 = gj := by rw [joinT, if_neg (by rw [hn]; decide)] at hJ; simp only [Prod.mk.injEq] at hJ; exact ⟨hJ.1.symm, hJ.2.1.symm, hJ.2.2.symm⟩
      rw [hn] at htr
      clear hJ hz hn hflip
      subst j1 j2 j3
      go_wp2_with fail
      refine (Jab.out _).mono ?_
      rintro e w8 ⟨rfl, k8⟩
      have h8 := bstep h7 k8
      have In1 := In1.below k8
      have In2 := In2.below k8
      have In3 := In3.below k8
      have In5 := In.new w8 a0_0 a0_1 a0_2 _ rfl
      have In1 := In1.alloc (.cells #[.int .u64 a0_0, .string a0_1, .bool a0_2] 24)
      obtain ⟨_, _, _⟩ := id In1
      have qIn1 := In1.lt
      have In2 := In2.alloc (.cells #[.int .u64 a0_0, .string a0_1, .bool a0_2] 24)
      obtain ⟨_, _, _⟩ := id In2
      have qIn2 := In2.lt
      have In3 := In3.alloc (.cells #[.int .u64 a0_0, .string a0_1, .bool a0_2] 24)
      obtain ⟨_, _, _⟩ := id In3
      have qIn3 := In3.lt
      have h8 := balloc h8 (.cells #[.int .u64 a0_0, .string a0_1, .bool a0_2] 24)
      obtain ⟨_, _, _⟩ := id In5
      have qIn5 := In5.lt
      clear k8 Jab
      go_wp2_with fail
      refine wp_region_noPanic ?_
      refine wp_region_held_drew (S := (fun w' => w'.cell? ⟨w.heap.size, 0, none⟩ = some (.int .u64 a0_0) ∧ w'.cell? ⟨w.heap.size, 1, none⟩ = some (.string a0_1) ∧ w'.cell? ⟨w.heap.size, 2, none⟩ = some (.bool a0_2) ∧ w'.cell? ⟨w.heap.size + 1, 0, none⟩ = some (.int .u64 a1_0) ∧ w'.cell? ⟨w.heap.size + 1, 1, none⟩ = some (.string a1_1) ∧ w'.cell? ⟨w.heap.size + 1, 2, none⟩ = some (.bool a1_2) ∧ w'.cell? ⟨w.heap.size + 1 + 1, 0, none⟩ = some (.int .u64 a2_0) ∧ w'.cell? ⟨w.heap.size + 1 + 1, 1, none⟩ = some (.string a2_1) ∧ w'.cell? ⟨w.heap.size + 1 + 1, 2, none⟩ = some (.bool a2_2) ∧ w'.cell? ⟨w8.heap.size, 0, none⟩ = some (.int .u64 a0_0) ∧ w'.cell? ⟨w8.heap.size, 1, none⟩ = some (.string a0_1) ∧ w'.cell? ⟨w8.heap.size, 2, none⟩ = some (.bool a0_2))) (by kernel_rfl) (by go_keep) (fun hHeld => ?_)
      refine wpAnyH_take (i := 0) (v := ?_) (by simp only [List.getElem?_toArray, List.getElem?_cons_zero]; rfl) (by kernel_rfl) (by kernel_rfl) (by kernel_rfl) (fun _ _ _ h => h) (Or.inl ⟨by rfl, ?_⟩) (by assumption) ?_
      rotate_left
      · (intro w hSw; (try dsimp only at hSw); go_simp; try with_reducible rfl)
      try simp only [Act.put, List.setIfInBounds_toArray, List.set_cons_zero, List.set_cons_succ]
      refine wpAnyH_take (i := 1) (v := ?_) (by simp only [List.getElem?_toArray, List.getElem?_cons_succ, List.getElem?_cons_zero]; rfl) (by kernel_rfl) (by kernel_rfl) (by kernel_rfl) (fun _ _ _ h => h) (Or.inl ⟨by rfl, ?_⟩) (by assumption) ?_
      rotate_left
      · (intro w hSw; (try dsimp only at hSw); go_simp; try with_reducible rfl)
      try simp only [Act.put, List.setIfInBounds_toArray, List.set_cons_zero, List.set_cons_succ]
      refine wpAnyH_take (i := 2) (v := ?_) (by simp only [List.getElem?_toArray, List.getElem?_cons_succ, List.getElem?_cons_zero]; rfl) (by kernel_rfl) (by kernel_rfl) (by kernel_rfl) (fun _ _ _ h => h) (Or.inl ⟨by rfl, ?_⟩) (by assumption) ?_
      rotate_left
      · (intro w hSw; (try dsimp only at hSw); go_simp; try with_reducible rfl)
      try simp only [Act.put, List.setIfInBounds_toArray, List.set_cons_zero, List.set_cons_succ]
      refine wpAnyH_ready (rs := [3]) (by kernel_rfl) (by simp) ?_
      refine AllReadyH.cons (by simp only [List.getElem?_toArray, List.getElem?_cons_succ, List.getElem?_cons_zero]; rfl) (fun K hK => ?_) AllReadyH.nil
      go_simp
      go_at_call 16
      refine (Jba.out _).mono ?_
      rintro e v1 ⟨rfl, k1⟩
      go_wp2_with fail
      refine hK.out _ _ (keep4 hHeld k1) (fun hHeld => ?_)
      clear hK K
      try simp only [Act.put, List.setIfInBounds_toArray, List.set_cons_zero, List.set_cons_succ]
      refine wpAnyH_take (i := 4) (v := ?_) (by simp only [List.getElem?_toArray, List.getElem?_cons_succ, List.getElem?_cons_zero]; rfl) (by kernel_rfl) (by kernel_rfl) (by kernel_rfl) (fun _ _ _ h => h) (Or.inl ⟨by rfl, ?_⟩) (by assumption) ?_
      rotate_left
      · (intro w hSw; (try dsimp only at hSw); go_simp; try with_reducible rfl)
      try simp only [Act.put, List.setIfInBounds_toArray, List.set_cons_zero, List.set_cons_succ]
      refine wpAnyH_take (i := 5) (v := ?_) (by simp only [List.getElem?_toArray, List.getElem?_cons_succ, List.getElem?_cons_zero]; rfl) (by kernel_rfl) (by kernel_rfl) (by kernel_rfl) (fun _ _ _ h => h) (Or.inl ⟨by rfl, ?_⟩) (by assumption) ?_
      rotate_left
      · (intro w hSw; (try dsimp only at hSw); go_simp; try with_reducible rfl)
      try simp only [Act.put, List.setIfInBounds_toArray, List.set_cons_zero, List.set_cons_succ]
      refine wpAnyH_take (i := 6) (v := ?_) (by simp only [List.getElem?_toArray, List.getElem?_cons_succ, List.getElem?_cons_zero]; rfl) (by kernel_rfl) (by kernel_rfl) (by kernel_rfl) (fun _ _ _ h => h) (Or.inl ⟨by rfl, ?_⟩) (by assumption) ?_
      rotate_left
      · (intro w hSw; (try dsimp only at hSw); go_simp; try with_reducible rfl)
      try simp only [Act.put, List.setIfInBounds_toArray, List.set_cons_zero, List.set_cons_succ]
      refine wpAnyH_take (i := 7) (v := ?_) (by simp only [List.getElem?_toArray, List.getElem?_cons_succ, List.getElem?_cons_zero]; rfl) (by kernel_rfl) (by kernel_rfl) (by kernel_rfl) (fun _ _ _ h => h) (Or.inl ⟨by rfl, ?_⟩) (by assumption) ?_
      rotate_left
      · (intro w hSw; (try dsimp only at hSw); go_simp; try with_reducible rfl)
      try simp only [Act.put, List.setIfInBounds_toArray, List.set_cons_zero, List.set_cons_succ]
      refine wpAnyH_take (i := 9) (v := ?_) (by simp only [List.getElem?_toArray, List.getElem?_cons_succ, List.getElem?_cons_zero]; rfl) (by kernel_rfl) (by kernel_rfl) (by kernel_rfl) (fun _ _ _ h => h) (Or.inl ⟨by rfl, ?_⟩) (by assumption) ?_
      rotate_left
      · (intro w hSw; (try dsimp only at hSw); go_simp; try with_reducible rfl)
      try simp only [Act.put, List.setIfInBounds_toArray, List.set_cons_zero, List.set_cons_succ]
      refine wpAnyH_take (i := 10) (v := ?_) (by simp only [List.getElem?_toArray, List.getElem?_cons_succ, List.getElem?_cons_zero]; rfl) (by kernel_rfl) (by kernel_rfl) (by kernel_rfl) (fun _ _ _ h => h) (Or.inl ⟨by rfl, ?_⟩) (by assumption) ?_
      rotate_left
      · (intro w hSw; (try dsimp only at hSw); go_simp; try with_reducible rfl)
      try simp only [Act.put, List.setIfInBounds_toArray, List.set_cons_zero, List.set_cons_succ]
      refine wpAnyH_take (i := 11) (v := ?_) (by simp only [List.getElem?_toArray, List.getElem?_cons_succ, List.getElem?_cons_zero]; rfl) (by kernel_rfl) (by kernel_rfl) (by kernel_rfl) (fun _ _ _ h => h) (Or.inl ⟨by rfl, ?_⟩) (by assumption) ?_
      rotate_left
      · (intro w hSw; (try dsimp only at hSw); go_simp; try with_reducible rfl)
      try simp only [Act.put, List.setIfInBounds_toArray, List.set_cons_zero, List.set_cons_succ]
      refine wpAnyH_ready (rs := [8]) (by kernel_rfl) (by simp) ?_
      refine AllReadyH.cons (by simp only [List.getElem?_toArray, List.getElem?_cons_succ, List.getElem?_cons_zero]; rfl) (fun K hK => ?_) AllReadyH.nil
      go_simp
      go_at_call 16
      refine (Jjc.out _).mono ?_
      rintro e v2 ⟨rfl, k2⟩
      go_wp2_with fail
      refine hK.out _ _ (keep4 hHeld k2) (fun hHeld => ?_)
      clear hK K
      try simp only [Act.put, List.setIfInBounds_toArray, List.set_cons_zero, List.set_cons_succ]
      refine wpAnyH_ready (rs := [12]) (by kernel_rfl) (by simp) ?_
      refine AllReadyH.cons (by simp only [List.getElem?_toArray, List.getElem?_cons_succ, List.getElem?_cons_zero]; rfl) (fun K hK => ?_) AllReadyH.nil
      go_simp
      go_at_call 16
      refine (Jbc.out _).mono ?_
      rintro e v3 ⟨rfl, k3⟩
      go_wp2_with fail
      refine hK.out _ _ (keep4 hHeld k3) (fun hHeld => ?_)
      clear hK K
      try simp only [Act.put, List.setIfInBounds_toArray, List.set_cons_zero, List.set_cons_succ]
      refine wpAnyH_ready (rs := [13]) (by kernel_rfl) (by simp) ?_
      refine AllReadyH.cons (by simp only [List.getElem?_toArray, List.getElem?_cons_succ, List.getElem?_cons_zero]; rfl) (fun K hK => ?_) AllReadyH.nil
      go_simp
      go_at_call 16
      refine (Jay.out _).mono ?_
      rintro e v4 ⟨rfl, k4⟩
      go_wp2_with fail
      refine hK.out _ _ (keep4 hHeld k4) (fun hHeld => ?_)
      clear hK K
      try simp only [Act.put, List.setIfInBounds_toArray, List.set_cons_zero, List.set_cons_succ]
      refine wpAnyH_take (i := 14) (v := ?_) (by simp only [List.getElem?_toArray, List.getElem?_cons_succ, List.getElem?_cons_zero]; rfl) (by kernel_rfl) (by kernel_rfl) (by kernel_rfl) (fun _ _ _ h => h) (Or.inl ⟨by rfl, ?_⟩) (by assumption) ?_
      rotate_left
      · (intro w hSw; (try dsimp only at hSw); go_simp; try with_reducible rfl)
      try simp only [Act.put, List.setIfInBounds_toArray, List.set_cons_zero, List.set_cons_succ]
      refine wpAnyH_take (i := 15) (v := ?_) (by simp only [List.getElem?_toArray, List.getElem?_cons_succ, List.getElem?_cons_zero]; rfl) (by kernel_rfl) (by kernel_rfl) (by kernel_rfl) (fun _ _ _ h => h) (Or.inl ⟨by rfl, ?_⟩) (by assumption) ?_
      rotate_left
      · (intro w hSw; (try dsimp only at hSw); go_simp; try with_reducible rfl)
      try simp only [Act.put, List.setIfInBounds_toArray, List.set_cons_zero, List.set_cons_succ]
      refine wpAnyH_take (i := 16) (v := ?_) (by simp only [List.getElem?_toArray, List.getElem?_cons_succ, List.getElem?_cons_zero]; rfl) (by kernel_rfl) (by kernel_rfl) (by kernel_rfl) (fun _ _ _ h => h) (Or.inl ⟨by rfl, ?_⟩) (by assumption) ?_
      rotate_left
      · (intro w hSw; (try dsimp only at hSw); go_simp; try with_reducible rfl)
      try simp only [Act.put, List.setIfInBounds_toArray, List.set_cons_zero, List.set_cons_succ]
      refine wpAnyH_take (i := 17) (v := ?_) (by simp only [List.getElem?_toArray, List.getElem?_cons_succ, List.getElem?_cons_zero]; rfl) (by kernel_rfl) (by kernel_rfl) (by kernel_rfl) (fun _ _ _ h => h) (Or.inl ⟨by rfl, ?_⟩) (by assumption) ?_
      rotate_left
      · (intro w hSw; (try dsimp only at hSw); go_simp; try with_reducible rfl)
      try simp only [Act.put, List.setIfInBounds_toArray, List.set_cons_zero, List.set_cons_succ]
      refine wpAnyH_take (i := 18) (v := ?_) (by simp only [List.getElem?_toArray, List.getElem?_cons_succ, List.getElem?_cons_zero]; rfl) (by kernel_rfl) (by kernel_rfl) (by kernel_rfl) (fun _ _ _ h => h) (Or.inl ⟨by rfl, ?_⟩) (by assumption) ?_
      rotate_left
      · (intro w hSw; (try dsimp only at hSw); go_simp; try with_reducible rfl)
      try simp only [Act.put, List.setIfInBounds_toArray, List.set_cons_zero, List.set_cons_succ]
      refine wpAnyH_take (i := 20) (v := ?_) (by simp only [List.getElem?_toArray, List.getElem?_cons_succ, List.getElem?_cons_zero]; rfl) (by kernel_rfl) (by kernel_rfl) (by kernel_rfl) (fun _ _ _ h => h) (Or.inl ⟨by rfl, ?_⟩) (by assumption) ?_
      rotate_left
      · (intro w hSw; (try dsimp only at hSw); go_simp; try with_reducible rfl)
      try simp only [Act.put, List.setIfInBounds_toArray, List.set_cons_zero, List.set_cons_succ]
      refine wpAnyH_ready (rs := [19]) (by kernel_rfl) (by simp) ?_
      refine AllReadyH.cons (by simp only [List.getElem?_toArray, List.getElem?_cons_succ, List.getElem?_cons_zero]; rfl) (fun K hK => ?_) AllReadyH.nil
      go_simp
      go_at_call 16
      refine (Jjj.out _).mono ?_
      rintro e v5 ⟨rfl, k5⟩
      go_wp2_with fail
      refine hK.out _ _ (keep4 hHeld k5) (fun hHeld => ?_)
      clear hK K
      try simp only [Act.put, List.setIfInBounds_toArray, List.set_cons_zero, List.set_cons_succ]
      refine wpAnyH_take (i := 21) (v := ?_) (by simp only [List.getElem?_toArray, List.getElem?_cons_succ, List.getElem?_cons_zero]; rfl) (by kernel_rfl) (by kernel_rfl) (by kernel_rfl) (fun _ _ _ h => h) (Or.inl ⟨by rfl, ?_⟩) (by assumption) ?_
      rotate_left
      · (intro w hSw; (try dsimp only at hSw); go_simp; try with_reducible rfl)
      try simp only [Act.put, List.setIfInBounds_toArray, List.set_cons_zero, List.set_cons_succ]
      refine wpAnyH_take (i := 22) (v := ?_) (by simp only [List.getElem?_toArray, List.getElem?_cons_succ, List.getElem?_cons_zero]; rfl) (by kernel_rfl) (by kernel_rfl) (by kernel_rfl) (fun _ _ _ h => h) (Or.inl ⟨by rfl, ?_⟩) (by assumption) ?_
      rotate_left
      · (intro w hSw; (try dsimp only at hSw); go_simp; try with_reducible rfl)
      try simp only [Act.put, List.setIfInBounds_toArray, List.set_cons_zero, List.set_cons_succ]
      refine wpAnyH_take (i := 23) (v := ?_) (by simp only [List.getElem?_toArray, List.getElem?_cons_succ, List.getElem?_cons_zero]; rfl) (by kernel_rfl) (by kernel_rfl) (by kernel_rfl) (fun _ _ _ h => h) (Or.inl ⟨by rfl, ?_⟩) (by assumption) ?_
      rotate_left
      · (intro w hSw; (try dsimp only at hSw); go_simp; try with_reducible rfl)
      try simp only [Act.put, List.setIfInBounds_toArray, List.set_cons_zero, List.set_cons_succ]
      refine wpAnyH_take (i := 24) (v := ?_) (by simp only [List.getElem?_toArray, List.getElem?_cons_succ, List.getElem?_cons_zero]; rfl) (by kernel_rfl) (by kernel_rfl) (by kernel_rfl) (fun _ _ _ h => h) (Or.inl ⟨by rfl, ?_⟩) (by assumption) ?_
      rotate_left
      · (intro w hSw; (try dsimp only at hSw); go_simp; try with_reducible rfl)
      try simp only [Act.put, List.setIfInBounds_toArray, List.set_cons_zero, List.set_cons_succ]
      refine wpAnyH_take (i := 25) (v := ?_) (by simp only [List.getElem?_toArray, List.getElem?_cons_succ, List.getElem?_cons_zero]; rfl) (by kernel_rfl) (by kernel_rfl) (by kernel_rfl) (fun _ _ _ h => h) (Or.inl ⟨by rfl, ?_⟩) (by assumption) ?_
      rotate_left
      · (intro w hSw; (try dsimp only at hSw); go_simp; try with_reducible rfl)
      try simp only [Act.put, List.setIfInBounds_toArray, List.set_cons_zero, List.set_cons_succ]
      refine wpAnyH_take (i := 26) (v := ?_) (by simp only [List.getElem?_toArray, List.getElem?_cons_succ, List.getElem?_cons_zero]; rfl) (by kernel_rfl) (by kernel_rfl) (by kernel_rfl) (fun _ _ _ h => h) (Or.inl ⟨by rfl, ?_⟩) (by assumption) ?_
      rotate_left
      · (intro w hSw; (try dsimp only at hSw); go_simp; try with_reducible rfl)
      try simp only [Act.put, List.setIfInBounds_toArray, List.set_cons_zero, List.set_cons_succ]
      refine wpAnyH_take (i := 27) (v := ?_) (by simp only [List.getElem?_toArray, List.getElem?_cons_succ, List.getElem?_cons_zero]; rfl) (by kernel_rfl) (by kernel_rfl) (by kernel_rfl) (fun _ _ _ h => h) (Or.inl ⟨by rfl, ?_⟩) (by assumption) ?_
      rotate_left
      · (intro w hSw; (try dsimp only at hSw); go_simp; try with_reducible rfl)
      try simp only [Act.put, List.setIfInBounds_toArray, List.set_cons_zero, List.set_cons_succ]
      refine wpAnyH_take (i := 28) (v := undef) (by simp only [List.getElem?_toArray, List.getElem?_cons_succ, List.getElem?_cons_zero]; rfl) (by kernel_rfl) (by kernel_rfl) (by kernel_rfl) (fun _ _ _ h => h) (Or.inr ⟨by rfl, rfl⟩) (by assumption) ?_
      try simp only [Act.put, List.setIfInBounds_toArray, List.set_cons_zero, List.set_cons_succ]
      refine wpAnyH_take (i := 29) (v := undef) (by simp only [List.getElem?_toArray, List.getElem?_cons_succ, List.getElem?_cons_zero]; rfl) (by kernel_rfl) (by kernel_rfl) (by kernel_rfl) (fun _ _ _ h => h) (Or.inr ⟨by rfl, rfl⟩) (by assumption) ?_
      try simp only [Act.put, List.setIfInBounds_toArray, List.set_cons_zero, List.set_cons_succ]
      refine wpAnyH_take (i := 30) (v := undef) (by simp only [List.getElem?_toArray, List.getElem?_cons_succ, List.getElem?_cons_zero]; rfl) (by kernel_rfl) (by kernel_rfl) (by kernel_rfl) (fun _ _ _ h => h) (Or.inr ⟨by rfl, rfl⟩) (by assumption) ?_
      try simp only [Act.put, List.setIfInBounds_toArray, List.set_cons_zero, List.set_cons_succ]
      refine wpAnyH_take (i := 31) (v := ?_) (by simp only [List.getElem?_toArray, List.getElem?_cons_succ, List.getElem?_cons_zero]; rfl) (by kernel_rfl) (by kernel_rfl) (by kernel_rfl) (fun _ _ _ h => h) (Or.inl ⟨by rfl, ?_⟩) (by assumption) ?_
      rotate_left
      · (intro w hSw; (try dsimp only at hSw); go_simp; try with_reducible rfl)
      try simp only [Act.put, List.setIfInBounds_toArray, List.set_cons_zero, List.set_cons_succ]
      refine wpAnyH_take (i := 32) (v := ?_) (by simp only [List.getElem?_toArray, List.getElem?_cons_succ, List.getElem?_cons_zero]; rfl) (by kernel_rfl) (by kernel_rfl) (by kernel_rfl) (fun _ _ _ h => h) (Or.inl ⟨by rfl, ?_⟩) (by assumption) ?_
      rotate_left
      · (intro w hSw; (try dsimp only at hSw); go_simp; try with_reducible rfl)
      try simp only [Act.put, List.setIfInBounds_toArray, List.set_cons_zero, List.set_cons_succ]
      refine wpAnyH_done (by kernel_rfl) ?_ _
      refine NoPanic.normal ?_
      have h9 := bstep (bstep (bstep (bstep (bstep (Below.drew h8) k1) k2) k3) k4) k5
      have D9 := Below.drew (Below.refl (World.heap (w8.alloc (.cells #[.int .u64 a0_0, .string a0_1, .bool a0_2] 24))).size (w8.alloc (.cells #[.int .u64 a0_0, .string a0_1, .bool a0_2] 24)))
      have In1 := ((((((In1.below D9).below k1).below k2).below k3).below k4).below k5)
      obtain ⟨_, _, _⟩ := id In1
      have qIn1 := In1.lt
      have In2 := ((((((In2.below D9).below k1).below k2).below k3).below k4).below k5)
      obtain ⟨_, _, _⟩ := id In2
      have qIn2 := In2.lt
      have In3 := ((((((In3.below D9).below k1).below k2).below k3).below k4).below k5)
      obtain ⟨_, _, _⟩ := id In3
      have qIn3 := In3.lt
      clear k1 k2 k3 k4 k5 hHeld Jba Jjc Jbc Jay Jjj
      go_wp2_with fail
      have hwr : IntKind.i64.wrap (1) = 1 := by decide
      have hwr2 : IntKind.i64.wrap (-(-1)) = 1 := by decide
      refine wp_region_noPanic ?_
      refine wp_region_held_drew (S := (fun w' => w'.cell? ⟨w.heap.size, 0, none⟩ = some (.int .u64 a0_0) ∧ w'.cell? ⟨w.heap.size, 1, none⟩ = some (.string a0_1) ∧ w'.cell? ⟨w.heap.size, 2, none⟩ = some (.bool a0_2) ∧ w'.cell? ⟨w.heap.size + 1, 0, none⟩ = some (.int .u64 a1_0) ∧ w'.cell? ⟨w.heap.size + 1, 1, none⟩ = some (.string a1_1) ∧ w'.cell? ⟨w.heap.size + 1, 2, none⟩ = some (.bool a1_2) ∧ w'.cell? ⟨w.heap.size + 1 + 1, 0, none⟩ = some (.int .u64 a2_0) ∧ w'.cell? ⟨w.heap.size + 1 + 1, 1, none⟩ = some (.string a2_1) ∧ w'.cell? ⟨w.heap.size + 1 + 1, 2, none⟩ = some (.bool a2_2))) (by kernel_rfl) (by go_keep) (fun hHeld => ?_)
      refine wpAnyH_take (i := 0) (v := ?_) (by simp only [List.getElem?_toArray, List.getElem?_cons_zero]; rfl) (by kernel_rfl) (by kernel_rfl) (by kernel_rfl) (fun _ _ _ h => h) (Or.inl ⟨by rfl, ?_⟩) (by assumption) ?_
      rotate_left
      · (intro w hSw; (try dsimp only at hSw); go_simp; (try rw [cells_ne (by assumption)]); try with_reducible rfl)
      try simp only [Act.put, List.setIfInBounds_toArray, List.set_cons_zero, List.set_cons_succ]
      refine wpAnyH_take (i := 1) (v := ?_) (by simp only [List.getElem?_toArray, List.getElem?_cons_succ, List.getElem?_cons_zero]; rfl) (by kernel_rfl) (by kernel_rfl) (by kernel_rfl) (fun _ _ _ h => h) (Or.inl ⟨by rfl, ?_⟩) (by assumption) ?_
      rotate_left
      · (intro w hSw; (try dsimp only at hSw); go_simp; (try rw [cells_ne (by assumption)]); try with_reducible rfl)
      try simp only [Act.put, List.setIfInBounds_toArray, List.set_cons_zero, List.set_cons_succ]
      refine wpAnyH_take (i := 3) (v := ?_) (by simp only [List.getElem?_toArray, List.getElem?_cons_succ, List.getElem?_cons_zero]; rfl) (by kernel_rfl) (by kernel_rfl) (by kernel_rfl) (fun _ _ _ h => h) (Or.inl ⟨by rfl, ?_⟩) (by assumption) ?_
      rotate_left
      · (intro w hSw; (try dsimp only at hSw); go_simp; (try rw [cells_ne (by assumption)]); try with_reducible rfl)
      try simp only [Act.put, List.setIfInBounds_toArray, List.set_cons_zero, List.set_cons_succ]
      refine wpAnyH_take (i := 4) (v := ?_) (by simp only [List.getElem?_toArray, List.getElem?_cons_succ, List.getElem?_cons_zero]; rfl) (by kernel_rfl) (by kernel_rfl) (by kernel_rfl) (fun _ _ _ h => h) (Or.inl ⟨by rfl, ?_⟩) (by assumption) ?_
      rotate_left
      · (intro w hSw; (try dsimp only at hSw); go_simp; (try rw [cells_ne (by assumption)]); try with_reducible rfl)
      try simp only [Act.put, List.setIfInBounds_toArray, List.set_cons_zero, List.set_cons_succ]
      refine wpAnyH_ready (rs := [2]) (by kernel_rfl) (by simp) ?_
      refine AllReadyH.cons (by simp only [List.getElem?_toArray, List.getElem?_cons_succ, List.getElem?_cons_zero]; rfl) (fun K hK => ?_) AllReadyH.nil
      go_simp
      go_at_call 14
      refine (Cab.out _).mono ?_
      rintro e v1 ⟨rfl, k1⟩
      go_wp2_with fail
      refine hK.out _ _ (keep3 hHeld k1) (fun hHeld => ?_)
      clear hK K
      try simp only [Act.put, List.setIfInBounds_toArray, List.set_cons_zero, List.set_cons_succ]
      refine wpAnyH_ready (rs := [5]) (by kernel_rfl) (by simp) ?_
      refine AllReadyH.cons (by simp only [List.getElem?_toArray, List.getElem?_cons_succ, List.getElem?_cons_zero]; rfl) (fun K hK => ?_) AllReadyH.nil
      go_simp
      go_at_call 14
      refine (Cba.out _).mono ?_
      rintro e v2 ⟨rfl, k2⟩
      go_wp2_with fail
      refine hK.out _ _ (keep3 hHeld k2) (fun hHeld => ?_)
      clear hK K
      try simp only [Act.put, List.setIfInBounds_toArray, List.set_cons_zero, List.set_cons_succ]
      refine wpAnyH_take (i := 6) (v := ?_) (by simp only [List.getElem?_toArray, List.getElem?_cons_succ, List.getElem?_cons_zero]; rfl) (by kernel_rfl) (by kernel_rfl) (by kernel_rfl) (fun _ _ _ h => h) (Or.inl ⟨by rfl, ?_⟩) (by assumption) ?_
      rotate_left
      · (intro w hSw; (try dsimp only at hSw); go_simp; (try rw [cells_ne (by assumption)]); try with_reducible rfl)
      try simp only [Act.put, List.setIfInBounds_toArray, List.set_cons_zero, List.set_cons_succ]
      refine wpAnyH_take (i := 7) (v := ?_) (by simp only [List.getElem?_toArray, List.getElem?_cons_succ, List.getElem?_cons_zero]; rfl) (by kernel_rfl) (by kernel_rfl) (by kernel_rfl) (fun _ _ _ h => h) (Or.inl ⟨by rfl, ?_⟩) (by assumption) ?_
      rotate_left
      · (intro w hSw; (try dsimp only at hSw); go_simp; (try rw [cells_ne (by assumption)]); try with_reducible rfl)
      try simp only [Act.put, List.setIfInBounds_toArray, List.set_cons_zero, List.set_cons_succ]
      refine wpAnyH_take (i := 8) (v := ?_) (by simp only [List.getElem?_toArray, List.getElem?_cons_succ, List.getElem?_cons_zero]; rfl) (by kernel_rfl) (by kernel_rfl) (by kernel_rfl) (fun _ _ _ h => h) (Or.inl ⟨by rfl, ?_⟩) (by assumption) ?_
      rotate_left
      · (intro w hSw; (try dsimp only at hSw); go_simp; (try rw [cells_ne (by assumption)]); try with_reducible rfl)
      try simp only [Act.put, List.setIfInBounds_toArray, List.set_cons_zero, List.set_cons_succ]
      refine wpAnyH_take (i := 9) (v := ?_) (by simp only [List.getElem?_toArray, List.getElem?_cons_succ, List.getElem?_cons_zero]; rfl) (by kernel_rfl) (by kernel_rfl) (by kernel_rfl) (fun _ _ _ h => h) (Or.inl ⟨by rfl, ?_⟩) (by assumption) ?_
      rotate_left
      · (intro w hSw; (try dsimp only at hSw); go_simp; (try rw [cells_ne (by assumption)]); try with_reducible rfl)
      try simp only [Act.put, List.setIfInBounds_toArray, List.set_cons_zero, List.set_cons_succ]
      refine wpAnyH_take (i := 10) (v := ?_) (by simp only [List.getElem?_toArray, List.getElem?_cons_succ, List.getElem?_cons_zero]; rfl) (by kernel_rfl) (by kernel_rfl) (by kernel_rfl) (fun _ _ _ h => h) (Or.inl ⟨by rfl, ?_⟩) (by assumption) ?_
      rotate_left
      · (intro w hSw; (try dsimp only at hSw); go_simp; (try rw [cells_ne (by assumption)]); try with_reducible rfl)
      try simp only [Act.put, List.setIfInBounds_toArray, List.set_cons_zero, List.set_cons_succ]
      refine wpAnyH_take (i := 13) (v := ?_) (by simp only [List.getElem?_toArray, List.getElem?_cons_succ, List.getElem?_cons_zero]; rfl) (by kernel_rfl) (by kernel_rfl) (by kernel_rfl) (fun _ _ _ h => h) (Or.inl ⟨by rfl, ?_⟩) (by assumption) ?_
      rotate_left
      · (intro w hSw; (try dsimp only at hSw); go_simp; (try rw [cells_ne (by assumption)]); try with_reducible rfl)
      try simp only [Act.put, List.setIfInBounds_toArray, List.set_cons_zero, List.set_cons_succ]
      refine wpAnyH_take (i := 14) (v := ?_) (by simp only [List.getElem?_toArray, List.getElem?_cons_succ, List.getElem?_cons_zero]; rfl) (by kernel_rfl) (by kernel_rfl) (by kernel_rfl) (fun _ _ _ h => h) (Or.inl ⟨by rfl, ?_⟩) (by assumption) ?_
      rotate_left
      · (intro w hSw; (try dsimp only at hSw); go_simp; (try rw [cells_ne (by assumption)]); try with_reducible rfl)
      try simp only [Act.put, List.setIfInBounds_toArray, List.set_cons_zero, List.set_cons_succ]
      refine wpAnyH_take (i := 15) (v := ?_) (by simp only [List.getElem?_toArray, List.getElem?_cons_succ, List.getElem?_cons_zero]; rfl) (by kernel_rfl) (by kernel_rfl) (by kernel_rfl) (fun _ _ _ h => h) (Or.inl ⟨by rfl, ?_⟩) (by assumption) ?_
      rotate_left
      · (intro w hSw; (try dsimp only at hSw); go_simp; (try rw [cells_ne (by assumption)]); try with_reducible rfl)
      try simp only [Act.put, List.setIfInBounds_toArray, List.set_cons_zero, List.set_cons_succ]
      refine wpAnyH_ready (rs := [11]) (by kernel_rfl) (by simp) ?_
      refine AllReadyH.cons (by simp only [List.getElem?_toArray, List.getElem?_cons_succ, List.getElem?_cons_zero]; rfl) (fun K hK => ?_) AllReadyH.nil
      go_simp
      go_at_call 14
      refine (Cab.out _).mono ?_
      rintro e v3 ⟨rfl, k3⟩
      go_wp2_with fail
      refine hK.out _ _ (keep3 hHeld k3) (fun hHeld => ?_)
      clear hK K
      try simp only [Act.put, List.setIfInBounds_toArray, List.set_cons_zero, List.set_cons_succ]
      refine wpAnyH_take (i := 12) (v := ?_) (by simp only [List.getElem?_toArray, List.getElem?_cons_succ, List.getElem?_cons_zero]; rfl) (by kernel_rfl) (by kernel_rfl) (by kernel_rfl) (fun _ _ _ h => h) (Or.inl ⟨by rfl, ?_⟩) (by assumption) ?_
      rotate_left
      · (intro w hSw; (try dsimp only at hSw); go_simp; (try rw [cells_ne (by assumption)]); try with_reducible rfl)
      try simp only [Act.put, List.setIfInBounds_toArray, List.set_cons_zero, List.set_cons_succ]
      refine wpAnyH_take (i := 16) (v := ?_) (by simp only [List.getElem?_toArray, List.getElem?_cons_succ, List.getElem?_cons_zero]; rfl) (by kernel_rfl) (by kernel_rfl) (by kernel_rfl) (fun _ _ _ h => h) (Or.inl ⟨by rfl, ?_⟩) (by assumption) ?_
      rotate_left
      · (intro w hSw; (try dsimp only at hSw); go_simp; (try rw [cells_ne (by assumption)]); try with_reducible rfl)
      try simp only [Act.put, List.setIfInBounds_toArray, List.set_cons_zero, List.set_cons_succ]
      refine wpAnyH_take (i := 17) (v := ?_) (by simp only [List.getElem?_toArray, List.getElem?_cons_succ, List.getElem?_cons_zero]; rfl) (by kernel_rfl) (by kernel_rfl) (by kernel_rfl) (fun _ _ _ h => h) (Or.inl ⟨by rfl, ?_⟩) (by assumption) ?_
      rotate_left
      · (intro w hSw; (try dsimp only at hSw); go_simp; (try rw [cells_ne (by assumption)]); try with_reducible rfl)
      try simp only [Act.put, List.setIfInBounds_toArray, List.set_cons_zero, List.set_cons_succ]
      refine wpAnyH_done (by kernel_rfl) ?_ _
      refine NoPanic.normal ?_
      have h10 := bstep (bstep (bstep (Below.drew h9) k1) k2) k3
      have D10 := Below.drew (Below.refl v5.heap.size v5)
      have In1 := ((((In1.below D10).below k1).below k2).below k3)
      obtain ⟨_, _, _⟩ := id In1
      have qIn1 := In1.lt
      have In2 := ((((In2.below D10).below k1).below k2).below k3)
      obtain ⟨_, _, _⟩ := id In2
      have qIn2 := In2.lt
      have In3 := ((((In3.below D10).below k1).below k2).below k3)
      obtain ⟨_, _, _⟩ := id In3
      have qIn3 := In3.lt
      clear k1 k2 k3 hHeld
      go_wp2_with fail
      refine (Cab.out _).mono ?_
      rintro e y11 ⟨rfl, k11⟩
      have h11 := bstep h10 k11
      have In1 := In1.below k11
      obtain ⟨_, _, _⟩ := id In1
      have qIn1 := In1.lt
      have In2 := In2.below k11
      obtain ⟨_, _, _⟩ := id In2
      have qIn2 := In2.lt
      have In3 := In3.below k11
      obtain ⟨_, _, _⟩ := id In3
      have qIn3 := In3.lt
      clear k11
      go_wp2_with fail
      refine (alive_any _).mono ?_
      rintro e y20 ⟨rfl, k20⟩
      have h20 := bstep h11 k20
      clear k20
      go_wp2
      go_ret
      exact ⟨rfl, h20⟩

end Go.Proofs.Ytenbhmickdokbaa.CellLast
