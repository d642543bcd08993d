/- MsgKinds in plain words. -/
import Derived.Test.YtcfimfoccbaepaaDoorMsgProbe
namespace Go.Proofs.YtcfimfoccbaepaaDoor
namespace Msg
open Go.RowKit Go.Proofs.YtcfimfoccbaepaaDoor.Mark Go.Proofs.YtcfimfoccbaepaaDoor.Num Go.Proofs.YtcfimfoccbaepaaDoor.Wire

theorem may_shape {m : G} (h : mayM m = true) : shapeB m = true := by
  unfold mayM fitsB at h
  simp only [Bool.and_eq_true] at h
  exact h.1.2.2.2.2
theorem no_shape {m : G} (h : shapeB m = false) : mayM m = false := by
  cases e : mayM m with
  | false => rfl
  | true => rw [may_shape e] at h; cases h
theorem shape_kind {m : G} (h : shapeB m = true) : m.kind = 1 ∨ m.kind = 2 ∨ m.kind = 3 ∨ m.kind = 4 := by
  unfold shapeB at h
  by_cases k1 : m.kind = 1
  · exact Or.inl k1
  by_cases k2 : m.kind = 2
  · exact Or.inr (Or.inl k2)
  by_cases k3 : m.kind = 3
  · exact Or.inr (Or.inr (Or.inl k3))
  by_cases k4 : m.kind = 4
  · exact Or.inr (Or.inr (Or.inr k4))
  rw [if_neg k1, if_neg k2, if_neg k3, if_neg k4] at h; cases h
theorem kind_part {m x : G} (hx : mayM x = true) (h : m.kind ≠ 1) (h1 : x.kind = 1) :
    mayM { m with id := x.id, i := x.i, n := x.n, tx := x.tx } = false := by
  apply no_shape
  have sx := may_shape hx
  unfold shapeB at sx ⊢
  rw [if_pos h1] at sx
  simp only [Bool.and_eq_true, mayPartB, decide_eq_true_eq] at sx
  have hno : noPart x.id x.i x.n x.tx = false := by
    unfold noPart
    exact decide_eq_false (fun e => by have := sx.2.2.1; omega)
  simp only [if_neg h, hno, Bool.and_false]
  repeat' split
  all_goals rfl
theorem kind_fr {m x : G} (hm : mayM m = true) (h : m.kind ≤ 2) (h1 : x.fr ≠ []) : mayM { m with fr := x.fr } = false := by
  apply no_shape
  have sk := shape_kind (may_shape hm)
  have hf : (x.fr == []) = false := by rw [beq_eq_false_iff_ne]; exact h1
  unfold shapeB
  by_cases k1 : m.kind = 1
  · simp only [if_pos k1, hf, Bool.false_and]
  · have k2 : m.kind = 2 := by omega
    simp only [if_neg k1, if_pos k2, hf, Bool.false_and]
theorem kind_all {m x : G} (h : m.kind = 2 ∨ m.kind = 3) (h1 : 0 < x.all.length) : mayM { m with all := x.all } = false := by
  apply no_shape
  have hf : decide (x.all.length = 0) = false := decide_eq_false (by omega)
  unfold shapeB
  rcases h with k | k
  · simp only [if_neg (show ¬ m.kind = 1 by omega), if_pos k, hf, Bool.false_and, Bool.and_false]
  · simp only [if_neg (show ¬ m.kind = 1 by omega), if_neg (show ¬ m.kind = 2 by omega), if_pos k, hf, Bool.false_and, Bool.and_false]
theorem kind_seq {m x : G} (h : m.kind = 1) (h1 : 0 < x.seq) : mayM { m with seq := x.seq } = false := by
  apply no_shape
  have hf : decide (x.seq = 0) = false := decide_eq_false (by omega)
  unfold shapeB
  simp only [if_pos h, hf, Bool.false_and, Bool.and_false]
theorem kind_zero (m : G) : mayM { m with kind := 0 } = false := by
  apply no_shape
  unfold shapeB
  simp only [if_neg (show ¬ (0 : Nat) = 1 by decide), if_neg (show ¬ (0 : Nat) = 2 by decide), if_neg (show ¬ (0 : Nat) = 3 by decide), if_neg (show ¬ (0 : Nat) = 4 by decide)]

end Msg
end Go.Proofs.YtcfimfoccbaepaaDoor
