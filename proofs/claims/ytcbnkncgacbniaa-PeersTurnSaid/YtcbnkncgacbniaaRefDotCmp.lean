
/- the reference of dots: Compare, Same, May. -/
import Derived.Test.YtcbnkncgacbniaaRefDotOf
namespace Go.Proofs.Ytcbnkncgacbniaa
namespace RefDots
open Go.RowKit Go.Proofs.Ytcbnkncgacbniaa.Mark Go.Proofs.Ytcbnkncgacbniaa.Dots

instance : DecidableEq M := fun a b => if h : a.p = b.p ∧ a.n = b.n then .isTrue (M.ext' h.1 h.2) else .isFalse (fun e => h (by rw [e]; exact ⟨rfl, rfl⟩))
theorem eqM_iff (m k : M) : (m.p == k.p && (m.n : Int) == (k.n : Int)) = decide (m = k) := by
  by_cases h : m = k
  · subst h; simp
  · rw [decide_eq_false h]
    cases h1 : (m.p == k.p) with
    | false => rfl
    | true =>
      have e1 : m.p = k.p := by simpa using h1
      have : m.n ≠ k.n := fun e => h (M.ext' e1 e)
      simp; omega
theorem neq_mark (m k : M) (w : World) : (binOp .neq 55 (.agg #[.string ⟨m.p.toArray⟩, .int .u64 (m.n : Int)]) (.agg #[.string ⟨k.p.toArray⟩, .int .u64 (k.n : Int)])).run Try.prog w = .ok (.bool (!decide (m = k))) w := by
  rw [run_neq_struct]
  have h := eql_of 55 rfl (by kernel_rfl) m k w
  rw [eqM_iff] at h
  unfold M.cells at h
  rw [h]; rfl
theorem cmpD_ways (a b : M) : cmpD a b = if (Op.bytesLess a.p b.p || (a.p == b.p && decide (a.n < b.n))) then -1 else if a = b then 0 else 1 := by
  unfold cmpD
  rcases Order.cmp_ways a.p b.p with h | h | h
  · have hl : Op.bytesLess a.p b.p = true := by
      cases h' : Op.bytesLess a.p b.p with
      | true => rfl
      | false =>
        have hne : a.p ≠ b.p := fun e => by rw [e, Order.cmp_self] at h; omega
        have := Order.cmp_more _ _ hne h'; omega
    rw [hl, h]; rfl
  · have e := Order.cmp_zero _ _ h
    have hl : Op.bytesLess a.p b.p = false := by
      cases h' : Op.bytesLess a.p b.p with
      | false => rfl
      | true => have := Order.cmp_less _ _ h'; omega
    rw [hl, h, if_neg (by omega), Bool.false_or, e, beq_self_eq_true, Bool.true_and]
    unfold cmpI
    by_cases h1 : a.n < b.n
    · rw [if_pos h1, if_pos (decide_eq_true h1)]
    · rw [if_neg h1, if_neg (show ¬ decide (a.n < b.n) = true by rw [decide_eq_true_eq]; exact h1)]
      by_cases h2 : b.n < a.n
      · rw [if_pos h2, if_neg (fun e' => by rw [e'] at h2; omega)]
      · rw [if_neg h2, if_pos (M.ext' e (by omega))]
  · have hl : Op.bytesLess a.p b.p = false := by
      cases h' : Op.bytesLess a.p b.p with
      | false => rfl
      | true => have := Order.cmp_less _ _ h'; omega
    have hne : a.p ≠ b.p := fun e => by rw [e, Order.cmp_self] at h; omega
    have l1 : (a.p == b.p) = false := by rw [beq_eq_false_iff_ne]; exact hne
    rw [hl, h, l1, if_pos (by omega), if_neg (by rw [Bool.false_or, Bool.false_and]; decide), if_neg (fun e => hne (by rw [e]))]

end RefDots
end Go.Proofs.Ytcbnkncgacbniaa
