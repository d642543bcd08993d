/- The order of paths, and who is under whom: in plain Lean. -/
import Derived.Test.YtagpbhghmhamdaaDoorPathAlive
import Derived.Test.YtagpbhghmhamdaaDoorOrder
namespace Go.Proofs.YtagpbhghmhamdaaDoor
namespace Path

theorem cmpL_ways : ∀ l r, cmpL l r = -1 ∨ cmpL l r = 0 ∨ cmpL l r = 1
  | [], [] => .inr (.inl rfl)
  | [], _ :: _ => .inl rfl
  | _ :: _, [] => .inr (.inr rfl)
  | x :: l, y :: r => by
    rw [cmpL]; split
    · exact .inl rfl
    split
    · exact .inr (.inr rfl)
    · exact cmpL_ways l r
theorem cmpL_flip : ∀ l r, cmpL l r = -cmpL r l
  | [], [] => rfl
  | [], _ :: _ => rfl
  | _ :: _, [] => rfl
  | x :: l, y :: r => by
    rw [cmpL, cmpL, cmpL_flip l r]
    split
    · rw [if_neg (by omega)]
    · split <;> rfl
theorem cmpL_self : ∀ l, cmpL l l = 0
  | [] => rfl
  | x :: l => by rw [cmpL, if_neg (Nat.lt_irrefl x), if_neg (Nat.lt_irrefl x)]; exact cmpL_self l
theorem cmpL_zero : ∀ l r, cmpL l r = 0 → l = r
  | [], [], _ => rfl
  | [], _ :: _, h => by simp [cmpL] at h
  | _ :: _, [], h => by simp [cmpL] at h
  | x :: l, y :: r, h => by
    rw [cmpL] at h
    split at h
    · cases h
    split at h
    · cases h
    · rw [show x = y by omega, cmpL_zero l r h]
theorem cmpL_trans : ∀ a b c, cmpL a b ≤ 0 → cmpL b c ≤ 0 → cmpL a c ≤ 0
  | [], _, [], _, _ => by decide
  | [], _, _ :: _, _, _ => by simp [cmpL]
  | _ :: _, [], _, h, _ => by simp [cmpL] at h
  | _ :: _, _ :: _, [], _, h => by simp [cmpL] at h
  | a :: ta, b :: tb, c :: tc, h1, h2 => by
    have ih := cmpL_trans ta tb tc
    rw [cmpL] at h1 h2 ⊢
    split at h1
    · split at h2
      · rw [if_pos (by omega)]; decide
      split at h2
      · omega
      · rw [if_pos (by omega)]; decide
    split at h1
    · omega
    split at h2
    · rw [if_pos (by omega)]; decide
    split at h2
    · omega
    rw [if_neg (by omega), if_neg (by omega)]
    exact ih h1 h2

/-- m, and more behind it. -/
def Pre (m l : List Nat) : Prop := m ≠ [] ∧ ∃ s, s ≠ [] ∧ l = m ++ s
theorem under_iff (l m : List Nat) : under l m = true ↔ Pre m l := by
  unfold under Pre
  rw [Bool.and_eq_true, Bool.and_eq_true, decide_eq_true_eq, decide_eq_true_eq, decide_eq_true_eq]
  constructor
  · rintro ⟨h1, h2, h3⟩
    refine ⟨List.length_pos_iff.1 h1, l.drop m.length, ?_, ?_⟩
    · intro e; have := congrArg List.length e; simp at this; omega
    · conv => lhs; rw [← List.take_append_drop m.length l, h3]
  · rintro ⟨h1, s, h2, rfl⟩
    have := List.length_pos_iff.2 h1
    have := List.length_pos_iff.2 h2
    exact ⟨by omega, by simp; omega, List.take_left⟩
theorem cmpL_pre : ∀ (m s : List Nat), s ≠ [] → cmpL m (m ++ s) = -1
  | [], [], h => absurd rfl h
  | [], _ :: _, _ => rfl
  | x :: m, s, h => by rw [List.cons_append, cmpL, if_neg (by omega), if_neg (by omega)]; exact cmpL_pre m s h
theorem pre_between : ∀ (a b s : List Nat), cmpL a b < 0 → cmpL b (a ++ s) < 0 → ∃ t, t ≠ [] ∧ b = a ++ t
  | [], [], _, h, _ => by simp [cmpL] at h
  | [], y :: b, _, _, _ => ⟨y :: b, by simp, rfl⟩
  | _ :: _, [], _, h, _ => by simp [cmpL] at h
  | x :: a, y :: b, s, h1, h2 => by
    rw [List.cons_append] at h2
    rw [cmpL] at h1 h2
    split at h1
    · rw [if_neg (by omega), if_pos (by omega)] at h2; omega
    split at h1
    · omega
    rw [if_neg (by omega), if_neg (by omega)] at h2
    obtain ⟨t, h3, h4⟩ := pre_between a b s h1 h2
    exact ⟨t, h3, by rw [h4, show x = y by omega]; rfl⟩

theorem cmpP_ways (a b : List UInt8) : cmpP a b = -1 ∨ cmpP a b = 0 ∨ cmpP a b = 1 := by
  unfold cmpP
  split
  · split
    · exact Order.cmp_ways a b
    · exact .inl rfl
  · split
    · exact .inr (.inr rfl)
    · exact cmpL_ways _ _
theorem cmpP_flip (a b : List UInt8) : cmpP a b = -cmpP b a := by
  unfold cmpP
  split
  · split
    · exact Order.cmp_flip a b
    · rfl
  · split
    · rfl
    · exact cmpL_flip _ _
theorem cmpP_self (a : List UInt8) : cmpP a a = 0 := by
  unfold cmpP
  split
  · exact Order.cmp_self a
  · exact cmpL_self _
theorem cmpP_zero (a b : List UInt8) (h : cmpP a b = 0) : a = b := by
  unfold cmpP at h
  split at h
  · split at h
    · exact Order.cmp_zero a b h
    · cases h
  · split at h
    · cases h
    · rename_i h1 _; exact parse_inj h1 (cmpL_zero _ _ h)
theorem cmpP_trans (a b c : List UInt8) (h1 : cmpP a b ≤ 0) (h2 : cmpP b c ≤ 0) : cmpP a c ≤ 0 := by
  unfold cmpP at h1 h2 ⊢
  by_cases ea : parse a = [] <;> by_cases eb : parse b = [] <;> by_cases ec : parse c = [] <;> simp only [ea, eb, ec, if_true, if_false] at h1 h2 ⊢ <;> first
    | exact Order.cmp_trans a b c h1 h2
    | exact cmpL_trans _ _ _ h1 h2
    | omega
theorem cmpP_under {a b : List UInt8} (h : under (parse b) (parse a) = true) : cmpP a b = -1 := by
  obtain ⟨h1, s, h2, h3⟩ := (under_iff _ _).1 h
  rw [cmpP, if_neg h1, if_neg (by rw [h3]; simp [h1]), h3]
  exact cmpL_pre _ _ h2
theorem under_self (l : List Nat) : under l l = false := by
  simp [under]
theorem under_mid {a b c : List UInt8} (h : under (parse c) (parse a) = true) (h1 : cmpP a b < 0) (h2 : cmpP b c < 0) : under (parse b) (parse a) = true := by
  obtain ⟨ha, s, hs, hc⟩ := (under_iff _ _).1 h
  have hcn : parse c ≠ [] := by rw [hc]; simp [ha]
  rw [cmpP, if_neg ha] at h1
  by_cases hb : parse b = []
  · rw [if_pos hb] at h1; omega
  rw [if_neg hb] at h1
  rw [cmpP, if_neg hb, if_neg hcn, hc] at h2
  exact (under_iff _ _).2 ⟨ha, pre_between _ _ _ h1 h2⟩

end Path
end Go.Proofs.YtagpbhghmhamdaaDoor
