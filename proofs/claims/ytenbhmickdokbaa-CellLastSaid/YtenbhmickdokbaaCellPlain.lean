/- The order of cells, and joins, in plain Lean. -/
import Derived.Test.YtenbhmickdokbaaCellRef
namespace Go.Proofs.Ytenbhmickdokbaa
namespace Cell

abbrev C := Int × ByteArray × Bool
def cmpT (a b : C) : Int := cmp a.1 a.2.1 a.2.2 b.1 b.2.1 b.2.2
def joinT (a b : C) : C := if cmpT a b < 0 then b else a
theorem later_joinT (a b : C) : later a.1 a.2.1 a.2.2 b.1 b.2.1 b.2.2 = joinT a b := rfl

theorem ord_flip (a b : Int) : ord a b = -ord b a := by unfold ord; split <;> split <;> first | omega | (split <;> omega) | rfl
theorem ord_zero {a b : Int} : ord a b = 0 ↔ a = b := by unfold ord; split; omega; split <;> omega
theorem ci_flip (a b : Int) : Lib.compareInt a b = -Lib.compareInt b a := by unfold Lib.compareInt; split <;> split <;> first | omega | (split <;> omega) | rfl
theorem ci_zero {g g' : Bool} : Lib.compareInt (th g) (th g') = 0 ↔ g = g' := by cases g <;> cases g' <;> decide

theorem cmpT_flip (a b : C) : cmpT a b = -cmpT b a := by
  unfold cmpT cmp
  have h1 := ord_flip a.1 b.1
  have h2 := ci_flip (th a.2.2) (th b.2.2)
  have h3 := Order.cmp_flip a.2.1.data.toList b.2.1.data.toList
  by_cases k1 : ord a.1 b.1 = 0
  · rw [if_pos k1, if_pos (show ord b.1 a.1 = 0 by omega)]
    by_cases k2 : Lib.compareInt (th a.2.2) (th b.2.2) = 0
    · rw [if_pos k2, if_pos (show Lib.compareInt (th b.2.2) (th a.2.2) = 0 by omega)]; exact h3
    · rw [if_neg k2, if_neg (show Lib.compareInt (th b.2.2) (th a.2.2) ≠ 0 by omega)]; exact h2
  · rw [if_neg k1, if_neg (show ord b.1 a.1 ≠ 0 by omega)]; exact h1
theorem cmpT_zero {a b : C} : cmpT a b = 0 ↔ a = b := by
  obtain ⟨s, t, g⟩ := a
  obtain ⟨s', t', g'⟩ := b
  unfold cmpT cmp
  constructor
  · intro h
    split at h
    · rename_i h1
      split at h
      · rename_i h2
        have e1 := ord_zero.1 h1
        have e2 := ci_zero.1 h2
        have e3 := Order.cmp_zero _ _ h
        simp only at e1 e2 e3
        rw [e1, e2, Str.ext e3]
      · rename_i h2; exact absurd h h2
    · rename_i h1; exact absurd h h1
  · intro h
    cases h
    rw [if_pos (ord_self s), if_pos (ci_zero.2 rfl)]
    exact Order.cmp_self _
theorem cmpT_le {a b : C} : cmpT a b ≤ 0 ↔ a.1 < b.1 ∨ (a.1 = b.1 ∧ (th a.2.2 < th b.2.2 ∨ (a.2.2 = b.2.2 ∧ Lib.compareBytes a.2.1.data.toList b.2.1.data.toList ≤ 0))) := by
  obtain ⟨s, t, g⟩ := a
  obtain ⟨s', t', g'⟩ := b
  unfold cmpT cmp
  simp only
  by_cases h1 : s < s'
  · rw [if_neg (by rw [ord_lt h1]; decide), ord_lt h1]
    exact ⟨fun _ => .inl h1, fun _ => by decide⟩
  by_cases h2 : s' < s
  · rw [if_neg (by rw [ord_gt h2]; decide), ord_gt h2]
    exact ⟨fun h => by omega, fun h => by omega⟩
  obtain rfl : s = s' := by omega
  rw [if_pos (ord_self s)]
  cases g <;> cases g'
  · rw [if_pos (by decide)]; exact ⟨fun h => .inr ⟨rfl, .inr ⟨rfl, h⟩⟩, fun h => by rcases h with h | ⟨_, h | ⟨_, h⟩⟩; omega; exact absurd h (by decide); exact h⟩
  · rw [if_neg (by decide)]; exact ⟨fun h => absurd h (by decide), fun h => by rcases h with h | ⟨_, h | ⟨h, _⟩⟩; omega; exact absurd h (by decide); cases h⟩
  · rw [if_neg (by decide)]; exact ⟨fun _ => .inr ⟨rfl, .inl (by decide)⟩, fun _ => by decide⟩
  · rw [if_pos (by decide)]; exact ⟨fun h => .inr ⟨rfl, .inr ⟨rfl, h⟩⟩, fun h => by rcases h with h | ⟨_, h | ⟨_, h⟩⟩; omega; exact absurd h (by decide); exact h⟩
theorem cmpT_trans {a b c : C} (h1 : cmpT a b ≤ 0) (h2 : cmpT b c ≤ 0) : cmpT a c ≤ 0 := by
  rw [cmpT_le] at h1 h2 ⊢
  rcases h1 with h1 | ⟨h1, h1'⟩
  · rcases h2 with h2 | ⟨h2, _⟩
    · exact .inl (by omega)
    · exact .inl (by omega)
  rcases h2 with h2 | ⟨h2, h2'⟩
  · exact .inl (by omega)
  refine .inr ⟨by omega, ?_⟩
  rcases h1' with h1' | ⟨h1', h1''⟩
  · rcases h2' with h2' | ⟨h2', _⟩
    · exact .inl (by omega)
    · exact .inl (by rw [← h2']; exact h1')
  rcases h2' with h2' | ⟨h2', h2''⟩
  · exact .inl (by rw [h1']; exact h2')
  exact .inr ⟨by rw [h1', h2'], Order.cmp_trans _ _ _ h1'' h2''⟩
theorem cmpT_ways (a b : C) : cmpT a b = -1 ∨ cmpT a b = 0 ∨ cmpT a b = 1 := by
  unfold cmpT cmp
  split
  · split
    · exact Order.cmp_ways _ _
    · cases a.2.2 <;> cases b.2.2 <;> decide
  · unfold ord; split; simp; split <;> simp

theorem join_comm (a b : C) : joinT a b = joinT b a := by
  have h := cmpT_flip a b
  unfold joinT
  split
  · rw [if_neg (by omega)]
  · split
    · rfl
    · exact cmpT_zero.1 (by omega)
theorem join_assoc (a b c : C) : joinT (joinT a b) c = joinT a (joinT b c) := by
  have f1 := cmpT_flip a b
  have f2 := cmpT_flip b c
  have f3 := cmpT_flip a c
  by_cases h1 : cmpT a b < 0
  · rw [show joinT a b = b by rw [joinT, if_pos h1]]
    by_cases h2 : cmpT b c < 0
    · rw [show joinT b c = c by rw [joinT, if_pos h2], joinT, if_pos]
      by_cases h3 : cmpT a c < 0
      · exact h3
      · have := cmpT_trans (a := c) (b := a) (c := b) (by omega) (by omega)
        omega
    · rw [show joinT b c = b by rw [joinT, if_neg h2], joinT, if_pos h1]
  · rw [show joinT a b = a by rw [joinT, if_neg h1]]
    by_cases h2 : cmpT b c < 0
    · rw [show joinT b c = c by rw [joinT, if_pos h2]]
    · rw [show joinT b c = b by rw [joinT, if_neg h2], show joinT a b = a by rw [joinT, if_neg h1], joinT, if_neg]
      have := cmpT_trans (a := c) (b := b) (c := a) (by omega) (by omega)
      omega
theorem join_self (a : C) : joinT a a = a := by unfold joinT; split <;> rfl
theorem join_one (a b : C) : joinT a b = a ∨ joinT a b = b := by unfold joinT; split; exact .inr rfl; exact .inl rfl
theorem join_stamp (a b : C) : a.1 ≤ (joinT a b).1 ∧ b.1 ≤ (joinT a b).1 := by
  have h := cmpT_flip a b
  unfold joinT
  split
  · have := (cmpT_le (a := a) (b := b)).1 (by omega)
    exact ⟨by rcases this with h | ⟨h, _⟩ <;> omega, by omega⟩
  · have := (cmpT_le (a := b) (b := a)).1 (by omega)
    exact ⟨by omega, by rcases this with h | ⟨h, _⟩ <;> omega⟩
theorem cmp_later {a b : C} (h : b.1 < a.1) : cmpT a b = 1 := by
  unfold cmpT; rw [cmp_1 _ _ _ _ (by rw [ord_gt h]; decide), ord_gt h]
theorem join_later {a b : C} (h : b.1 < a.1) : joinT a b = a := by rw [joinT, cmp_later h, if_neg (by decide)]

end Cell
end Go.Proofs.Ytenbhmickdokbaa
