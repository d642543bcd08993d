/- Orders, in plain Lean: three ways of numbers, of bytes. -/
import Derived.WalkKit
import Derived.Lib.Bytealg
import Derived.Test.YtnpjkmomllkhpaaGreatTmStr
namespace Go.Proofs.YtnpjkmomllkhpaaGreat
namespace Order

theorem cmp_self : ∀ l : List UInt8, Lib.compareBytes l l = 0
  | [] => rfl
  | a :: l => by rw [Lib.compareBytes, if_neg (UInt8.lt_irrefl a), if_neg (UInt8.lt_irrefl a)]; exact cmp_self l
theorem cmp_zero : ∀ (a b : List UInt8), Lib.compareBytes a b = 0 → a = b
  | [], [], _ => rfl
  | [], _ :: _, h => by simp [Lib.compareBytes] at h
  | _ :: _, [], h => by simp [Lib.compareBytes] at h
  | a :: as, b :: bs, h => by
    rw [Lib.compareBytes] at h
    split at h
    · cases h
    split at h
    · cases h
    · rename_i h1 h2
      rw [UInt8.lt_iff_toNat_lt] at h1 h2
      rw [UInt8.toNat_inj.1 (show a.toNat = b.toNat by omega), cmp_zero as bs h]
theorem cmp_iff (a b : List UInt8) : Lib.compareBytes a b = 0 ↔ a = b := ⟨cmp_zero a b, fun h => by rw [h]; exact cmp_self b⟩
theorem cmp_less : ∀ (a b : List UInt8), Op.bytesLess a b = true → Lib.compareBytes a b = -1
  | [], [], h => by simp [Op.bytesLess] at h
  | [], _ :: _, _ => rfl
  | _ :: _, [], h => by simp [Op.bytesLess] at h
  | a :: as, b :: bs, h => by
    rw [Op.bytesLess, Bool.or_eq_true, decide_eq_true_eq, Bool.and_eq_true, beq_iff_eq] at h
    rw [Lib.compareBytes]
    rcases h with h | ⟨rfl, h⟩
    · rw [if_pos h]
    · rw [if_neg (UInt8.lt_irrefl a), if_neg (UInt8.lt_irrefl a)]; exact cmp_less as bs h
theorem cmp_more : ∀ (a b : List UInt8), a ≠ b → Op.bytesLess a b = false → Lib.compareBytes a b = 1
  | [], [], h, _ => absurd rfl h
  | [], _ :: _, _, h => by simp [Op.bytesLess] at h
  | _ :: _, [], _, _ => rfl
  | a :: as, b :: bs, hn, h => by
    rw [Op.bytesLess, Bool.or_eq_false_iff, decide_eq_false_iff_not] at h
    obtain ⟨h1, h2⟩ := h
    rw [Lib.compareBytes, if_neg h1]
    split
    · rfl
    · rename_i h3
      rw [UInt8.lt_iff_toNat_lt] at h1 h3
      obtain rfl : a = b := UInt8.toNat_inj.1 (by omega)
      rw [beq_self_eq_true, Bool.true_and] at h2
      exact cmp_more as bs (fun e => hn (by rw [e])) h2
theorem cons_law (a b : UInt8) (as bs : List UInt8) : Lib.compareBytes (a :: as) (b :: bs) = if a.toNat < b.toNat then -1 else if b.toNat < a.toNat then 1 else Lib.compareBytes as bs := by
  simp only [Lib.compareBytes, UInt8.lt_iff_toNat_lt]
theorem cmp_flip : ∀ (a b : List UInt8), Lib.compareBytes a b = -Lib.compareBytes b a
  | [], [] => rfl
  | [], _ :: _ => rfl
  | _ :: _, [] => rfl
  | a :: as, b :: bs => by
    rw [cons_law, cons_law, cmp_flip as bs]
    split
    · rw [if_neg (by omega)]
    · split <;> rfl
theorem cmp_trans : ∀ (a b c : List UInt8), Lib.compareBytes a b ≤ 0 → Lib.compareBytes b c ≤ 0 → Lib.compareBytes a c ≤ 0
  | [], _, [], _, _ => by decide
  | [], _, _ :: _, _, _ => by simp [Lib.compareBytes]
  | _ :: _, [], _, h, _ => by simp [Lib.compareBytes] at h
  | _ :: _, _ :: _, [], _, h => by simp [Lib.compareBytes] at h
  | a :: as, b :: bs, c :: cs, h1, h2 => by
    have ih := cmp_trans as bs cs
    rw [cons_law] at h1 h2 ⊢
    split at h1
    · split at h2
      · rw [if_pos (by omega)]; decide
      split at h2
      · omega
      · rw [if_pos (by omega)]; decide
    split at h1
    · omega
    split at h2
    · rw [if_pos (by omega)]; decide
    split at h2
    · omega
    rw [if_neg (by omega), if_neg (by omega)]
    exact ih h1 h2
theorem cmp_ways (a b : List UInt8) : Lib.compareBytes a b = -1 ∨ Lib.compareBytes a b = 0 ∨ Lib.compareBytes a b = 1 := by
  by_cases h : a = b
  · exact .inr (.inl (by rw [h]; exact cmp_self b))
  · cases h1 : Op.bytesLess a b with
    | true => exact .inl (cmp_less a b h1)
    | false => exact .inr (.inr (cmp_more a b h h1))

end Order
end Go.Proofs.YtnpjkmomllkhpaaGreat
