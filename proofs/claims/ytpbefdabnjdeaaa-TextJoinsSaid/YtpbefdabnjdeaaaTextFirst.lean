/- The order of valid texts is the order of their runes. -/
import Derived.Test.YtpbefdabnjdeaaaTextMore
namespace Go.Proofs.Ytpbefdabnjdeaaa
namespace Text

theorem cmp_lt {a b : UInt8} (h : a.toNat < b.toNat) (s t : List UInt8) : Lib.compareBytes (a :: s) (b :: t) = -1 := by
  rw [Lib.compareBytes, if_pos (UInt8.lt_iff_toNat_lt.2 h)]
theorem cmp_eq {a b : UInt8} (h : a.toNat = b.toNat) (s t : List UInt8) : Lib.compareBytes (a :: s) (b :: t) = Lib.compareBytes s t := by
  rw [Lib.compareBytes, if_neg (by rw [UInt8.lt_iff_toNat_lt]; omega), if_neg (by rw [UInt8.lt_iff_toNat_lt]; omega)]
theorem cmp_gt {a b : UInt8} (h : b.toNat < a.toNat) (s t : List UInt8) : Lib.compareBytes (a :: s) (b :: t) = 1 := by
  rw [Lib.compareBytes, if_neg (by rw [UInt8.lt_iff_toNat_lt]; omega), if_pos (UInt8.lt_iff_toNat_lt.2 h)]

/-- A number's bytes, each with its number. -/
theorem enc_cases (x : Nat) (hx : x < 2097152) :
    (x < 128 ∧ ∃ a : UInt8, enc x = [a] ∧ a.toNat = x) ∨
    (128 ≤ x ∧ x < 2048 ∧ ∃ a b : UInt8, enc x = [a, b] ∧ a.toNat = 192 + x / 64 ∧ b.toNat = 128 + x % 64) ∨
    (2048 ≤ x ∧ x < 65536 ∧ ∃ a b c : UInt8, enc x = [a, b, c] ∧ a.toNat = 224 + x / 4096 ∧ b.toNat = 128 + x / 64 % 64 ∧ c.toNat = 128 + x % 64) ∨
    (65536 ≤ x ∧ ∃ a b c d : UInt8, enc x = [a, b, c, d] ∧ a.toNat = 240 + x / 262144 ∧ b.toNat = 128 + x / 4096 % 64 ∧ c.toNat = 128 + x / 64 % 64 ∧ d.toNat = 128 + x % 64) := by
  unfold enc
  split
  · exact .inl ⟨by omega, _, rfl, u8_nat (by omega)⟩
  split
  · exact .inr (.inl ⟨by omega, by omega, _, _, rfl, u8_nat (by omega), u8_nat (by omega)⟩)
  split
  · exact .inr (.inr (.inl ⟨by omega, by omega, _, _, _, rfl, u8_nat (by omega), u8_nat (by omega), u8_nat (by omega)⟩))
  · exact .inr (.inr (.inr ⟨by omega, _, _, _, _, rfl, u8_nat (by omega), u8_nat (by omega), u8_nat (by omega), u8_nat (by omega)⟩))

/-- One list of bytes comes ahead of another. -/
def Ahead (s t : List UInt8) : Prop := Lib.compareBytes s t = -1 ∧ Lib.compareBytes t s = 1
theorem ahead_lt {a b : UInt8} (h : a.toNat < b.toNat) (s t : List UInt8) : Ahead (a :: s) (b :: t) := ⟨cmp_lt h _ _, cmp_gt h _ _⟩
theorem ahead_le {a b : UInt8} (h : a.toNat ≤ b.toNat) {s t : List UInt8} (k : a.toNat = b.toNat → Ahead s t) : Ahead (a :: s) (b :: t) := by
  by_cases e : a.toNat = b.toNat
  · exact ⟨by rw [cmp_eq e]; exact (k e).1, by rw [cmp_eq e.symm]; exact (k e).2⟩
  · exact ahead_lt (by omega) _ _
theorem cmp_enc {x y : Nat} (h : x < y) (hy : y < 2097152) (s t : List UInt8) : Ahead (enc x ++ s) (enc y ++ t) := by
  rcases enc_cases x (by omega) with ⟨_, a, e, ha⟩ | ⟨_, _, a, b, e, ha, hb⟩ | ⟨_, _, a, b, c, e, ha, hb, hc⟩ | ⟨_, a, b, c, d, e, ha, hb, hc, hd⟩ <;>
    rcases enc_cases y hy with ⟨_, a', e', ha'⟩ | ⟨_, _, a', b', e', ha', hb'⟩ | ⟨_, _, a', b', c', e', ha', hb', hc'⟩ | ⟨_, a', b', c', d', e', ha', hb', hc', hd'⟩ <;>
    first
    | (exfalso; omega)
    | (rw [e, e']; simp only [List.cons_append, List.nil_append]
       first
       | exact ahead_lt (by omega) _ _
       | exact ahead_le (by omega) (fun h1 => ahead_lt (by omega) _ _)
       | exact ahead_le (by omega) (fun h1 => ahead_le (by omega) (fun h2 => ahead_lt (by omega) _ _))
       | exact ahead_le (by omega) (fun h1 => ahead_le (by omega) (fun h2 => ahead_le (by omega) (fun h3 => ahead_lt (by omega) _ _))))

theorem scalar_lt {x : Nat} (h : Scalar x) : x < 2097152 := by unfold Scalar at h; omega
theorem cat_at {xs : List Nat} {k : Nat} (h : k < xs.length) : cat xs = cat (xs.take k) ++ (enc xs[k] ++ cat (xs.drop (k + 1))) := by
  conv => lhs; rw [cat_take_drop xs k, List.drop_eq_getElem_cons h, cat_cons]
/-- Where two texts' runes first differ, they stand in the order of these. -/
theorem cmp_first {xs ys : List Nat} (hx : ∀ x ∈ xs, Scalar x) (hy : ∀ y ∈ ys, Scalar y) {k : Nat} (h1 : k < xs.length) (h2 : k < ys.length) (he : xs.take k = ys.take k) (hn : xs[k] ≠ ys[k]) :
    decide (Lib.compareBytes (cat xs) (cat ys) < 0) = decide (((xs[k] : Nat) : Int) < ((ys[k] : Nat) : Int)) := by
  rw [cat_at h1, cat_at h2, he, cmp_same]
  have hx' := scalar_lt (hx xs[k] (List.getElem_mem _))
  have hy' := scalar_lt (hy ys[k] (List.getElem_mem _))
  by_cases h : xs[k] < ys[k]
  · rw [(cmp_enc h hy' _ _).1]
    have h' : (((xs[k] : Nat) : Int) < ((ys[k] : Nat) : Int)) := by omega
    rw [decide_eq_true h']
    rfl
  · rw [(cmp_enc (x := ys[k]) (y := xs[k]) (by omega) hx' _ _).2]
    have h' : ¬ (((xs[k] : Nat) : Int) < ((ys[k] : Nat) : Int)) := by omega
    rw [decide_eq_false h']
    rfl
theorem cmp_flip_nil : ∀ l : List UInt8, l ≠ [] → Lib.compareBytes l [] = 1
  | [], h => absurd rfl h
  | _ :: _, _ => rfl
/-- Texts of which one begins with the other stand in the order of their lengths. -/
theorem cmp_ends {xs ys : List Nat} (k : Nat) (hk : ¬ (k < xs.length ∧ k < ys.length)) (h1 : k ≤ xs.length) (h2 : k ≤ ys.length) (he : xs.take k = ys.take k) :
    Lib.compareBytes (cat xs) (cat ys) = if xs.length < ys.length then -1 else if ys.length < xs.length then 1 else 0 := by
  rw [cat_take_drop xs k, cat_take_drop ys k, he, cmp_same]
  split
  · rw [show xs.drop k = [] from List.drop_eq_nil_of_le (by omega), cat_nil]
    have hne : cat (ys.drop k) ≠ [] := cat_ne (by intro e; have := congrArg List.length e; rw [List.length_drop, List.length_nil] at this; omega)
    have := cmp_prefix [] _ hne
    rwa [List.nil_append] at this
  split
  · rw [show ys.drop k = [] from List.drop_eq_nil_of_le (by omega), cat_nil]
    exact cmp_flip_nil _ (cat_ne (by intro e; have := congrArg List.length e; rw [List.length_drop, List.length_nil] at this; omega))
  · rw [show ys.drop k = [] from List.drop_eq_nil_of_le (by omega), show xs.drop k = [] from List.drop_eq_nil_of_le (by omega)]
    rfl

end Text
end Go.Proofs.Ytpbefdabnjdeaaa
