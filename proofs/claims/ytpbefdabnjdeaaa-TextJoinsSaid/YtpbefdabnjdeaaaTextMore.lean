/- Plain laws of texts: cuts, joins, orders. -/
import Derived.Test.YtpbefdabnjdeaaaTextRefPlain
namespace Go.Proofs.Ytpbefdabnjdeaaa
namespace Text

theorem cmp_self : ∀ l : List UInt8, Lib.compareBytes l l = 0
  | [] => rfl
  | a :: l => by rw [Lib.compareBytes, if_neg (UInt8.lt_irrefl a), if_neg (UInt8.lt_irrefl a)]; exact cmp_self l
theorem cmp_prefix : ∀ (l t : List UInt8), t ≠ [] → Lib.compareBytes l (l ++ t) = -1
  | [], [], h => absurd rfl h
  | [], _ :: _, _ => rfl
  | a :: l, t, h => by rw [List.cons_append, Lib.compareBytes, if_neg (UInt8.lt_irrefl a), if_neg (UInt8.lt_irrefl a)]; exact cmp_prefix l t h
theorem cmp_same : ∀ (l s t : List UInt8), Lib.compareBytes (l ++ s) (l ++ t) = Lib.compareBytes s t
  | [], _, _ => rfl
  | a :: l, s, t => by rw [List.cons_append, List.cons_append, Lib.compareBytes, if_neg (UInt8.lt_irrefl a), if_neg (UInt8.lt_irrefl a)]; exact cmp_same l s t

theorem scalar_take {xs : List Nat} (h : ∀ x ∈ xs, Scalar x) (n : Nat) : ∀ x ∈ xs.take n, Scalar x := fun x hx => h x (List.mem_of_mem_take hx)
theorem scalar_drop {xs : List Nat} (h : ∀ x ∈ xs, Scalar x) (n : Nat) : ∀ x ∈ xs.drop n, Scalar x := fun x hx => h x (List.mem_of_mem_drop hx)
theorem cutL_some (xs : List Nat) (n : Int) : cutL (some xs) n = cat (xs.take n.toNat) := rfl
theorem runes_cut {xs : List Nat} (h : ∀ x ∈ xs, Scalar x) (n : Nat) : runes (cat (xs.take n)) = some (xs.take n) := runes_cat _ (scalar_take h n)
theorem cut_cut (xs : List Nat) (n m : Int) : cutL (some (xs.take n.toNat)) m = cutL (some xs) (min n m) := by
  rw [cutL_some, cutL_some, List.take_take]
  congr 2
  omega
theorem cat_take_drop (xs : List Nat) (n : Nat) : cat xs = cat (xs.take n) ++ cat (xs.drop n) := by rw [← cat_append, List.take_append_drop]
theorem cat_ne {xs : List Nat} (h : xs ≠ []) : cat xs ≠ [] := by
  intro e
  have h1 := cat_len xs
  have h2 := congrArg List.length e
  have h3 := List.length_pos_iff.2 h
  rw [List.length_nil] at h2
  omega
theorem cmp_cut_last {xs : List Nat} (h : xs ≠ []) : Lib.compareBytes (cat (xs.take (xs.length - 1))) (cat xs) = -1 := by
  conv => lhs; arg 2; rw [cat_take_drop xs (xs.length - 1)]
  refine cmp_prefix _ _ (cat_ne ?_)
  intro e
  have h1 := congrArg List.length e
  have h3 := List.length_pos_iff.2 h
  rw [List.length_drop, List.length_nil] at h1
  omega
theorem cmp_cut_le (xs : List Nat) (n : Nat) : Lib.compareBytes (cat (xs.take n)) (cat xs) ≤ 0 := by
  conv => lhs; arg 2; rw [cat_take_drop xs n]
  cases h : cat (xs.drop n) with
  | nil => rw [List.append_nil, cmp_self]; decide
  | cons a l => rw [cmp_prefix _ _ (by simp)]; decide

theorem kind_some (xs : List Nat) : kind (some xs) = if xs.length ≤ 64 ∧ ∀ x ∈ xs, ctrl x = false then hd xs else 0 := rfl
theorem kind_ne {xs : List Nat} (h : kind (some xs) ≠ 0) : xs.length ≤ 64 ∧ (∀ x ∈ xs, ctrl x = false) ∧ hd xs ≠ 0 ∧ xs ≠ [] := by
  rw [kind_some] at h
  split at h
  · rename_i hg
    exact ⟨hg.1, hg.2, h, fun e => h (by rw [e]; rfl)⟩
  · exact absurd rfl h
theorem kind_good {xs : List Nat} (h1 : xs.length ≤ 64) (h2 : ∀ x ∈ xs, ctrl x = false) : kind (some xs) = hd xs := by rw [kind_some, if_pos ⟨h1, h2⟩]
theorem kind_snoc {xs : List Nat} {y : Nat} (h : kind (some xs) ≠ 0) (hy : ctrl y = false) : kind (some (xs ++ [y])) = if xs.length < 64 then kind (some xs) else 0 := by
  obtain ⟨h1, h2, h3, h4⟩ := kind_ne h
  have hall : ∀ x ∈ xs ++ [y], ctrl x = false := by
    intro x hx
    rcases List.mem_append.1 hx with hx | hx
    · exact h2 x hx
    · rw [List.mem_singleton.1 hx]; exact hy
  rw [kind_good h1 h2, kind_some, List.length_append, List.length_singleton, hd_append h4]
  by_cases hl : xs.length < 64
  · rw [if_pos hl, if_pos ⟨by omega, hall⟩]
  · rw [if_neg hl, if_neg (fun h => by omega)]
theorem kind_ctrl (xs : List Nat) {y : Nat} (hy : ctrl y = true) : kind (some (xs ++ [y])) = 0 := by
  rw [kind_some, if_neg]
  intro h
  have := h.2 y (by simp)
  rw [hy] at this; cases this
theorem kind_take {xs : List Nat} (h : kind (some xs) ≠ 0) (n : Nat) (hn : 1 ≤ n) : kind (some (xs.take n)) = kind (some xs) := by
  obtain ⟨h1, h2, h3, h4⟩ := kind_ne h
  rw [kind_good h1 h2, kind_good (by rw [List.length_take]; omega) (fun x hx => h2 x (List.mem_of_mem_take hx))]
  match xs, h4, n, hn with
  | [], h4, _, _ => exact absurd rfl h4
  | x :: xs, _, n + 1, _ => rfl
theorem runes_snoc {xs : List Nat} (hx : ∀ x ∈ xs, Scalar x) {y : Nat} (hy : Scalar y) : runes (cat xs ++ enc y) = some (xs ++ [y]) := by
  have e : cat xs ++ enc y = cat (xs ++ [y]) := by rw [cat_append]; simp [cat]
  rw [e]
  refine runes_cat _ (fun x h => ?_)
  rcases List.mem_append.1 h with h | h
  · exact hx x h
  · rw [List.mem_singleton.1 h]; exact hy

theorem spoilt_cont (ys : List Nat) (hy : ∀ y ∈ ys, Scalar y) (c : UInt8) (hc : Cont c) (t : List UInt8) : runes (cat ys ++ c :: t) = none := by
  unfold Cont at hc
  rw [runes_behind ys _ hy, rune_none (rune_bad c t (by omega) (.inl (by omega))) (by simp)]; rfl
/-- Nothing, or a byte that does not go on. -/
def Begins (r : List UInt8) : Prop := r = [] ∨ ∃ d t, r = d :: t ∧ ¬ Cont d
theorem begins_cat (zs : List Nat) (hz : ∀ z ∈ zs, Scalar z) : Begins (cat zs) := by
  cases zs with
  | nil => exact .inl rfl
  | cons z zs =>
    right
    rw [cat_cons]
    have h := hz z List.mem_cons_self
    unfold Scalar at h
    unfold enc
    split
    · exact ⟨_, _, rfl, by unfold Cont; rw [u8_nat (by omega)]; omega⟩
    split
    · exact ⟨_, _, rfl, by unfold Cont; rw [u8_nat (by omega)]; omega⟩
    split
    · exact ⟨_, _, rfl, by unfold Cont; rw [u8_nat (by omega)]; omega⟩
    · exact ⟨_, _, rfl, by unfold Cont; rw [u8_nat (by omega)]; omega⟩
theorem runeC_cut {n x0 least : Nat} {l r : List UInt8} (hl : l.length = n - 2) (hn : 2 ≤ n) (hr : Begins r) : runeC n x0 least (l ++ r) = none := by
  rcases hr with rfl | ⟨d, t, rfl, hd⟩
  · exact runeC_short (by rw [List.append_nil]; omega)
  · unfold runeC
    split
    · rfl
    · rw [if_neg]
      intro h
      refine hd (h d ?_)
      rw [show n - 1 = l.length + 1 by omega, List.take_append, List.take_of_length_le (by omega), show l.length + 1 - l.length = 1 by omega]
      simp
theorem spoilt_cut (x : Nat) (hx : Scalar x) (h2 : 2 ≤ (enc x).length) (r : List UInt8) (hr : Begins r) : rune ((enc x).dropLast ++ r) = none := by
  unfold Scalar at hx
  unfold enc at h2 ⊢
  split at h2
  · simp at h2
  rename_i c0
  rw [if_neg c0]
  split
  · obtain ⟨c, e, hc⟩ := name (192 + x / 64) (by omega)
    rw [e, show ([c, UInt8.ofNat (128 + x % 64)] : List UInt8).dropLast ++ r = c :: ([] ++ r) from rfl, rune_two c _ (by omega)]
    exact runeC_cut rfl (by omega) hr
  split
  · obtain ⟨c, e, hc⟩ := name (224 + x / 4096) (by omega)
    rw [e, show ([c, UInt8.ofNat (128 + x / 64 % 64), UInt8.ofNat (128 + x % 64)] : List UInt8).dropLast ++ r = c :: ([UInt8.ofNat (128 + x / 64 % 64)] ++ r) from rfl, rune_three c _ (by omega)]
    exact runeC_cut rfl (by omega) hr
  · obtain ⟨c, e, hc⟩ := name (240 + x / 262144) (by omega)
    rw [e, show ([c, UInt8.ofNat (128 + x / 4096 % 64), UInt8.ofNat (128 + x / 64 % 64), UInt8.ofNat (128 + x % 64)] : List UInt8).dropLast ++ r = c :: ([UInt8.ofNat (128 + x / 4096 % 64), UInt8.ofNat (128 + x / 64 % 64)] ++ r) from rfl, rune_four c _ (by omega)]
    exact runeC_cut rfl (by omega) hr
theorem spoilt_last (ys : List Nat) (hy : ∀ y ∈ ys, Scalar y) (x : Nat) (hx : Scalar x) (h2 : 2 ≤ (enc x).length) (r : List UInt8) (hr : Begins r) : runes (cat ys ++ ((enc x).dropLast ++ r)) = none := by
  rw [runes_behind ys _ hy, rune_none (spoilt_cut x hx h2 r hr)]
  · rfl
  · intro e
    have h1 := congrArg List.length e
    rw [List.length_append, List.length_dropLast, List.length_nil] at h1
    omega

end Text
end Go.Proofs.Ytpbefdabnjdeaaa
