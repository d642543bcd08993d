/- The reference's reading of a rune, in plain Lean: by classes of the first byte. -/
import Derived.Test.YtpbefdabnjdeaaaTextDecode
import Derived.Lib.Bytealg
namespace Go.Proofs.Ytpbefdabnjdeaaa
namespace Text

def acc (x : Nat) (l : List UInt8) : Nat := l.foldl (fun x c => 64 * x + (c.toNat - 128)) x
theorem acc_snoc (x : Nat) (l : List UInt8) (c : UInt8) : acc x (l ++ [c]) = 64 * acc x l + (c.toNat - 128) := by simp [acc]

/-- What Read says of bytes whose first one is of a class of n bytes, at least least, and gives x0. -/
def runeC (n x0 least : Nat) (r : List UInt8) : Option (Nat × Nat) :=
  if r.length < n - 1 then none
  else if ∀ c ∈ r.take (n - 1), Cont c then
    if least ≤ acc x0 (r.take (n - 1)) ∧ Scalar (acc x0 (r.take (n - 1))) then some (acc x0 (r.take (n - 1)), n) else none
  else none

theorem rune_two (c : UInt8) (r : List UInt8) (h : 192 ≤ c.toNat ∧ c.toNat < 224) : rune (c :: r) = runeC 2 (c.toNat - 192) 128 r := by
  simp only [rune]
  rw [if_neg (by omega), if_pos h]
  match r with
  | [] => simp [runeC]
  | c1 :: t =>
    by_cases k : Cont c1
    · have hs : Scalar (64 * (c.toNat - 192) + (c1.toNat - 128)) := by unfold Cont at k; unfold Scalar; omega
      have e : acc (c.toNat - 192) ((c1 :: t).take (2 - 1)) = 64 * (c.toNat - 192) + (c1.toNat - 128) := rfl
      unfold runeC
      rw [if_neg (by simp), if_pos (by intro d hd; rw [List.mem_singleton.1 hd]; exact k), e]
      dsimp only
      generalize 64 * (c.toNat - 192) + (c1.toNat - 128) = x at *
      by_cases hx : 128 ≤ x
      · rw [if_pos ⟨k, hx⟩, if_pos ⟨hx, hs⟩]
      · rw [if_neg (fun h => hx h.2), if_neg (fun h => hx h.1)]
    · simp [runeC, k]
theorem rune_three (c : UInt8) (r : List UInt8) (h : 224 ≤ c.toNat ∧ c.toNat < 240) : rune (c :: r) = runeC 3 (c.toNat - 224) 2048 r := by
  simp only [rune]
  rw [if_neg (by omega), if_neg (by omega), if_pos h]
  match r with
  | [] => simp [runeC]
  | [c1] => simp [runeC]
  | c1 :: c2 :: t =>
    by_cases k : Cont c1
    · by_cases k2 : Cont c2
      · have e : acc (c.toNat - 224) ((c1 :: c2 :: t).take (3 - 1)) = 64 * (64 * (c.toNat - 224) + (c1.toNat - 128)) + (c2.toNat - 128) := rfl
        unfold runeC
        rw [if_neg (by simp), if_pos (by intro d hd; rcases List.mem_cons.1 hd with rfl | hd; exact k; rw [List.mem_singleton.1 hd]; exact k2), e]
        dsimp only
        generalize 64 * (64 * (c.toNat - 224) + (c1.toNat - 128)) + (c2.toNat - 128) = x at *
        by_cases hx : 2048 ≤ x ∧ Scalar x
        · rw [if_pos ⟨k, k2, hx⟩, if_pos hx]
        · rw [if_neg (fun h => hx h.2.2), if_neg hx]
      · simp [runeC, k, k2]
    · simp [runeC, k]
theorem rune_four (c : UInt8) (r : List UInt8) (h : 240 ≤ c.toNat ∧ c.toNat < 248) : rune (c :: r) = runeC 4 (c.toNat - 240) 65536 r := by
  simp only [rune]
  rw [if_neg (by omega), if_neg (by omega), if_neg (by omega), if_pos h]
  match r with
  | [] => simp [runeC]
  | [c1] => simp [runeC]
  | [c1, c2] => simp [runeC]
  | c1 :: c2 :: c3 :: t =>
    by_cases k : Cont c1
    · by_cases k2 : Cont c2
      · by_cases k3 : Cont c3
        · have e : acc (c.toNat - 240) ((c1 :: c2 :: c3 :: t).take (4 - 1)) = 64 * (64 * (64 * (c.toNat - 240) + (c1.toNat - 128)) + (c2.toNat - 128)) + (c3.toNat - 128) := rfl
          unfold runeC
          rw [if_neg (by simp), if_pos (by intro d hd; rcases List.mem_cons.1 hd with rfl | hd; exact k; rcases List.mem_cons.1 hd with rfl | hd; exact k2; rw [List.mem_singleton.1 hd]; exact k3), e]
          dsimp only
          generalize 64 * (64 * (64 * (c.toNat - 240) + (c1.toNat - 128)) + (c2.toNat - 128)) + (c3.toNat - 128) = x at *
          by_cases hx : 65536 ≤ x ∧ Scalar x
          · rw [if_pos ⟨k, k2, k3, hx⟩, if_pos hx]
          · rw [if_neg (fun h => hx h.2.2.2), if_neg hx]
        · simp [runeC, k, k2, k3]
      · simp [runeC, k, k2]
    · simp [runeC, k]
theorem rune_low (c : UInt8) (r : List UInt8) (h : c.toNat < 128) : rune (c :: r) = some (c.toNat, 1) := by simp [rune, h]
theorem rune_bad (c : UInt8) (r : List UInt8) (h : 128 ≤ c.toNat) (h' : c.toNat < 192 ∨ 248 ≤ c.toNat) : rune (c :: r) = none := by
  simp only [rune]
  rw [if_neg (by omega), if_neg (by omega), if_neg (by omega), if_neg (by omega)]

/-- What the reference hands back: the rune and its bytes, or twice 0. -/
def got (o : Option (Nat × Nat)) : Nat × Nat := o.getD (0, 0)

theorem acc_le : ∀ (l : List UInt8) (x b : Nat), x < b → (∀ c ∈ l, Cont c) → acc x l < b * 64 ^ l.length
  | [], x, b, h, _ => by simpa [acc] using h
  | c :: l, x, b, h, hc => by
    have k := hc c List.mem_cons_self
    have := acc_le l (64 * x + (c.toNat - 128)) (64 * b) (by unfold Cont at k; omega) (fun d hd => hc d (List.mem_cons_of_mem _ hd))
    have e : b * 64 ^ (c :: l).length = 64 * b * 64 ^ l.length := by
      rw [List.length_cons, Nat.pow_succ, Nat.mul_comm (64 ^ l.length) 64, ← Nat.mul_assoc, Nat.mul_comm b 64]
    have e2 : acc x (c :: l) = acc (64 * x + (c.toNat - 128)) l := by simp only [acc, List.foldl_cons]
    rw [e, e2]
    exact this

/-- The loop of Read at byte k: what x has come to. -/
def Step (r : List UInt8) (x0 k x : Nat) : Prop := (∀ c ∈ r.take (k - 1), Cont c) ∧ x = acc x0 (r.take (k - 1))
theorem Step.one (r : List UInt8) (x0 : Nat) : Step r x0 1 x0 := ⟨by simp, rfl⟩
theorem Step.next {r : List UInt8} {x0 k x : Nat} (h : Step r x0 k x) (hk : 1 ≤ k) (hl : k - 1 < r.length) (hc : Cont r[k - 1]) : Step r x0 (k + 1) (64 * x + (r[k - 1].toNat - 128)) := by
  have e : r.take (k + 1 - 1) = r.take (k - 1) ++ [r[k - 1]] := by
    rw [show k + 1 - 1 = (k - 1) + 1 by omega, List.take_succ_eq_append_getElem hl]
  refine ⟨?_, by rw [e, acc_snoc, h.2]⟩
  rw [e]
  intro c hm
  rcases List.mem_append.1 hm with hm | hm
  · exact h.1 c hm
  · rw [List.mem_singleton.1 hm]; exact hc
theorem Step.bad {r : List UInt8} {x0 k x n least : Nat} (_h : Step r x0 k x) (hk : 1 ≤ k) (hn : k < n) (hl : k - 1 < r.length) (hc : ¬ Cont r[k - 1]) : runeC n x0 least r = none := by
  unfold runeC
  split
  · rfl
  · rw [if_neg]
    intro hh
    exact hc (hh _ (by rw [List.mem_take_iff_getElem]; exact ⟨k - 1, by omega, rfl⟩))
theorem Step.le {r : List UInt8} {x0 k x : Nat} (h : Step r x0 k x) (h0 : x0 < 32) (hk : k ≤ 4) : x < 8388608 := by
  have h1 := acc_le _ x0 32 h0 h.1
  rw [← h.2] at h1
  have h2 : (r.take (k - 1)).length ≤ 3 := by rw [List.length_take]; omega
  have h3 : (64 : Nat) ^ (r.take (k - 1)).length ≤ 64 ^ 3 := Nat.pow_le_pow_right (by decide) h2
  omega
theorem Step.last {r : List UInt8} {x0 x n least : Nat} (h : Step r x0 n x) (hl : n - 1 ≤ r.length) : runeC n x0 least r = if least ≤ x ∧ Scalar x then some (x, n) else none := by
  unfold runeC
  rw [if_neg (by omega), if_pos h.1, ← h.2]
theorem runeC_short {r : List UInt8} {x0 n least : Nat} (hl : r.length < n - 1) : runeC n x0 least r = none := by
  unfold runeC; rw [if_pos hl]

theorem kind_all : ∀ (xs : List Nat) (h1 : 0 < xs.length), xs.length ≤ 64 → (∀ x ∈ xs.take xs.length, ctrl x = false) → kind (some xs) = sgn xs[0]
  | [], h1, _, _ => absurd h1 (by simp)
  | x :: xs, _, h2, h3 => by
    rw [List.take_length] at h3
    show (if _ then _ else _) = _
    rw [if_pos ⟨h2, h3⟩]; rfl

theorem cmp_drop (a b : ByteArray) (k : Nat) (ha : k < a.size) (hb : k < b.size) : Lib.compareBytes (a.data.toList.drop k) (b.data.toList.drop k) =
    if a[k].toNat < b[k].toNat then -1 else if b[k].toNat < a[k].toNat then 1 else Lib.compareBytes (a.data.toList.drop (k + 1)) (b.data.toList.drop (k + 1)) := by
  rw [Str.drop_at a k ha, Str.drop_at b k hb, Lib.compareBytes]
  simp only [UInt8.lt_iff_toNat_lt]
theorem cmp_end (a b : ByteArray) (k : Nat) (h : ¬ (k < a.size ∧ k < b.size)) (ha : k ≤ a.size) (hb : k ≤ b.size) : Lib.compareBytes (a.data.toList.drop k) (b.data.toList.drop k) =
    if a.size < b.size then -1 else if b.size < a.size then 1 else 0 := by
  rcases Nat.lt_or_ge k a.size with h1 | h1
  · have e : b.data.toList.drop k = [] := List.drop_eq_nil_of_le (by rw [← Str.size_eq]; omega)
    rw [e, Str.drop_at a k h1, if_neg (by omega), if_pos (by omega), Lib.compareBytes]
  · have e : a.data.toList.drop k = [] := List.drop_eq_nil_of_le (by rw [← Str.size_eq]; omega)
    rcases Nat.lt_or_ge k b.size with h2 | h2
    · rw [e, Str.drop_at b k h2, if_pos (by omega), Lib.compareBytes]
    · have e' : b.data.toList.drop k = [] := List.drop_eq_nil_of_le (by rw [← Str.size_eq]; omega)
      rw [e, e', if_neg (by omega), if_neg (by omega), Lib.compareBytes]

/-- The reference's cut is a beginning of the text. -/
theorem cut_ref {s : ByteArray} {xs ys : List Nat} {pos : Nat} (h : At s xs pos) (hy : runes s.data.toList = some ys) {n : Int} (h1 : (xs.length : Int) ≤ max n 0) (h2 : ¬ ((xs.length : Int) < n ∧ pos < s.size)) :
    ({ data := (cutL (runes s.data.toList) n).toArray } : ByteArray) = s.extract 0 pos := by
  by_cases h3 : (xs.length : Int) < n
  · rw [cut_end h (fun h4 => h2 ⟨h3, h4⟩) (by omega)]
    refine Str.ext ?_
    have := h.le
    rw [Str.extract_toList, List.drop_zero, List.take_of_length_le (by rw [← Str.size_eq]; omega)]
  · have e : cutL (runes s.data.toList) n = cutL (runes s.data.toList) (xs.length : Int) := by
      rw [hy, cutL, cutL, show n.toNat = (xs.length : Int).toNat by omega]
    rw [e]
    exact cut_at h hy rfl

end Text
end Go.Proofs.Ytpbefdabnjdeaaa
