/- The model's own reading of a rune at a place of a string is the rune at the front of what stands there. -/
import Derived.Test.YtpbefdabnjdeaaaTextPlain
import Derived.Shelf.Strings.Prefix
namespace Go.Proofs.Ytpbefdabnjdeaaa
namespace Text

theorem get_some {s : ByteArray} {i k : Nat} {c : UInt8} (h : (s.data.toList.drop i)[k]? = some c) : i + k < s.size ∧ s.get! (i + k) = c := by
  rw [List.getElem?_drop] at h
  obtain ⟨h1, h2⟩ := List.getElem?_eq_some_iff.1 h
  have h3 : i + k < s.size := by simpa using h1
  refine ⟨h3, ?_⟩
  rw [← h2]
  show s.data[i + k]! = _
  rw [getElem!_pos s.data (i + k) h3]
  simp
theorem get_none {s : ByteArray} {i k : Nat} (h : (s.data.toList.drop i)[k]? = none) : ¬ i + k < s.size := by
  rw [List.getElem?_drop, List.getElem?_eq_none_iff] at h
  simpa using h

theorem cont_div (c : UInt8) : (c.toNat / 64 == 2) = decide (Cont c) := by
  have := c.toNat_lt
  by_cases h : Cont c
  · rw [decide_eq_true h, beq_iff_eq]; unfold Cont at h; omega
  · rw [decide_eq_false h, beq_eq_false_iff_ne]; unfold Cont at h; omega

theorem valid_scalar (x : Nat) : Utf8.valid (x : Int) = decide (Scalar x) := by
  by_cases h : Scalar x
  · rw [decide_eq_true h]; unfold Scalar at h; simp [Utf8.valid]; omega
  · rw [decide_eq_false h]; unfold Scalar at h; simp [Utf8.valid]; omega

theorem decode_rune (s : ByteArray) (i : Nat) (h : i < s.size) : Utf8.decode s i = (rune (s.data.toList.drop i)).getD (65533, 1) := by
  have hd := Str.drop_at s i h
  obtain ⟨c, hc⟩ : ∃ c, s[i] = c := ⟨_, rfl⟩
  obtain ⟨r, hr⟩ : ∃ r, s.data.toList.drop (i + 1) = r := ⟨_, rfl⟩
  rw [hc, hr] at hd
  have g0 := get_some (s := s) (i := i) (k := 0) (c := c) (by rw [hd]; rfl)
  have hlt := c.toNat_lt
  rw [hd]
  unfold Utf8.decode
  simp only [g0.2]
  by_cases a0 : c.toNat < 128
  · simp [rune, a0]
  rw [if_neg a0]
  simp only [rune]
  rw [if_neg a0]
  by_cases a1 : 192 ≤ c.toNat ∧ c.toNat < 224
  · rw [if_pos a1]
    have b1 : (c.toNat / 32 == 6) = true := by rw [beq_iff_eq]; omega
    have b2 : (c.toNat / 16 == 14) = false := by rw [beq_eq_false_iff_ne]; omega
    have b3 : (c.toNat / 8 == 30) = false := by rw [beq_eq_false_iff_ne]; omega
    rw [b1, b2, b3]
    match r with
    | [] =>
      have n1 := get_none (s := s) (i := i) (k := 1) (by rw [hd]; rfl)
      simp [n1, Utf8.runeError]
    | c1 :: t =>
      obtain ⟨p1, q1⟩ := get_some (s := s) (i := i) (k := 1) (c := c1) (by rw [hd]; rfl)
      simp only [p1, q1, decide_true, Bool.true_and, Bool.false_and, cont_div]
      by_cases k1 : Cont c1
      · have e : c.toNat % 32 * 64 + c1.toNat % 64 = 64 * (c.toNat - 192) + (c1.toNat - 128) := by unfold Cont at k1; omega
        simp only [k1, decide_true, if_true, true_and, e]
        by_cases k2 : 128 ≤ 64 * (c.toNat - 192) + (c1.toNat - 128)
        · rw [if_pos k2, if_pos k2]; rfl
        · rw [if_neg k2, if_neg k2]; rfl
      · simp [k1, Utf8.runeError]
  rw [if_neg a1]
  have b1 : (c.toNat / 32 == 6) = false := by rw [beq_eq_false_iff_ne]; omega
  rw [b1]
  by_cases a2 : 224 ≤ c.toNat ∧ c.toNat < 240
  · rw [if_pos a2]
    have b2 : (c.toNat / 16 == 14) = true := by rw [beq_iff_eq]; omega
    have b3 : (c.toNat / 8 == 30) = false := by rw [beq_eq_false_iff_ne]; omega
    rw [b2, b3]
    match r with
    | [] =>
      have n1 := get_none (s := s) (i := i) (k := 1) (by rw [hd]; rfl)
      simp [n1, Utf8.runeError]
    | [c1] =>
      have n1 := get_none (s := s) (i := i) (k := 2) (by rw [hd]; rfl)
      simp [n1, Utf8.runeError]
    | c1 :: c2 :: t =>
      obtain ⟨p1, q1⟩ := get_some (s := s) (i := i) (k := 1) (c := c1) (by rw [hd]; rfl)
      obtain ⟨p2, q2⟩ := get_some (s := s) (i := i) (k := 2) (c := c2) (by rw [hd]; rfl)
      simp only [p1, q1, p2, q2, decide_true, Bool.true_and, Bool.false_and, cont_div, Bool.false_eq_true, if_false]
      by_cases k1 : Cont c1
      · by_cases k2 : Cont c2
        · have e : c.toNat % 16 * 4096 + c1.toNat % 64 * 64 + c2.toNat % 64 = 64 * (64 * (c.toNat - 224) + (c1.toNat - 128)) + (c2.toNat - 128) := by unfold Cont at k1 k2; omega
          simp only [k1, k2, decide_true, Bool.true_and, if_true, true_and, e, valid_scalar]
          generalize 64 * (64 * (c.toNat - 224) + (c1.toNat - 128)) + (c2.toNat - 128) = x
          by_cases k3 : 2048 ≤ x ∧ Scalar x
          · rw [if_pos k3, if_pos (by simpa using k3)]; rfl
          · rw [if_neg k3, if_neg (by simpa using k3)]; rfl
        · simp [k1, k2, Utf8.runeError]
      · simp [k1, Utf8.runeError]
  rw [if_neg a2]
  have b2 : (c.toNat / 16 == 14) = false := by rw [beq_eq_false_iff_ne]; omega
  rw [b2]
  by_cases a3 : 240 ≤ c.toNat ∧ c.toNat < 248
  · rw [if_pos a3]
    have b3 : (c.toNat / 8 == 30) = true := by rw [beq_iff_eq]; omega
    rw [b3]
    match r with
    | [] =>
      have n1 := get_none (s := s) (i := i) (k := 1) (by rw [hd]; rfl)
      simp [n1, Utf8.runeError]
    | [c1] =>
      have n1 := get_none (s := s) (i := i) (k := 2) (by rw [hd]; rfl)
      simp [n1, Utf8.runeError]
    | [c1, c2] =>
      have n1 := get_none (s := s) (i := i) (k := 3) (by rw [hd]; rfl)
      simp [n1, Utf8.runeError]
    | c1 :: c2 :: c3 :: t =>
      obtain ⟨p1, q1⟩ := get_some (s := s) (i := i) (k := 1) (c := c1) (by rw [hd]; rfl)
      obtain ⟨p2, q2⟩ := get_some (s := s) (i := i) (k := 2) (c := c2) (by rw [hd]; rfl)
      obtain ⟨p3, q3⟩ := get_some (s := s) (i := i) (k := 3) (c := c3) (by rw [hd]; rfl)
      simp only [p1, q1, p2, q2, p3, q3, decide_true, Bool.true_and, Bool.false_and, cont_div, Bool.false_eq_true, if_false]
      by_cases k1 : Cont c1
      · by_cases k2 : Cont c2
        · by_cases k4 : Cont c3
          · have e : c.toNat % 8 * 262144 + c1.toNat % 64 * 4096 + c2.toNat % 64 * 64 + c3.toNat % 64 = 64 * (64 * (64 * (c.toNat - 240) + (c1.toNat - 128)) + (c2.toNat - 128)) + (c3.toNat - 128) := by unfold Cont at k1 k2 k4; omega
            simp only [k1, k2, k4, decide_true, Bool.true_and, if_true, true_and, e, valid_scalar]
            generalize 64 * (64 * (64 * (c.toNat - 240) + (c1.toNat - 128)) + (c2.toNat - 128)) + (c3.toNat - 128) = x
            by_cases k3 : 65536 ≤ x ∧ Scalar x
            · rw [if_pos k3, if_pos (by simpa using k3)]; rfl
            · rw [if_neg k3, if_neg (by simpa using k3)]; rfl
          · simp [k1, k2, k4, Utf8.runeError]
        · simp [k1, k2, Utf8.runeError]
      · simp [k1, Utf8.runeError]
  · rw [if_neg a3]
    have b3 : (c.toNat / 8 == 30) = false := by rw [beq_eq_false_iff_ne]; omega
    rw [b3]
    simp [Utf8.runeError]

/-- A walk over a string has come to the byte pos: the runes xs lie behind it. -/
def At (s : ByteArray) (xs : List Nat) (pos : Nat) : Prop := (∀ x ∈ xs, Scalar x) ∧ pos = (cat xs).length ∧ ∃ t, s.data.toList = cat xs ++ t
theorem At.zero (s : ByteArray) : At s [] 0 := ⟨(fun x hx => by cases hx), rfl, _, rfl⟩
theorem cat_len : ∀ xs : List Nat, xs.length ≤ (cat xs).length
  | [] => by simp
  | x :: xs => by have := cat_len xs; have := enc_length x; rw [cat_cons, List.length_append, List.length_cons]; omega
theorem At.le {s : ByteArray} {xs : List Nat} {pos : Nat} (h : At s xs pos) : xs.length ≤ pos ∧ pos ≤ s.size := by
  obtain ⟨_, h2, t, h3⟩ := h
  have := cat_len xs
  have h4 := congrArg List.length h3
  rw [List.length_append, ← Str.size_eq] at h4
  omega
theorem At.drop {s : ByteArray} {xs : List Nat} {pos : Nat} (h : At s xs pos) : s.data.toList = cat xs ++ s.data.toList.drop pos := by
  obtain ⟨_, h2, t, h3⟩ := h
  rw [h2, h3, List.drop_left]
theorem At.next {s : ByteArray} {xs : List Nat} {pos : Nat} (h : At s xs pos) (hp : pos < s.size) :
    (∃ x k, Utf8.decode s pos = (x, k) ∧ rune (s.data.toList.drop pos) = some (x, k) ∧ At s (xs ++ [x]) (pos + k) ∧ 1 ≤ k ∧ x ≤ 1114111) ∨
    (Utf8.decode s pos = (65533, 1) ∧ rune (s.data.toList.drop pos) = none ∧ runes s.data.toList = none) := by
  have hd := decode_rune s pos hp
  have hdr := h.drop
  cases hr : rune (s.data.toList.drop pos) with
  | none =>
    right
    rw [hr] at hd
    refine ⟨hd, rfl, ?_⟩
    rw [hdr, runes_behind xs _ h.1, rune_none hr (by intro e; have := congrArg List.length e; simp at this; omega)]
    rfl
  | some y =>
    obtain ⟨x, k⟩ := y
    left
    rw [hr] at hd
    obtain ⟨g1, g2, t, g3⟩ := rune_some hr
    have ge := enc_length x
    refine ⟨x, k, hd, rfl, ⟨?_, ?_, t, ?_⟩, by omega, by unfold Scalar at g1; omega⟩
    · intro y hy
      rcases List.mem_append.1 hy with hy | hy
      · exact h.1 y hy
      · rw [List.mem_singleton.1 hy]; exact g1
    · rw [cat_append, List.length_append, ← h.2.1, g2]; simp [cat]
    · rw [hdr, g3, cat_append, List.append_assoc]; simp [cat]
theorem At.last {s : ByteArray} {xs : List Nat} {pos : Nat} (h : At s xs pos) (hp : ¬ pos < s.size) : runes s.data.toList = some xs := by
  have hdr := h.drop
  rw [List.drop_eq_nil_of_le (by rw [← Str.size_eq]; omega), List.append_nil] at hdr
  rw [hdr]; exact runes_cat xs h.1
/-- Of a text: what it comes to at a place is the beginning of its runes. -/
theorem At.pre {s : ByteArray} {xs ys : List Nat} {pos : Nat} (h : At s xs pos) (hy : runes s.data.toList = some ys) : xs = ys.take xs.length ∧ xs.length ≤ ys.length := by
  have hdr := h.drop
  rw [hdr, runes_behind xs _ h.1] at hy
  obtain ⟨zs, _, rfl⟩ := Option.map_eq_some_iff.1 hy
  simp

/-- How many runes; -1, if it is no text. -/
def count (o : Option (List Nat)) : Int := match o with | none => -1 | some xs => xs.length
theorem count_some (xs : List Nat) : count (some xs) = xs.length := rfl
theorem count_none : count none = -1 := rfl

theorem prefix_iff (l : List UInt8) : Lib.hasPrefix l [239, 191, 189] = true ↔ ∃ t, l = enc 65533 ++ t := by
  have e : enc 65533 = [239, 191, 189] := by decide
  rw [e, Lib.hasPrefix, List.isPrefixOf_iff_prefix]
  exact ⟨fun ⟨t, h⟩ => ⟨t, h.symm⟩, fun ⟨t, h⟩ => ⟨t, h.symm⟩⟩

/-- Which runes stand in no key. -/
def ctrl (x : Nat) : Bool := decide (x < 32) || (decide (127 ≤ x) && decide (x ≤ 159))
/-- What a key is of that begins with x. -/
def sgn (x : Nat) : Nat := if x = 35 then 1 else if x = 64 then 2 else if x = 61 then 3 else 0
def hd : List Nat → Nat
  | [] => 0
  | x :: _ => sgn x
/-- What a key is of; 0, if it is none. -/
def kind : Option (List Nat) → Nat
  | none => 0
  | some xs => if xs.length ≤ 64 ∧ ∀ x ∈ xs, ctrl x = false then hd xs else 0
def Good (xs : List Nat) : Prop := xs.length ≤ 64 ∧ (∀ x ∈ xs, ctrl x = false) ∧ (xs = [] ∨ hd xs ≠ 0)
theorem Good.nil : Good [] := ⟨by simp, (fun x hx => by cases hx), .inl rfl⟩
theorem hd_append {xs : List Nat} (h : xs ≠ []) (ys : List Nat) : hd (xs ++ ys) = hd xs := by cases xs with | nil => exact absurd rfl h | cons x xs => rfl
theorem sgn_le (x : Nat) : sgn x ≤ 3 := by unfold sgn; split; omega; split; omega; split <;> omega
theorem hd_le (xs : List Nat) : hd xs ≤ 3 := by cases xs with | nil => simp [hd] | cons x xs => exact sgn_le x
theorem Good.kind {xs : List Nat} (h : Good xs) : kind (some xs) = hd xs := by show (if _ then _ else _) = _; rw [if_pos ⟨h.1, h.2.1⟩]
theorem Good.snoc {xs : List Nat} {x : Nat} (h : Good xs) (h1 : hd (xs ++ [x]) ≠ 0) (h2 : xs.length ≠ 64) (h3 : ctrl x = false) : Good (xs ++ [x]) := by
  refine ⟨?_, ?_, .inr h1⟩
  · have := h.1; rw [List.length_append, List.length_singleton]; omega
  · intro y hy
    rcases List.mem_append.1 hy with hy | hy
    · exact h.2.1 y hy
    · rw [List.mem_singleton.1 hy]; exact h3
theorem kind_bad {s : ByteArray} {xs : List Nat} {x pos : Nat} (h : At s (xs ++ [x]) pos) (hb : hd (xs ++ [x]) = 0 ∨ xs.length = 64 ∨ ctrl x = true) : kind (runes s.data.toList) = 0 := by
  cases hr : runes s.data.toList with
  | none => rfl
  | some ys =>
    obtain ⟨h1, h2⟩ := h.pre hr
    have h3 := List.take_append_drop (xs ++ [x]).length ys
    rw [← h1] at h3
    show (if _ then _ else _) = _
    split
    · rename_i hg
      rcases hb with hb | hb | hb
      · rw [← h3, hd_append (by simp), hb]
      · rw [List.length_append, List.length_singleton] at h2; omega
      · have := hg.2 x (by rw [← h3]; simp); rw [hb] at this; cases this
    · rfl

/-- The first n runes of a text. -/
def cutL (o : Option (List Nat)) (n : Int) : List UInt8 := match o with | none => [] | some xs => cat (xs.take n.toNat)
theorem cut_at {s : ByteArray} {xs ys : List Nat} {pos : Nat} (h : At s xs pos) (hy : runes s.data.toList = some ys) {n : Int} (hn : n = xs.length) :
    ({ data := (cutL (runes s.data.toList) n).toArray } : ByteArray) = s.extract 0 pos := by
  obtain ⟨h1, _⟩ := h.pre hy
  refine Str.ext ?_
  rw [hy, Str.extract_toList, List.drop_zero, List.toList_toArray, hn, cutL, Int.toNat_natCast, ← h1]
  conv => rhs; rw [h.drop]
  rw [h.2.1, List.take_left]
theorem cut_end {s : ByteArray} {xs : List Nat} {pos : Nat} (h : At s xs pos) (hp : ¬ pos < s.size) {n : Int} (hn : (xs.length : Int) ≤ n) :
    ({ data := (cutL (runes s.data.toList) n).toArray } : ByteArray) = s := by
  have hl := h.last hp
  refine Str.ext ?_
  rw [hl, List.toList_toArray, cutL, List.take_of_length_le (by omega)]
  exact (runes_some hl).1.symm

end Text
end Go.Proofs.Ytpbefdabnjdeaaa
