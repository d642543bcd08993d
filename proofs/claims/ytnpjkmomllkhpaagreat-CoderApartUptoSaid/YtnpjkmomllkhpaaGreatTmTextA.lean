/- Merged texts: TextPlain, TextDecode, Text. -/
import Derived.WalkKit
import Derived.Test.YtnpjkmomllkhpaaGreatTmStr
import Derived.Shelf.Strings.Prefix
import Derived.Test.YtnpjkmomllkhpaaGreatProg
import Derived.Test.YtnpjkmomllkhpaaGreatShelf
import Derived.WalkSpells
import Derived.WalkLawsBesides
import Derived.Lib.Hide
import Derived.Lib.OthersKept
namespace Go.Proofs.YtnpjkmomllkhpaaGreat
namespace Text

theorem u8_eq {c : UInt8} {n : Nat} (h : c.toNat = n) : c = UInt8.ofNat n := by
  rw [← UInt8.toNat_inj, UInt8.toNat_ofNat', h]; have := c.toNat_lt; omega
theorem u8_nat {n : Nat} (h : n < 256) : (UInt8.ofNat n).toNat = n := by rw [UInt8.toNat_ofNat']; omega

/-- A number's bytes, as runes are written. -/
def enc (x : Nat) : List UInt8 :=
  if x < 128 then [UInt8.ofNat x]
  else if x < 2048 then [UInt8.ofNat (192 + x / 64), UInt8.ofNat (128 + x % 64)]
  else if x < 65536 then [UInt8.ofNat (224 + x / 4096), UInt8.ofNat (128 + x / 64 % 64), UInt8.ofNat (128 + x % 64)]
  else [UInt8.ofNat (240 + x / 262144), UInt8.ofNat (128 + x / 4096 % 64), UInt8.ofNat (128 + x / 64 % 64), UInt8.ofNat (128 + x % 64)]
/-- Which numbers are runes. -/
def Scalar (x : Nat) : Prop := x < 55296 ∨ (57344 ≤ x ∧ x ≤ 1114111)
instance (x : Nat) : Decidable (Scalar x) := inferInstanceAs (Decidable (_ ∨ _))

/-- A byte that goes on. -/
def Cont (c : UInt8) : Prop := 128 ≤ c.toNat ∧ c.toNat < 192
instance (c : UInt8) : Decidable (Cont c) := inferInstanceAs (Decidable (_ ∧ _))

/-- The rune at the front of bytes, and how many bytes it has. -/
def rune : List UInt8 → Option (Nat × Nat)
  | [] => none
  | c :: r =>
    if c.toNat < 128 then some (c.toNat, 1)
    else if 192 ≤ c.toNat ∧ c.toNat < 224 then
      match r with
      | c1 :: _ => if Cont c1 ∧ 128 ≤ 64 * (c.toNat - 192) + (c1.toNat - 128) then some (64 * (c.toNat - 192) + (c1.toNat - 128), 2) else none
      | [] => none
    else if 224 ≤ c.toNat ∧ c.toNat < 240 then
      match r with
      | c1 :: c2 :: _ =>
        if Cont c1 ∧ Cont c2 ∧ 2048 ≤ 64 * (64 * (c.toNat - 224) + (c1.toNat - 128)) + (c2.toNat - 128) ∧ Scalar (64 * (64 * (c.toNat - 224) + (c1.toNat - 128)) + (c2.toNat - 128)) then
          some (64 * (64 * (c.toNat - 224) + (c1.toNat - 128)) + (c2.toNat - 128), 3) else none
      | _ => none
    else if 240 ≤ c.toNat ∧ c.toNat < 248 then
      match r with
      | c1 :: c2 :: c3 :: _ =>
        if Cont c1 ∧ Cont c2 ∧ Cont c3 ∧ 65536 ≤ 64 * (64 * (64 * (c.toNat - 240) + (c1.toNat - 128)) + (c2.toNat - 128)) + (c3.toNat - 128) ∧ Scalar (64 * (64 * (64 * (c.toNat - 240) + (c1.toNat - 128)) + (c2.toNat - 128)) + (c3.toNat - 128)) then
          some (64 * (64 * (64 * (c.toNat - 240) + (c1.toNat - 128)) + (c2.toNat - 128)) + (c3.toNat - 128), 4) else none
      | _ => none
    else none

theorem name (n : Nat) (h : n < 256) : ∃ c : UInt8, UInt8.ofNat n = c ∧ c.toNat = n := ⟨_, rfl, u8_nat h⟩
theorem rune_enc (x : Nat) (t : List UInt8) (h : Scalar x) : rune (enc x ++ t) = some (x, (enc x).length) := by
  have h' := h
  unfold Scalar at h'
  unfold enc
  split
  · obtain ⟨c, e, hc⟩ := name x (by omega)
    rw [e]
    simp only [List.cons_append, List.nil_append, rune]
    rw [if_pos (by omega), hc]; rfl
  split
  · obtain ⟨c, e, hc⟩ := name (192 + x / 64) (by omega)
    obtain ⟨c1, e1, hc1⟩ := name (128 + x % 64) (by omega)
    have k : 64 * (c.toNat - 192) + (c1.toNat - 128) = x := by omega
    rw [e, e1]
    simp only [List.cons_append, List.nil_append, rune]
    rw [if_neg (by omega), if_pos (by omega), if_pos (by unfold Cont; omega), k]; rfl
  split
  · obtain ⟨c, e, hc⟩ := name (224 + x / 4096) (by omega)
    obtain ⟨c1, e1, hc1⟩ := name (128 + x / 64 % 64) (by omega)
    obtain ⟨c2, e2, hc2⟩ := name (128 + x % 64) (by omega)
    have k : 64 * (64 * (c.toNat - 224) + (c1.toNat - 128)) + (c2.toNat - 128) = x := by omega
    rw [e, e1, e2]
    simp only [List.cons_append, List.nil_append, rune]
    rw [if_neg (by omega), if_neg (by omega), if_pos (by omega), k, if_pos ⟨by unfold Cont; omega, by unfold Cont; omega, by omega, h⟩]; rfl
  · obtain ⟨c, e, hc⟩ := name (240 + x / 262144) (by omega)
    obtain ⟨c1, e1, hc1⟩ := name (128 + x / 4096 % 64) (by omega)
    obtain ⟨c2, e2, hc2⟩ := name (128 + x / 64 % 64) (by omega)
    obtain ⟨c3, e3, hc3⟩ := name (128 + x % 64) (by omega)
    have k : 64 * (64 * (64 * (c.toNat - 240) + (c1.toNat - 128)) + (c2.toNat - 128)) + (c3.toNat - 128) = x := by omega
    rw [e, e1, e2, e3]
    simp only [List.cons_append, List.nil_append, rune]
    rw [if_neg (by omega), if_neg (by omega), if_neg (by omega), if_pos (by omega), k, if_pos ⟨by unfold Cont; omega, by unfold Cont; omega, by unfold Cont; omega, by omega, h⟩]; rfl

theorem rune_some {l : List UInt8} {x n : Nat} (h : rune l = some (x, n)) : Scalar x ∧ n = (enc x).length ∧ ∃ t, l = enc x ++ t := by
  match l, h with
  | [], h => simp [rune] at h
  | c :: r, h =>
    simp only [rune] at h
    split at h
    · simp only [Option.some.injEq, Prod.mk.injEq] at h
      obtain ⟨rfl, rfl⟩ := h
      rename_i hc
      refine ⟨.inl (by omega), by simp [enc, hc], r, ?_⟩
      rw [enc, if_pos hc, ← u8_eq rfl]; rfl
    split at h
    · rename_i hc
      match r, h with
      | [], h => simp at h
      | c1 :: t, h =>
        simp only at h
        split at h
        · rename_i hx
          simp only [Option.some.injEq, Prod.mk.injEq] at h
          obtain ⟨hx1, rfl⟩ := h
          unfold Cont at hx
          have e1 : x / 64 = c.toNat - 192 := by omega
          have e2 : x % 64 = c1.toNat - 128 := by omega
          have e : enc x = [c, c1] := by
            rw [enc, if_neg (by omega), if_pos (by omega), ← u8_eq (c := c) (by omega), ← u8_eq (c := c1) (by omega)]
          exact ⟨.inl (by omega), by rw [e]; rfl, t, by rw [e]; rfl⟩
        · simp at h
    split at h
    · rename_i hc
      match r, h with
      | [], h => simp at h
      | [_], h => simp at h
      | c1 :: c2 :: t, h =>
        simp only at h
        split at h
        · rename_i hx
          simp only [Option.some.injEq, Prod.mk.injEq] at h
          obtain ⟨hx1, rfl⟩ := h
          obtain ⟨g1, g2, g3, g4⟩ := hx
          rw [hx1] at g4
          unfold Cont at g1 g2
          have e1 : x / 4096 = c.toNat - 224 := by omega
          have e2 : x / 64 % 64 = c1.toNat - 128 := by omega
          have e3 : x % 64 = c2.toNat - 128 := by omega
          have e : enc x = [c, c1, c2] := by
            rw [enc, if_neg (by omega), if_neg (by omega), if_pos (by omega), ← u8_eq (c := c) (by omega), ← u8_eq (c := c1) (by omega), ← u8_eq (c := c2) (by omega)]
          exact ⟨g4, by rw [e]; rfl, t, by rw [e]; rfl⟩
        · simp at h
    split at h
    · rename_i hc
      match r, h with
      | [], h => simp at h
      | [_], h => simp at h
      | [_, _], h => simp at h
      | c1 :: c2 :: c3 :: t, h =>
        simp only at h
        split at h
        · rename_i hx
          simp only [Option.some.injEq, Prod.mk.injEq] at h
          obtain ⟨hx1, rfl⟩ := h
          obtain ⟨g1, g2, g3, g4, g5⟩ := hx
          rw [hx1] at g5
          unfold Cont at g1 g2 g3
          have e1 : x / 262144 = c.toNat - 240 := by omega
          have e2 : x / 4096 % 64 = c1.toNat - 128 := by omega
          have e3 : x / 64 % 64 = c2.toNat - 128 := by omega
          have e4 : x % 64 = c3.toNat - 128 := by omega
          have e : enc x = [c, c1, c2, c3] := by
            rw [enc, if_neg (by omega), if_neg (by omega), if_neg (by omega), ← u8_eq (c := c) (by omega), ← u8_eq (c := c1) (by omega), ← u8_eq (c := c2) (by omega), ← u8_eq (c := c3) (by omega)]
          exact ⟨g5, by rw [e]; rfl, t, by rw [e]; rfl⟩
        · simp at h
    · simp at h

theorem enc_length (x : Nat) : 1 ≤ (enc x).length ∧ (enc x).length ≤ 4 := by
  unfold enc; split; simp; split; simp; split <;> simp

/-- All runes of a text, if it is one. -/
def runesF : Nat → List UInt8 → Option (List Nat)
  | _, [] => some []
  | 0, _ => none
  | f + 1, l => match rune l with
    | none => none
    | some (x, n) => (runesF f (l.drop n)).map (x :: ·)
def runes (l : List UInt8) : Option (List Nat) := runesF l.length l

/-- The bytes of runes. -/
def cat (xs : List Nat) : List UInt8 := xs.flatMap enc
theorem cat_nil : cat [] = [] := rfl
theorem cat_cons (x : Nat) (xs : List Nat) : cat (x :: xs) = enc x ++ cat xs := by simp [cat]
theorem cat_append (xs ys : List Nat) : cat (xs ++ ys) = cat xs ++ cat ys := by simp [cat]

theorem runesF_step (f : Nat) (l : List UInt8) (h : l ≠ []) (x n : Nat) (hr : rune l = some (x, n)) : runesF (f + 1) l = (runesF f (l.drop n)).map (x :: ·) := by
  cases l with
  | nil => exact absurd rfl h
  | cons c r => rw [runesF]; simp only [hr]; intro e; cases e
theorem runesF_cat : ∀ (xs : List Nat) (f : Nat), (cat xs).length ≤ f → (∀ x ∈ xs, Scalar x) → runesF f (cat xs) = some xs
  | [], f, _, _ => by cases f <;> rfl
  | x :: xs, f, hf, hs => by
    have hx := hs x (List.mem_cons_self)
    obtain ⟨h1, h2⟩ := enc_length x
    rw [cat_cons, List.length_append] at hf
    obtain ⟨f, rfl⟩ : ∃ g, f = g + 1 := ⟨f - 1, by omega⟩
    have hne : cat (x :: xs) ≠ [] := by
      intro e; have := congrArg List.length e; rw [cat_cons] at this; simp only [List.length_append, List.length_nil] at this; omega
    have hr : rune (cat (x :: xs)) = some (x, (enc x).length) := by rw [cat_cons]; exact rune_enc x _ hx
    rw [runesF_step f _ hne x _ hr, show (cat (x :: xs)).drop (enc x).length = cat xs by rw [cat_cons, List.drop_left], runesF_cat xs f (by omega) (fun y hy => hs y (List.mem_cons_of_mem _ hy))]
    rfl
theorem runes_cat (xs : List Nat) (hs : ∀ x ∈ xs, Scalar x) : runes (cat xs) = some xs := runesF_cat xs _ (Nat.le_refl _) hs

theorem runesF_some : ∀ (f : Nat) (l : List UInt8) (xs : List Nat), runesF f l = some xs → l = cat xs ∧ ∀ x ∈ xs, Scalar x := by
  intro f
  induction f with
  | zero =>
    intro l xs h
    match l, h with
    | [], h => simp [runesF] at h; subst h; exact ⟨rfl, fun x hx => by cases hx⟩
    | _ :: _, h => simp [runesF] at h
  | succ f ih =>
    intro l xs h
    match l, h with
    | [], h => simp [runesF] at h; subst h; exact ⟨rfl, fun x hx => by cases hx⟩
    | c :: r, h =>
      simp only [runesF] at h
      match hr : rune (c :: r), h with
      | none, h => simp at h
      | some (x, n), h =>
        simp only [Option.map_eq_some_iff] at h
        obtain ⟨ys, hy, rfl⟩ := h
        obtain ⟨g1, g2, t, g3⟩ := rune_some hr
        obtain ⟨k1, k2⟩ := ih _ _ hy
        rw [g3, g2, List.drop_left] at k1
        refine ⟨by rw [cat_cons, ← k1, g3], fun y hy => ?_⟩
        rcases List.mem_cons.1 hy with rfl | hy
        · exact g1
        · exact k2 y hy
theorem runes_some {l : List UInt8} {xs : List Nat} (h : runes l = some xs) : l = cat xs ∧ ∀ x ∈ xs, Scalar x := runesF_some _ _ _ h
theorem runes_iff {l : List UInt8} {xs : List Nat} : runes l = some xs ↔ l = cat xs ∧ ∀ x ∈ xs, Scalar x :=
  ⟨runes_some, fun ⟨h1, h2⟩ => by rw [h1]; exact runes_cat xs h2⟩

theorem cat_inj {xs ys : List Nat} (hx : ∀ x ∈ xs, Scalar x) (hy : ∀ y ∈ ys, Scalar y) (h : cat xs = cat ys) : xs = ys := by
  have := runes_cat xs hx; rw [h, runes_cat ys hy] at this; simpa using this.symm

/-- Behind valid runes a text is one if the rest is. -/
theorem runes_behind (xs : List Nat) (t : List UInt8) (hx : ∀ x ∈ xs, Scalar x) : runes (cat xs ++ t) = (runes t).map (xs ++ ·) := by
  cases ht : runes t with
  | some ys =>
    obtain ⟨rfl, hy⟩ := runes_some ht
    rw [← cat_append]
    exact runes_cat _ (fun z hz => by rcases List.mem_append.1 hz with h | h; exact hx z h; exact hy z h)
  | none =>
    cases ha : runes (cat xs ++ t) with
    | none => rfl
    | some zs =>
      exfalso
      obtain ⟨e, hz⟩ := runes_some ha
      clear ha
      induction xs generalizing zs with
      | nil => rw [show t = cat zs from e] at ht; rw [runes_cat zs hz] at ht; simp at ht
      | cons x xs ih =>
        cases zs with
        | nil =>
          have h1 := congrArg List.length e; have h2 := enc_length x
          rw [cat_cons, cat_nil] at h1; simp only [List.length_append, List.length_nil] at h1; omega
        | cons z zs =>
          rw [cat_cons, cat_cons, List.append_assoc] at e
          have h1 := rune_enc x (cat xs ++ t) (hx x List.mem_cons_self)
          rw [e, rune_enc z _ (hz z List.mem_cons_self)] at h1
          simp only [Option.some.injEq, Prod.mk.injEq] at h1
          obtain ⟨rfl, _⟩ := h1
          exact ih (fun y hy => hx y (List.mem_cons_of_mem _ hy)) zs (List.append_cancel_left e) (fun y hy => hz y (List.mem_cons_of_mem _ hy))

theorem rune_none {t : List UInt8} (h : rune t = none) (ht : t ≠ []) : runes t = none := by
  cases hr : runes t with
  | none => rfl
  | some xs =>
    obtain ⟨rfl, hx⟩ := runes_some hr
    cases xs with
    | nil => exact absurd rfl ht
    | cons x xs => rw [cat_cons, rune_enc x _ (hx x List.mem_cons_self)] at h; simp at h

end Text
end Go.Proofs.YtnpjkmomllkhpaaGreat

namespace Go.Proofs.YtnpjkmomllkhpaaGreat
namespace Text

theorem get_some {s : ByteArray} {i k : Nat} {c : UInt8} (h : (s.data.toList.drop i)[k]? = some c) : i + k < s.size ∧ s.get! (i + k) = c := by
  rw [List.getElem?_drop] at h
  obtain ⟨h1, h2⟩ := List.getElem?_eq_some_iff.1 h
  have h3 : i + k < s.size := by simpa using h1
  refine ⟨h3, ?_⟩
  rw [← h2]
  show s.data[i + k]! = _
  rw [getElem!_pos s.data (i + k) h3]
  simp
theorem get_none {s : ByteArray} {i k : Nat} (h : (s.data.toList.drop i)[k]? = none) : ¬ i + k < s.size := by
  rw [List.getElem?_drop, List.getElem?_eq_none_iff] at h
  simpa using h

theorem cont_div (c : UInt8) : (c.toNat / 64 == 2) = decide (Cont c) := by
  have := c.toNat_lt
  by_cases h : Cont c
  · rw [decide_eq_true h, beq_iff_eq]; unfold Cont at h; omega
  · rw [decide_eq_false h, beq_eq_false_iff_ne]; unfold Cont at h; omega

theorem valid_scalar (x : Nat) : Utf8.valid (x : Int) = decide (Scalar x) := by
  by_cases h : Scalar x
  · rw [decide_eq_true h]; unfold Scalar at h; simp [Utf8.valid]; omega
  · rw [decide_eq_false h]; unfold Scalar at h; simp [Utf8.valid]; omega

theorem decode_rune (s : ByteArray) (i : Nat) (h : i < s.size) : Utf8.decode s i = (rune (s.data.toList.drop i)).getD (65533, 1) := by
  have hd := Str.drop_at s i h
  obtain ⟨c, hc⟩ : ∃ c, s[i] = c := ⟨_, rfl⟩
  obtain ⟨r, hr⟩ : ∃ r, s.data.toList.drop (i + 1) = r := ⟨_, rfl⟩
  rw [hc, hr] at hd
  have g0 := get_some (s := s) (i := i) (k := 0) (c := c) (by rw [hd]; rfl)
  have hlt := c.toNat_lt
  rw [hd]
  unfold Utf8.decode
  simp only [g0.2]
  by_cases a0 : c.toNat < 128
  · simp [rune, a0]
  rw [if_neg a0]
  simp only [rune]
  rw [if_neg a0]
  by_cases a1 : 192 ≤ c.toNat ∧ c.toNat < 224
  · rw [if_pos a1]
    have b1 : (c.toNat / 32 == 6) = true := by rw [beq_iff_eq]; omega
    have b2 : (c.toNat / 16 == 14) = false := by rw [beq_eq_false_iff_ne]; omega
    have b3 : (c.toNat / 8 == 30) = false := by rw [beq_eq_false_iff_ne]; omega
    rw [b1, b2, b3]
    match r with
    | [] =>
      have n1 := get_none (s := s) (i := i) (k := 1) (by rw [hd]; rfl)
      simp [n1, Utf8.runeError]
    | c1 :: t =>
      obtain ⟨p1, q1⟩ := get_some (s := s) (i := i) (k := 1) (c := c1) (by rw [hd]; rfl)
      simp only [p1, q1, decide_true, Bool.true_and, Bool.false_and, cont_div]
      by_cases k1 : Cont c1
      · have e : c.toNat % 32 * 64 + c1.toNat % 64 = 64 * (c.toNat - 192) + (c1.toNat - 128) := by unfold Cont at k1; omega
        simp only [k1, decide_true, if_true, true_and, e]
        by_cases k2 : 128 ≤ 64 * (c.toNat - 192) + (c1.toNat - 128)
        · rw [if_pos k2, if_pos k2]; rfl
        · rw [if_neg k2, if_neg k2]; rfl
      · simp [k1, Utf8.runeError]
  rw [if_neg a1]
  have b1 : (c.toNat / 32 == 6) = false := by rw [beq_eq_false_iff_ne]; omega
  rw [b1]
  by_cases a2 : 224 ≤ c.toNat ∧ c.toNat < 240
  · rw [if_pos a2]
    have b2 : (c.toNat / 16 == 14) = true := by rw [beq_iff_eq]; omega
    have b3 : (c.toNat / 8 == 30) = false := by rw [beq_eq_false_iff_ne]; omega
    rw [b2, b3]
    match r with
    | [] =>
      have n1 := get_none (s := s) (i := i) (k := 1) (by rw [hd]; rfl)
      simp [n1, Utf8.runeError]
    | [c1] =>
      have n1 := get_none (s := s) (i := i) (k := 2) (by rw [hd]; rfl)
      simp [n1, Utf8.runeError]
    | c1 :: c2 :: t =>
      obtain ⟨p1, q1⟩ := get_some (s := s) (i := i) (k := 1) (c := c1) (by rw [hd]; rfl)
      obtain ⟨p2, q2⟩ := get_some (s := s) (i := i) (k := 2) (c := c2) (by rw [hd]; rfl)
      simp only [p1, q1, p2, q2, decide_true, Bool.true_and, Bool.false_and, cont_div, Bool.false_eq_true, if_false]
      by_cases k1 : Cont c1
      · by_cases k2 : Cont c2
        · have e : c.toNat % 16 * 4096 + c1.toNat % 64 * 64 + c2.toNat % 64 = 64 * (64 * (c.toNat - 224) + (c1.toNat - 128)) + (c2.toNat - 128) := by unfold Cont at k1 k2; omega
          simp only [k1, k2, decide_true, Bool.true_and, if_true, true_and, e, valid_scalar]
          generalize 64 * (64 * (c.toNat - 224) + (c1.toNat - 128)) + (c2.toNat - 128) = x
          by_cases k3 : 2048 ≤ x ∧ Scalar x
          · rw [if_pos k3, if_pos (by simpa using k3)]; rfl
          · rw [if_neg k3, if_neg (by simpa using k3)]; rfl
        · simp [k1, k2, Utf8.runeError]
      · simp [k1, Utf8.runeError]
  rw [if_neg a2]
  have b2 : (c.toNat / 16 == 14) = false := by rw [beq_eq_false_iff_ne]; omega
  rw [b2]
  by_cases a3 : 240 ≤ c.toNat ∧ c.toNat < 248
  · rw [if_pos a3]
    have b3 : (c.toNat / 8 == 30) = true := by rw [beq_iff_eq]; omega
    rw [b3]
    match r with
    | [] =>
      have n1 := get_none (s := s) (i := i) (k := 1) (by rw [hd]; rfl)
      simp [n1, Utf8.runeError]
    | [c1] =>
      have n1 := get_none (s := s) (i := i) (k := 2) (by rw [hd]; rfl)
      simp [n1, Utf8.runeError]
    | [c1, c2] =>
      have n1 := get_none (s := s) (i := i) (k := 3) (by rw [hd]; rfl)
      simp [n1, Utf8.runeError]
    | c1 :: c2 :: c3 :: t =>
      obtain ⟨p1, q1⟩ := get_some (s := s) (i := i) (k := 1) (c := c1) (by rw [hd]; rfl)
      obtain ⟨p2, q2⟩ := get_some (s := s) (i := i) (k := 2) (c := c2) (by rw [hd]; rfl)
      obtain ⟨p3, q3⟩ := get_some (s := s) (i := i) (k := 3) (c := c3) (by rw [hd]; rfl)
      simp only [p1, q1, p2, q2, p3, q3, decide_true, Bool.true_and, Bool.false_and, cont_div, Bool.false_eq_true, if_false]
      by_cases k1 : Cont c1
      · by_cases k2 : Cont c2
        · by_cases k4 : Cont c3
          · have e : c.toNat % 8 * 262144 + c1.toNat % 64 * 4096 + c2.toNat % 64 * 64 + c3.toNat % 64 = 64 * (64 * (64 * (c.toNat - 240) + (c1.toNat - 128)) + (c2.toNat - 128)) + (c3.toNat - 128) := by unfold Cont at k1 k2 k4; omega
            simp only [k1, k2, k4, decide_true, Bool.true_and, if_true, true_and, e, valid_scalar]
            generalize 64 * (64 * (64 * (c.toNat - 240) + (c1.toNat - 128)) + (c2.toNat - 128)) + (c3.toNat - 128) = x
            by_cases k3 : 65536 ≤ x ∧ Scalar x
            · rw [if_pos k3, if_pos (by simpa using k3)]; rfl
            · rw [if_neg k3, if_neg (by simpa using k3)]; rfl
          · simp [k1, k2, k4, Utf8.runeError]
        · simp [k1, k2, Utf8.runeError]
      · simp [k1, Utf8.runeError]
  · rw [if_neg a3]
    have b3 : (c.toNat / 8 == 30) = false := by rw [beq_eq_false_iff_ne]; omega
    rw [b3]
    simp [Utf8.runeError]

/-- A walk over a string has come to the byte pos: the runes xs lie behind it. -/
def At (s : ByteArray) (xs : List Nat) (pos : Nat) : Prop := (∀ x ∈ xs, Scalar x) ∧ pos = (cat xs).length ∧ ∃ t, s.data.toList = cat xs ++ t
theorem At.zero (s : ByteArray) : At s [] 0 := ⟨(fun x hx => by cases hx), rfl, _, rfl⟩
theorem cat_len : ∀ xs : List Nat, xs.length ≤ (cat xs).length
  | [] => by simp
  | x :: xs => by have := cat_len xs; have := enc_length x; rw [cat_cons, List.length_append, List.length_cons]; omega
theorem At.le {s : ByteArray} {xs : List Nat} {pos : Nat} (h : At s xs pos) : xs.length ≤ pos ∧ pos ≤ s.size := by
  obtain ⟨_, h2, t, h3⟩ := h
  have := cat_len xs
  have h4 := congrArg List.length h3
  rw [List.length_append, ← Str.size_eq] at h4
  omega
theorem At.drop {s : ByteArray} {xs : List Nat} {pos : Nat} (h : At s xs pos) : s.data.toList = cat xs ++ s.data.toList.drop pos := by
  obtain ⟨_, h2, t, h3⟩ := h
  rw [h2, h3, List.drop_left]
theorem At.next {s : ByteArray} {xs : List Nat} {pos : Nat} (h : At s xs pos) (hp : pos < s.size) :
    (∃ x k, Utf8.decode s pos = (x, k) ∧ rune (s.data.toList.drop pos) = some (x, k) ∧ At s (xs ++ [x]) (pos + k) ∧ 1 ≤ k ∧ x ≤ 1114111) ∨
    (Utf8.decode s pos = (65533, 1) ∧ rune (s.data.toList.drop pos) = none ∧ runes s.data.toList = none) := by
  have hd := decode_rune s pos hp
  have hdr := h.drop
  cases hr : rune (s.data.toList.drop pos) with
  | none =>
    right
    rw [hr] at hd
    refine ⟨hd, rfl, ?_⟩
    rw [hdr, runes_behind xs _ h.1, rune_none hr (by intro e; have := congrArg List.length e; simp at this; omega)]
    rfl
  | some y =>
    obtain ⟨x, k⟩ := y
    left
    rw [hr] at hd
    obtain ⟨g1, g2, t, g3⟩ := rune_some hr
    have ge := enc_length x
    refine ⟨x, k, hd, rfl, ⟨?_, ?_, t, ?_⟩, by omega, by unfold Scalar at g1; omega⟩
    · intro y hy
      rcases List.mem_append.1 hy with hy | hy
      · exact h.1 y hy
      · rw [List.mem_singleton.1 hy]; exact g1
    · rw [cat_append, List.length_append, ← h.2.1, g2]; simp [cat]
    · rw [hdr, g3, cat_append, List.append_assoc]; simp [cat]
theorem At.last {s : ByteArray} {xs : List Nat} {pos : Nat} (h : At s xs pos) (hp : ¬ pos < s.size) : runes s.data.toList = some xs := by
  have hdr := h.drop
  rw [List.drop_eq_nil_of_le (by rw [← Str.size_eq]; omega), List.append_nil] at hdr
  rw [hdr]; exact runes_cat xs h.1
/-- Of a text: what it comes to at a place is the beginning of its runes. -/
theorem At.pre {s : ByteArray} {xs ys : List Nat} {pos : Nat} (h : At s xs pos) (hy : runes s.data.toList = some ys) : xs = ys.take xs.length ∧ xs.length ≤ ys.length := by
  have hdr := h.drop
  rw [hdr, runes_behind xs _ h.1] at hy
  obtain ⟨zs, _, rfl⟩ := Option.map_eq_some_iff.1 hy
  simp

/-- How many runes; -1, if it is no text. -/
def count (o : Option (List Nat)) : Int := match o with | none => -1 | some xs => xs.length
theorem count_some (xs : List Nat) : count (some xs) = xs.length := rfl
theorem count_none : count none = -1 := rfl

theorem prefix_iff (l : List UInt8) : Lib.hasPrefix l [239, 191, 189] = true ↔ ∃ t, l = enc 65533 ++ t := by
  have e : enc 65533 = [239, 191, 189] := by decide
  rw [e, Lib.hasPrefix, List.isPrefixOf_iff_prefix]
  exact ⟨fun ⟨t, h⟩ => ⟨t, h.symm⟩, fun ⟨t, h⟩ => ⟨t, h.symm⟩⟩

/-- Which runes stand in no key. -/
def ctrl (x : Nat) : Bool := decide (x < 32) || (decide (127 ≤ x) && decide (x ≤ 159))
/-- What a key is of that begins with x. -/
def sgn (x : Nat) : Nat := if x = 35 then 1 else if x = 64 then 2 else if x = 61 then 3 else 0
def hd : List Nat → Nat
  | [] => 0
  | x :: _ => sgn x
/-- What a key is of; 0, if it is none. -/
def kind : Option (List Nat) → Nat
  | none => 0
  | some xs => if xs.length ≤ 64 ∧ ∀ x ∈ xs, ctrl x = false then hd xs else 0
def Good (xs : List Nat) : Prop := xs.length ≤ 64 ∧ (∀ x ∈ xs, ctrl x = false) ∧ (xs = [] ∨ hd xs ≠ 0)
theorem Good.nil : Good [] := ⟨by simp, (fun x hx => by cases hx), .inl rfl⟩
theorem hd_append {xs : List Nat} (h : xs ≠ []) (ys : List Nat) : hd (xs ++ ys) = hd xs := by cases xs with | nil => exact absurd rfl h | cons x xs => rfl
theorem sgn_le (x : Nat) : sgn x ≤ 3 := by unfold sgn; split; omega; split; omega; split <;> omega
theorem hd_le (xs : List Nat) : hd xs ≤ 3 := by cases xs with | nil => simp [hd] | cons x xs => exact sgn_le x
theorem Good.kind {xs : List Nat} (h : Good xs) : kind (some xs) = hd xs := by show (if _ then _ else _) = _; rw [if_pos ⟨h.1, h.2.1⟩]
theorem Good.snoc {xs : List Nat} {x : Nat} (h : Good xs) (h1 : hd (xs ++ [x]) ≠ 0) (h2 : xs.length ≠ 64) (h3 : ctrl x = false) : Good (xs ++ [x]) := by
  refine ⟨?_, ?_, .inr h1⟩
  · have := h.1; rw [List.length_append, List.length_singleton]; omega
  · intro y hy
    rcases List.mem_append.1 hy with hy | hy
    · exact h.2.1 y hy
    · rw [List.mem_singleton.1 hy]; exact h3
theorem kind_bad {s : ByteArray} {xs : List Nat} {x pos : Nat} (h : At s (xs ++ [x]) pos) (hb : hd (xs ++ [x]) = 0 ∨ xs.length = 64 ∨ ctrl x = true) : kind (runes s.data.toList) = 0 := by
  cases hr : runes s.data.toList with
  | none => rfl
  | some ys =>
    obtain ⟨h1, h2⟩ := h.pre hr
    have h3 := List.take_append_drop (xs ++ [x]).length ys
    rw [← h1] at h3
    show (if _ then _ else _) = _
    split
    · rename_i hg
      rcases hb with hb | hb | hb
      · rw [← h3, hd_append (by simp), hb]
      · rw [List.length_append, List.length_singleton] at h2; omega
      · have := hg.2 x (by rw [← h3]; simp); rw [hb] at this; cases this
    · rfl

/-- The first n runes of a text. -/
def cutL (o : Option (List Nat)) (n : Int) : List UInt8 := match o with | none => [] | some xs => cat (xs.take n.toNat)
theorem cut_at {s : ByteArray} {xs ys : List Nat} {pos : Nat} (h : At s xs pos) (hy : runes s.data.toList = some ys) {n : Int} (hn : n = xs.length) :
    ({ data := (cutL (runes s.data.toList) n).toArray } : ByteArray) = s.extract 0 pos := by
  obtain ⟨h1, _⟩ := h.pre hy
  refine Str.ext ?_
  rw [hy, Str.extract_toList, List.drop_zero, List.toList_toArray, hn, cutL, Int.toNat_natCast, ← h1]
  conv => rhs; rw [h.drop]
  rw [h.2.1, List.take_left]
theorem cut_end {s : ByteArray} {xs : List Nat} {pos : Nat} (h : At s xs pos) (hp : ¬ pos < s.size) {n : Int} (hn : (xs.length : Int) ≤ n) :
    ({ data := (cutL (runes s.data.toList) n).toArray } : ByteArray) = s := by
  have hl := h.last hp
  refine Str.ext ?_
  rw [hl, List.toList_toArray, cutL, List.take_of_length_le (by omega)]
  exact (runes_some hl).1.symm

end Text
end Go.Proofs.YtnpjkmomllkhpaaGreat

namespace Go.Proofs.YtnpjkmomllkhpaaGreat
namespace Text
open Go.RowKit

set_option maxHeartbeats 400000 in
/-- broken, where a rune begins. -/
theorem broken_no (s : ByteArray) (i x k : Nat) (w : World) (hi : i ≤ s.size) (hr : rune (s.data.toList.drop i) = some (x, k)) :
    Calls Tryz.prog 76 #[.string s, .int .i64 i, .int .i32 x] w fun e w' => e = .returned (.bool false) ∧ w = w' := by
  have Hr := Lib.hid hr
  clear hr
  by_cases hx : x = 65533
  · subst hx
    have hp : Lib.hasPrefix (s.extract i s.size).data.toList [239, 191, 189] = true := by
      obtain ⟨_, _, t, h⟩ := rune_some Hr.out
      rw [prefix_iff, Str.extract_toList, List.take_of_length_le (by simp)]
      exact ⟨t, h⟩
    have Hp := Lib.hid hp
    clear hp
    go_enter Tryz.func76, Tryz.ntmps76
    go_wp2_with fail
    refine (Tryz.strings_HasPrefix _ _ _).mono ?_
    rintro e w' ⟨rfl, hw⟩
    subst hw
    rw [Hp.out]
    go_wp2
    go_ret
    exact ⟨rfl, rfl⟩
  · have hx' : ((x : Int) == 65533) = false := by rw [beq_eq_false_iff_ne]; omega
    go_enter Tryz.func76, Tryz.ntmps76
    go_wp2
    go_ret
    exact ⟨rfl, rfl⟩

set_option maxHeartbeats 400000 in
/-- broken, where none begins. -/
theorem broken_yes (s : ByteArray) (i : Nat) (w : World) (hi : i ≤ s.size) (hr : rune (s.data.toList.drop i) = none) :
    Calls Tryz.prog 76 #[.string s, .int .i64 i, .int .i32 65533] w fun e w' => e = .returned (.bool true) ∧ w = w' := by
  have hp : Lib.hasPrefix (s.extract i s.size).data.toList [239, 191, 189] = false := by
    cases h : Lib.hasPrefix (s.extract i s.size).data.toList [239, 191, 189] with
    | false => rfl
    | true =>
      rw [prefix_iff, Str.extract_toList, List.take_of_length_le (by simp)] at h
      obtain ⟨t, h⟩ := h
      rw [h, rune_enc 65533 t (by decide)] at hr
      cases hr
  have Hp := Lib.hid hp
  clear hp hr
  go_enter Tryz.func76, Tryz.ntmps76
  go_wp2_with fail
  refine (Tryz.strings_HasPrefix _ _ _).mono ?_
  rintro e w' ⟨rfl, hw⟩
  subst hw
  rw [Hp.out]
  go_wp2
  go_ret
  exact ⟨rfl, rfl⟩

set_option maxHeartbeats 400000 in
theorem sign_any (x : Nat) (w : World) :
    Calls Tryz.prog 74 #[.int .i32 x] w fun e w' => e = .returned (.int .u8 (sgn x)) ∧ w = w' := by
  by_cases h1 : x = 35
  · subst h1
    go_enter Tryz.func74, Tryz.ntmps74
    go_wp2
    go_ret
    exact ⟨rfl, rfl⟩
  by_cases h2 : x = 64
  · subst h2
    go_enter Tryz.func74, Tryz.ntmps74
    go_wp2
    go_ret
    exact ⟨rfl, rfl⟩
  by_cases h3 : x = 61
  · subst h3
    go_enter Tryz.func74, Tryz.ntmps74
    go_wp2
    go_ret
    exact ⟨rfl, rfl⟩
  have e : sgn x = 0 := by simp [sgn, h1, h2, h3]
  have e1 : ((x : Int) == 35) = false := by rw [beq_eq_false_iff_ne]; omega
  have e2 : ((x : Int) == 64) = false := by rw [beq_eq_false_iff_ne]; omega
  have e3 : ((x : Int) == 61) = false := by rw [beq_eq_false_iff_ne]; omega
  rw [e]
  clear e
  go_enter Tryz.func74, Tryz.ntmps74
  go_wp2
  go_ret
  exact ⟨rfl, rfl⟩

set_option maxHeartbeats 400000 in
theorem control_any (x : Nat) (w : World) :
    Calls Tryz.prog 75 #[.int .i32 x] w fun e w' => e = .returned (.bool (ctrl x)) ∧ w = w' := by
  by_cases h1 : x < 32
  · have b1 : decide ((x : Int) < 32) = true := by simp; omega
    rw [show ctrl x = true by simp [ctrl, h1]]
    go_enter Tryz.func75, Tryz.ntmps75
    go_wp2
    go_ret
    exact ⟨rfl, rfl⟩
  have b1 : decide ((x : Int) < 32) = false := by simp; omega
  by_cases h2 : 127 ≤ x
  · have b2 : decide ((127 : Int) ≤ (x : Int)) = true := by simp; omega
    by_cases h3 : x ≤ 159
    · have b3 : decide ((x : Int) ≤ 159) = true := by simp; omega
      rw [show ctrl x = true by simp [ctrl, h2, h3]]
      go_enter Tryz.func75, Tryz.ntmps75
      go_wp2
      go_ret
      exact ⟨rfl, rfl⟩
    · have b3 : decide ((x : Int) ≤ 159) = false := by simp; omega
      rw [show ctrl x = false by simp [ctrl, h1, h3]]
      go_enter Tryz.func75, Tryz.ntmps75
      go_wp2
      go_ret
      exact ⟨rfl, rfl⟩
  · have b2 : decide ((127 : Int) ≤ (x : Int)) = false := by simp; omega
    rw [show ctrl x = false by simp [ctrl, h1, h2]]
    go_enter Tryz.func75, Tryz.ntmps75
    go_wp2
    go_ret
    exact ⟨rfl, rfl⟩

set_option maxRecDepth 100000 in
set_option maxHeartbeats 1000000 in
theorem kind_any (s : ByteArray) (w : World) (_hs : s.size ≤ maxLen) :
    Calls Tryz.prog 43 #[.string s] w fun e w' => e = .returned (.int .u8 (kind (runes s.data.toList))) ∧ Below w.heap.size w w' := by
  go_enter Tryz.func43, Tryz.ntmps43
  go_wp2
  go_loopw [3, 4] (fun kd n wr => ∃ (xs : List Nat) (pos : Nat), At s xs pos ∧ Good xs ∧ kd = .int .u8 (hd xs) ∧ n = .int .i64 xs.length ∧ wr = w.iter s pos) (fun _ _ wr => s.size - wr.iterPos w.heap.size)
  case atStart => exact ⟨[], 0, At.zero s, Good.nil, rfl, rfl, rfl⟩
  case round =>
    obtain ⟨xs, pos, hat, hgood, rfl, rfl, rfl⟩ := hrel
    obtain ⟨hle1, hle2⟩ := hat.le
    by_cases hp : pos < s.size
    · rcases hat.next hp with ⟨x, k, hd', hr, hat', hk, hx⟩ | ⟨hd', hr, hn⟩
      · have hnx : ∀ ty, (Instr.next (.pointer (some ⟨w.heap.size, 0, none⟩)) true ty).run Tryz.prog (w.iter s pos) = _ := fun ty => run_next_any w s pos ty hp
        rw [hd'] at hnx
        simp only at hnx
        have Hr := Lib.hid hr
        clear hr hd'
        -- what a key is of, behind this rune
        obtain ⟨kd, hkd⟩ : ∃ kd, kd = hd (xs ++ [x]) := ⟨_, rfl⟩
        have hkle := hd_le (xs ++ [x])
        rw [← hkd] at hkle
        have Hk := Lib.hid hkd
        have hb := fun h => kind_bad hat' h
        have hgs := fun h1 h2 h3 => Good.snoc hgood h1 h2 h3 (x := x)
        have Hb := Lib.hid hb
        have Hg := Lib.hid hgs
        clear hb hgs
        by_cases h0 : xs = []
        · subst h0
          have Hs := Lib.hid (show kd = sgn x from Hk.out)
          clear hkd
          by_cases hk0 : kd = 0
          · subst hk0
            go_wp2_with fail
            refine (sign_any x _).mono ?_
            rintro e w' ⟨rfl, rfl⟩
            rw [← Hs.out]
            go_wp2_with fail
            go_ret
            rw [Hb.out (.inl Hk.out.symm)]
            exact ⟨rfl, (Below.refl _ _).alloc (Nat.le_refl _) _⟩
          have hk1 : ((kd : Int) == 0) = false := by rw [beq_eq_false_iff_ne]; omega
          cases hc : ctrl x with
          | true =>
            have Hc := Lib.hid hc
            clear hc
            go_wp2_with fail
            refine (sign_any x _).mono ?_
            rintro e w' ⟨rfl, rfl⟩
            rw [← Hs.out]
            go_wp2_with fail
            refine (control_any x _).mono ?_
            rintro e w' ⟨rfl, rfl⟩
            rw [Hc.out]
            go_wp2_with fail
            go_ret
            rw [Hb.out (.inr (.inr Hc.out))]
            exact ⟨rfl, (Below.refl _ _).alloc (Nat.le_refl _) _⟩
          | false =>
            have Hc := Lib.hid hc
            clear hc
            go_wp2_with fail
            refine (sign_any x _).mono ?_
            rintro e w' ⟨rfl, rfl⟩
            rw [← Hs.out]
            go_wp2_with fail
            refine (control_any x _).mono ?_
            rintro e w' ⟨rfl, rfl⟩
            rw [Hc.out]
            go_wp2_with fail
            refine (broken_no s pos x k _ hle2 Hr.out).mono ?_
            rintro e w' ⟨rfl, rfl⟩
            go_wp2
            exact ⟨⟨[] ++ [x], pos + k, hat', Hg.out (by rw [← Hk.out]; exact hk0) (by simp) Hc.out, by rw [← Hk.out], rfl, rfl⟩, by simp; omega⟩
        · have hl0 : ((xs.length : Int) == 0) = false := by rw [beq_eq_false_iff_ne]; have := List.length_pos_iff.2 h0; omega
          have hk0 : kd ≠ 0 := by rw [hkd, hd_append h0]; rcases hgood.2.2 with h | h; exact absurd h h0; exact h
          have hk1 : ((kd : Int) == 0) = false := by rw [beq_eq_false_iff_ne]; omega
          rw [show hd xs = kd by rw [hkd, hd_append h0]]
          have hl64 := hgood.1
          clear hkd hgood
          by_cases h64 : xs.length = 64
          · have h64' : ((xs.length : Int) == 64) = true := by rw [beq_iff_eq]; omega
            have H64 := Lib.hid h64
            clear h64
            go_wp2
            go_ret
            rw [Hb.out (.inr (.inl H64.out))]
            exact ⟨rfl, (Below.refl _ _).alloc (Nat.le_refl _) _⟩
          have h64' : ((xs.length : Int) == 64) = false := by rw [beq_eq_false_iff_ne]; omega
          cases hc : ctrl x with
          | true =>
            have Hc := Lib.hid hc
            clear hc
            go_wp2_with fail
            refine (control_any x _).mono ?_
            rintro e w' ⟨rfl, rfl⟩
            rw [Hc.out]
            go_wp2_with fail
            go_ret
            rw [Hb.out (.inr (.inr Hc.out))]
            exact ⟨rfl, (Below.refl _ _).alloc (Nat.le_refl _) _⟩
          | false =>
            have Hc := Lib.hid hc
            clear hc
            go_wp2_with fail
            refine (control_any x _).mono ?_
            rintro e w' ⟨rfl, rfl⟩
            rw [Hc.out]
            go_wp2_with fail
            refine (broken_no s pos x k _ hle2 Hr.out).mono ?_
            rintro e w' ⟨rfl, rfl⟩
            go_wp2
            exact ⟨⟨xs ++ [x], pos + k, hat', Hg.out (by rw [← Hk.out]; exact hk0) h64 Hc.out, by rw [← Hk.out], by rw [List.length_append, List.length_singleton]; go_num, rfl⟩, by simp; omega⟩
      · have hnx : ∀ ty, (Instr.next (.pointer (some ⟨w.heap.size, 0, none⟩)) true ty).run Tryz.prog (w.iter s pos) = _ := fun ty => run_next_any w s pos ty hp
        rw [hd'] at hnx
        simp only at hnx
        have Hr := Lib.hid hr
        have Hn := Lib.hid hn
        clear hr hn hd'
        have c1 : sgn 65533 = 0 := by decide
        have c2 : ctrl 65533 = false := by decide
        have C1 := Lib.hid c1
        have C2 := Lib.hid c2
        clear c1 c2
        by_cases h0 : xs = []
        · subst h0
          go_wp2_with fail
          refine (sign_any 65533 _).mono ?_
          rintro e w' ⟨rfl, rfl⟩
          rw [C1.out]
          go_wp2
          go_ret
          rw [Hn.out]
          exact ⟨rfl, (Below.refl _ _).alloc (Nat.le_refl _) _⟩
        · have hl0 : ((xs.length : Int) == 0) = false := by rw [beq_eq_false_iff_ne]; have := List.length_pos_iff.2 h0; omega
          have hle3 := hd_le xs
          have hk1 : ((hd xs : Int) == 0) = false := by rw [beq_eq_false_iff_ne]; rcases hgood.2.2 with h | h; exact absurd h h0; omega
          by_cases h64 : xs.length = 64
          · have h64' : ((xs.length : Int) == 64) = true := by rw [beq_iff_eq]; omega
            have H64 := Lib.hid h64
            clear h64
            go_wp2
            go_ret
            rw [Hn.out]
            exact ⟨rfl, (Below.refl _ _).alloc (Nat.le_refl _) _⟩
          have h64' : ((xs.length : Int) == 64) = false := by rw [beq_eq_false_iff_ne]; omega
          go_wp2_with fail
          refine (control_any 65533 _).mono ?_
          rintro e w' ⟨rfl, rfl⟩
          rw [C2.out]
          go_wp2_with fail
          refine (broken_yes s pos _ hle2 Hr.out).mono ?_
          rintro e w' ⟨rfl, rfl⟩
          go_wp2
          go_ret
          rw [Hn.out]
          exact ⟨rfl, (Below.refl _ _).alloc (Nat.le_refl _) _⟩
    · have hnx : ∀ ty, (Instr.next (.pointer (some ⟨w.heap.size, 0, none⟩)) true ty).run Tryz.prog (w.iter s pos) = _ := fun ty => run_next_end w s pos ty hp
      have Hl := Lib.hid (hat.last hp)
      have Hg := Lib.hid hgood
      clear hgood
      go_wp2
      go_ret
      rw [Hl.out, Hg.out.kind]
      exact ⟨rfl, (Below.refl _ _).alloc (Nat.le_refl _) _⟩

set_option maxHeartbeats 400000 in
theorem key_any (s : ByteArray) (w : World) (hs : s.size ≤ maxLen) :
    Calls Tryz.prog 54 #[.string s] w fun e w' => e = .returned (.bool (!(kind (runes s.data.toList) == 0))) ∧ Below w.heap.size w w' := by
  have h := kind_any s w hs
  obtain ⟨k, hk⟩ : ∃ k, k = kind (runes s.data.toList) := ⟨_, rfl⟩
  rw [← hk] at h ⊢
  have H := Lib.hid h
  clear h hk
  by_cases h0 : k = 0
  · subst h0
    go_enter Tryz.func54, Tryz.ntmps54
    go_wp2_with fail
    refine H.out.mono ?_
    rintro e w' ⟨rfl, hb⟩
    go_wp2
    go_ret
    exact ⟨rfl, hb⟩
  · have h1 : (k == 0) = false := by rw [beq_eq_false_iff_ne]; omega
    have h2 : ((k : Int) != 0) = true := by rw [bne_iff_ne]; omega
    rw [h1]
    go_enter Tryz.func54, Tryz.ntmps54
    go_wp2_with fail
    refine H.out.mono ?_
    rintro e w' ⟨rfl, hb⟩
    go_wp2
    go_ret
    exact ⟨rfl, hb⟩

end Text
end Go.Proofs.YtnpjkmomllkhpaaGreat
