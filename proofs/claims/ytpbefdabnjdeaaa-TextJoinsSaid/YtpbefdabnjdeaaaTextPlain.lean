/- Runes as bytes, in plain Lean: which lists of bytes are texts, of which runes. No program in sight. -/
import Derived.WalkKit
import Derived.Test.YtpbefdabnjdeaaaStr
namespace Go.Proofs.Ytpbefdabnjdeaaa
namespace Text

theorem u8_eq {c : UInt8} {n : Nat} (h : c.toNat = n) : c = UInt8.ofNat n := by
  rw [← UInt8.toNat_inj, UInt8.toNat_ofNat', h]; have := c.toNat_lt; omega
theorem u8_nat {n : Nat} (h : n < 256) : (UInt8.ofNat n).toNat = n := by rw [UInt8.toNat_ofNat']; omega

/-- A number's bytes, as runes are written. -/
def enc (x : Nat) : List UInt8 :=
  if x < 128 then [UInt8.ofNat x]
  else if x < 2048 then [UInt8.ofNat (192 + x / 64), UInt8.ofNat (128 + x % 64)]
  else if x < 65536 then [UInt8.ofNat (224 + x / 4096), UInt8.ofNat (128 + x / 64 % 64), UInt8.ofNat (128 + x % 64)]
  else [UInt8.ofNat (240 + x / 262144), UInt8.ofNat (128 + x / 4096 % 64), UInt8.ofNat (128 + x / 64 % 64), UInt8.ofNat (128 + x % 64)]
/-- Which numbers are runes. -/
def Scalar (x : Nat) : Prop := x < 55296 ∨ (57344 ≤ x ∧ x ≤ 1114111)
instance (x : Nat) : Decidable (Scalar x) := inferInstanceAs (Decidable (_ ∨ _))

/-- A byte that goes on. -/
def Cont (c : UInt8) : Prop := 128 ≤ c.toNat ∧ c.toNat < 192
instance (c : UInt8) : Decidable (Cont c) := inferInstanceAs (Decidable (_ ∧ _))

/-- The rune at the front of bytes, and how many bytes it has. -/
def rune : List UInt8 → Option (Nat × Nat)
  | [] => none
  | c :: r =>
    if c.toNat < 128 then some (c.toNat, 1)
    else if 192 ≤ c.toNat ∧ c.toNat < 224 then
      match r with
      | c1 :: _ => if Cont c1 ∧ 128 ≤ 64 * (c.toNat - 192) + (c1.toNat - 128) then some (64 * (c.toNat - 192) + (c1.toNat - 128), 2) else none
      | [] => none
    else if 224 ≤ c.toNat ∧ c.toNat < 240 then
      match r with
      | c1 :: c2 :: _ =>
        if Cont c1 ∧ Cont c2 ∧ 2048 ≤ 64 * (64 * (c.toNat - 224) + (c1.toNat - 128)) + (c2.toNat - 128) ∧ Scalar (64 * (64 * (c.toNat - 224) + (c1.toNat - 128)) + (c2.toNat - 128)) then
          some (64 * (64 * (c.toNat - 224) + (c1.toNat - 128)) + (c2.toNat - 128), 3) else none
      | _ => none
    else if 240 ≤ c.toNat ∧ c.toNat < 248 then
      match r with
      | c1 :: c2 :: c3 :: _ =>
        if Cont c1 ∧ Cont c2 ∧ Cont c3 ∧ 65536 ≤ 64 * (64 * (64 * (c.toNat - 240) + (c1.toNat - 128)) + (c2.toNat - 128)) + (c3.toNat - 128) ∧ Scalar (64 * (64 * (64 * (c.toNat - 240) + (c1.toNat - 128)) + (c2.toNat - 128)) + (c3.toNat - 128)) then
          some (64 * (64 * (64 * (c.toNat - 240) + (c1.toNat - 128)) + (c2.toNat - 128)) + (c3.toNat - 128), 4) else none
      | _ => none
    else none

theorem name (n : Nat) (h : n < 256) : ∃ c : UInt8, UInt8.ofNat n = c ∧ c.toNat = n := ⟨_, rfl, u8_nat h⟩
theorem rune_enc (x : Nat) (t : List UInt8) (h : Scalar x) : rune (enc x ++ t) = some (x, (enc x).length) := by
  have h' := h
  unfold Scalar at h'
  unfold enc
  split
  · obtain ⟨c, e, hc⟩ := name x (by omega)
    rw [e]
    simp only [List.cons_append, List.nil_append, rune]
    rw [if_pos (by omega), hc]; rfl
  split
  · obtain ⟨c, e, hc⟩ := name (192 + x / 64) (by omega)
    obtain ⟨c1, e1, hc1⟩ := name (128 + x % 64) (by omega)
    have k : 64 * (c.toNat - 192) + (c1.toNat - 128) = x := by omega
    rw [e, e1]
    simp only [List.cons_append, List.nil_append, rune]
    rw [if_neg (by omega), if_pos (by omega), if_pos (by unfold Cont; omega), k]; rfl
  split
  · obtain ⟨c, e, hc⟩ := name (224 + x / 4096) (by omega)
    obtain ⟨c1, e1, hc1⟩ := name (128 + x / 64 % 64) (by omega)
    obtain ⟨c2, e2, hc2⟩ := name (128 + x % 64) (by omega)
    have k : 64 * (64 * (c.toNat - 224) + (c1.toNat - 128)) + (c2.toNat - 128) = x := by omega
    rw [e, e1, e2]
    simp only [List.cons_append, List.nil_append, rune]
    rw [if_neg (by omega), if_neg (by omega), if_pos (by omega), k, if_pos ⟨by unfold Cont; omega, by unfold Cont; omega, by omega, h⟩]; rfl
  · obtain ⟨c, e, hc⟩ := name (240 + x / 262144) (by omega)
    obtain ⟨c1, e1, hc1⟩ := name (128 + x / 4096 % 64) (by omega)
    obtain ⟨c2, e2, hc2⟩ := name (128 + x / 64 % 64) (by omega)
    obtain ⟨c3, e3, hc3⟩ := name (128 + x % 64) (by omega)
    have k : 64 * (64 * (64 * (c.toNat - 240) + (c1.toNat - 128)) + (c2.toNat - 128)) + (c3.toNat - 128) = x := by omega
    rw [e, e1, e2, e3]
    simp only [List.cons_append, List.nil_append, rune]
    rw [if_neg (by omega), if_neg (by omega), if_neg (by omega), if_pos (by omega), k, if_pos ⟨by unfold Cont; omega, by unfold Cont; omega, by unfold Cont; omega, by omega, h⟩]; rfl

theorem rune_some {l : List UInt8} {x n : Nat} (h : rune l = some (x, n)) : Scalar x ∧ n = (enc x).length ∧ ∃ t, l = enc x ++ t := by
  match l, h with
  | [], h => simp [rune] at h
  | c :: r, h =>
    simp only [rune] at h
    split at h
    · simp only [Option.some.injEq, Prod.mk.injEq] at h
      obtain ⟨rfl, rfl⟩ := h
      rename_i hc
      refine ⟨.inl (by omega), by simp [enc, hc], r, ?_⟩
      rw [enc, if_pos hc, ← u8_eq rfl]; rfl
    split at h
    · rename_i hc
      match r, h with
      | [], h => simp at h
      | c1 :: t, h =>
        simp only at h
        split at h
        · rename_i hx
          simp only [Option.some.injEq, Prod.mk.injEq] at h
          obtain ⟨hx1, rfl⟩ := h
          unfold Cont at hx
          have e1 : x / 64 = c.toNat - 192 := by omega
          have e2 : x % 64 = c1.toNat - 128 := by omega
          have e : enc x = [c, c1] := by
            rw [enc, if_neg (by omega), if_pos (by omega), ← u8_eq (c := c) (by omega), ← u8_eq (c := c1) (by omega)]
          exact ⟨.inl (by omega), by rw [e]; rfl, t, by rw [e]; rfl⟩
        · simp at h
    split at h
    · rename_i hc
      match r, h with
      | [], h => simp at h
      | [_], h => simp at h
      | c1 :: c2 :: t, h =>
        simp only at h
        split at h
        · rename_i hx
          simp only [Option.some.injEq, Prod.mk.injEq] at h
          obtain ⟨hx1, rfl⟩ := h
          obtain ⟨g1, g2, g3, g4⟩ := hx
          rw [hx1] at g4
          unfold Cont at g1 g2
          have e1 : x / 4096 = c.toNat - 224 := by omega
          have e2 : x / 64 % 64 = c1.toNat - 128 := by omega
          have e3 : x % 64 = c2.toNat - 128 := by omega
          have e : enc x = [c, c1, c2] := by
            rw [enc, if_neg (by omega), if_neg (by omega), if_pos (by omega), ← u8_eq (c := c) (by omega), ← u8_eq (c := c1) (by omega), ← u8_eq (c := c2) (by omega)]
          exact ⟨g4, by rw [e]; rfl, t, by rw [e]; rfl⟩
        · simp at h
    split at h
    · rename_i hc
      match r, h with
      | [], h => simp at h
      | [_], h => simp at h
      | [_, _], h => simp at h
      | c1 :: c2 :: c3 :: t, h =>
        simp only at h
        split at h
        · rename_i hx
          simp only [Option.some.injEq, Prod.mk.injEq] at h
          obtain ⟨hx1, rfl⟩ := h
          obtain ⟨g1, g2, g3, g4, g5⟩ := hx
          rw [hx1] at g5
          unfold Cont at g1 g2 g3
          have e1 : x / 262144 = c.toNat - 240 := by omega
          have e2 : x / 4096 % 64 = c1.toNat - 128 := by omega
          have e3 : x / 64 % 64 = c2.toNat - 128 := by omega
          have e4 : x % 64 = c3.toNat - 128 := by omega
          have e : enc x = [c, c1, c2, c3] := by
            rw [enc, if_neg (by omega), if_neg (by omega), if_neg (by omega), ← u8_eq (c := c) (by omega), ← u8_eq (c := c1) (by omega), ← u8_eq (c := c2) (by omega), ← u8_eq (c := c3) (by omega)]
          exact ⟨g5, by rw [e]; rfl, t, by rw [e]; rfl⟩
        · simp at h
    · simp at h

theorem enc_length (x : Nat) : 1 ≤ (enc x).length ∧ (enc x).length ≤ 4 := by
  unfold enc; split; simp; split; simp; split <;> simp

/-- All runes of a text, if it is one. -/
def runesF : Nat → List UInt8 → Option (List Nat)
  | _, [] => some []
  | 0, _ => none
  | f + 1, l => match rune l with
    | none => none
    | some (x, n) => (runesF f (l.drop n)).map (x :: ·)
def runes (l : List UInt8) : Option (List Nat) := runesF l.length l

/-- The bytes of runes. -/
def cat (xs : List Nat) : List UInt8 := xs.flatMap enc
theorem cat_nil : cat [] = [] := rfl
theorem cat_cons (x : Nat) (xs : List Nat) : cat (x :: xs) = enc x ++ cat xs := by simp [cat]
theorem cat_append (xs ys : List Nat) : cat (xs ++ ys) = cat xs ++ cat ys := by simp [cat]

theorem runesF_step (f : Nat) (l : List UInt8) (h : l ≠ []) (x n : Nat) (hr : rune l = some (x, n)) : runesF (f + 1) l = (runesF f (l.drop n)).map (x :: ·) := by
  cases l with
  | nil => exact absurd rfl h
  | cons c r => rw [runesF]; simp only [hr]; intro e; cases e
theorem runesF_cat : ∀ (xs : List Nat) (f : Nat), (cat xs).length ≤ f → (∀ x ∈ xs, Scalar x) → runesF f (cat xs) = some xs
  | [], f, _, _ => by cases f <;> rfl
  | x :: xs, f, hf, hs => by
    have hx := hs x (List.mem_cons_self)
    obtain ⟨h1, h2⟩ := enc_length x
    rw [cat_cons, List.length_append] at hf
    obtain ⟨f, rfl⟩ : ∃ g, f = g + 1 := ⟨f - 1, by omega⟩
    have hne : cat (x :: xs) ≠ [] := by
      intro e; have := congrArg List.length e; rw [cat_cons] at this; simp only [List.length_append, List.length_nil] at this; omega
    have hr : rune (cat (x :: xs)) = some (x, (enc x).length) := by rw [cat_cons]; exact rune_enc x _ hx
    rw [runesF_step f _ hne x _ hr, show (cat (x :: xs)).drop (enc x).length = cat xs by rw [cat_cons, List.drop_left], runesF_cat xs f (by omega) (fun y hy => hs y (List.mem_cons_of_mem _ hy))]
    rfl
theorem runes_cat (xs : List Nat) (hs : ∀ x ∈ xs, Scalar x) : runes (cat xs) = some xs := runesF_cat xs _ (Nat.le_refl _) hs

theorem runesF_some : ∀ (f : Nat) (l : List UInt8) (xs : List Nat), runesF f l = some xs → l = cat xs ∧ ∀ x ∈ xs, Scalar x := by
  intro f
  induction f with
  | zero =>
    intro l xs h
    match l, h with
    | [], h => simp [runesF] at h; subst h; exact ⟨rfl, fun x hx => by cases hx⟩
    | _ :: _, h => simp [runesF] at h
  | succ f ih =>
    intro l xs h
    match l, h with
    | [], h => simp [runesF] at h; subst h; exact ⟨rfl, fun x hx => by cases hx⟩
    | c :: r, h =>
      simp only [runesF] at h
      match hr : rune (c :: r), h with
      | none, h => simp at h
      | some (x, n), h =>
        simp only [Option.map_eq_some_iff] at h
        obtain ⟨ys, hy, rfl⟩ := h
        obtain ⟨g1, g2, t, g3⟩ := rune_some hr
        obtain ⟨k1, k2⟩ := ih _ _ hy
        rw [g3, g2, List.drop_left] at k1
        refine ⟨by rw [cat_cons, ← k1, g3], fun y hy => ?_⟩
        rcases List.mem_cons.1 hy with rfl | hy
        · exact g1
        · exact k2 y hy
theorem runes_some {l : List UInt8} {xs : List Nat} (h : runes l = some xs) : l = cat xs ∧ ∀ x ∈ xs, Scalar x := runesF_some _ _ _ h
theorem runes_iff {l : List UInt8} {xs : List Nat} : runes l = some xs ↔ l = cat xs ∧ ∀ x ∈ xs, Scalar x :=
  ⟨runes_some, fun ⟨h1, h2⟩ => by rw [h1]; exact runes_cat xs h2⟩

theorem cat_inj {xs ys : List Nat} (hx : ∀ x ∈ xs, Scalar x) (hy : ∀ y ∈ ys, Scalar y) (h : cat xs = cat ys) : xs = ys := by
  have := runes_cat xs hx; rw [h, runes_cat ys hy] at this; simpa using this.symm

/-- Behind valid runes a text is one if the rest is. -/
theorem runes_behind (xs : List Nat) (t : List UInt8) (hx : ∀ x ∈ xs, Scalar x) : runes (cat xs ++ t) = (runes t).map (xs ++ ·) := by
  cases ht : runes t with
  | some ys =>
    obtain ⟨rfl, hy⟩ := runes_some ht
    rw [← cat_append]
    exact runes_cat _ (fun z hz => by rcases List.mem_append.1 hz with h | h; exact hx z h; exact hy z h)
  | none =>
    cases ha : runes (cat xs ++ t) with
    | none => rfl
    | some zs =>
      exfalso
      obtain ⟨e, hz⟩ := runes_some ha
      clear ha
      induction xs generalizing zs with
      | nil => rw [show t = cat zs from e] at ht; rw [runes_cat zs hz] at ht; simp at ht
      | cons x xs ih =>
        cases zs with
        | nil =>
          have h1 := congrArg List.length e; have h2 := enc_length x
          rw [cat_cons, cat_nil] at h1; simp only [List.length_append, List.length_nil] at h1; omega
        | cons z zs =>
          rw [cat_cons, cat_cons, List.append_assoc] at e
          have h1 := rune_enc x (cat xs ++ t) (hx x List.mem_cons_self)
          rw [e, rune_enc z _ (hz z List.mem_cons_self)] at h1
          simp only [Option.some.injEq, Prod.mk.injEq] at h1
          obtain ⟨rfl, _⟩ := h1
          exact ih (fun y hy => hx y (List.mem_cons_of_mem _ hy)) zs (List.append_cancel_left e) (fun y hy => hz y (List.mem_cons_of_mem _ hy))

theorem rune_none {t : List UInt8} (h : rune t = none) (ht : t ≠ []) : runes t = none := by
  cases hr : runes t with
  | none => rfl
  | some xs =>
    obtain ⟨rfl, hx⟩ := runes_some hr
    cases xs with
    | nil => exact absurd rfl ht
    | cons x xs => rw [cat_cons, rune_enc x _ (hx x List.mem_cons_self)] at h; simp at h

end Text
end Go.Proofs.Ytpbefdabnjdeaaa
