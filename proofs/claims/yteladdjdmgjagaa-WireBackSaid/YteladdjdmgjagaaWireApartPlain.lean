/- Lists of numbers, and of texts, and their bytes: in plain Lean. -/
import Derived.Test.YteladdjdmgjagaaNumPlain
import Derived.Test.YteladdjdmgjagaaWireList
namespace Go.Proofs.Yteladdjdmgjagaa
namespace Wire
open Num

theorem upL_split {n m : Nat} (hn : n < 18446744073709551616) (hm : m < 18446744073709551616) {r t : List UInt8} (h : upL n ++ r = upL m ++ t) : n = m ∧ r = t := by
  have h1 := rd_upL n hn r
  have h2 := rd_upL m hm t
  rw [h, h2] at h1
  simp only [Prod.mk.injEq] at h1
  obtain ⟨h3, _, _⟩ := h1
  subst h3
  exact ⟨rfl, List.append_cancel_left h⟩
theorem upL_ne (n : Nat) : upL n ≠ [] := by intro h; have := (upL_length n).1; rw [h] at this; simp at this
theorem cat_inj : ∀ (a b : List Nat), (∀ n ∈ a, n ≤ 18446744073709551615) → (∀ n ∈ b, n ≤ 18446744073709551615) → cat a = cat b → a = b
  | [], [], _, _, _ => rfl
  | [], m :: b, _, _, h => by rw [cat_nil, cat_cons] at h; exact absurd (List.append_eq_nil_iff.1 h.symm).1 (upL_ne m)
  | n :: a, [], _, _, h => by rw [cat_nil, cat_cons] at h; exact absurd (List.append_eq_nil_iff.1 h).1 (upL_ne n)
  | n :: a, m :: b, ha, hb, h => by
    rw [cat_cons, cat_cons] at h
    have hn := ha n (List.mem_cons_self ..)
    have hm := hb m (List.mem_cons_self ..)
    obtain ⟨e1, e2⟩ := upL_split (by omega) (by omega) h
    rw [e1, cat_inj a b (fun x hx => ha x (List.mem_cons_of_mem _ hx)) (fun x hx => hb x (List.mem_cons_of_mem _ hx)) e2]
theorem one_split {x y : ByteArray} (hx : x.size < 18446744073709551616) (hy : y.size < 18446744073709551616) {r t : List UInt8} (h : one x ++ r = one y ++ t) : x = y ∧ r = t := by
  unfold one at h
  rw [List.append_assoc, List.append_assoc] at h
  obtain ⟨e1, e2⟩ := upL_split hx hy h
  rw [Str.size_eq, Str.size_eq] at e1
  obtain ⟨e3, e4⟩ := List.append_inj e2 e1
  exact ⟨Str.ext e3, e4⟩
theorem one_ne (x : ByteArray) : one x ≠ [] := by intro h; have := (one_length x).1; rw [h] at this; simp at this
/-- The bytes of texts begin with those of others just if the texts do. -/
theorem tcat_prefix : ∀ (s t : List ByteArray), (∀ x ∈ s, x.size ≤ maxLen) → (∀ x ∈ t, x.size ≤ maxLen) → ∀ r, tcat t = tcat s ++ r → ∃ u, t = s ++ u
  | [], t, _, _, _, _ => ⟨t, rfl⟩
  | x :: s, [], _, _, r, h => by rw [tcat_cons, List.append_assoc] at h; exact absurd (List.append_eq_nil_iff.1 h.symm).1 (one_ne x)
  | x :: s, y :: t, hs, ht, r, h => by
    rw [tcat_cons, tcat_cons, List.append_assoc] at h
    have h1 := hs x (List.mem_cons_self ..)
    have h2 := ht y (List.mem_cons_self ..)
    unfold maxLen at h1 h2
    obtain ⟨rfl, e2⟩ := one_split (by omega) (by omega) h
    obtain ⟨u, rfl⟩ := tcat_prefix s t (fun z hz => hs z (List.mem_cons_of_mem _ hz)) (fun z hz => ht z (List.mem_cons_of_mem _ hz)) r e2
    exact ⟨u, rfl⟩

/-- What the laws count of texts. -/
def wsum : List ByteArray → Nat
  | [] => 0
  | t :: l => 1 + t.size + wsum l
theorem wsum_append : ∀ (l m : List ByteArray), wsum (l ++ m) = wsum l + wsum m
  | [], m => by simp [wsum]
  | t :: l, m => by rw [List.cons_append, wsum, wsum, wsum_append l m]; omega
theorem wsum_take (l : List ByteArray) (k : Nat) (h : k < l.length) : wsum (l.take (k + 1)) = wsum (l.take k) + 1 + l[k].size := by
  rw [List.take_succ_eq_append_getElem h, wsum_append]; simp [wsum]; omega
theorem wsum_length : ∀ l : List ByteArray, l.length ≤ wsum l
  | [] => by simp [wsum]
  | t :: l => by have := wsum_length l; rw [List.length_cons, wsum]; omega
theorem tcat_wsum : ∀ l : List ByteArray, (tcat l).length ≤ 10 * wsum l
  | [] => by simp [tcat]
  | t :: l => by have := tcat_wsum l; have h := (one_length t).2; rw [tcat_cons, List.length_append, wsum]; omega

/-- The law's last line, of numbers and of texts. -/
theorem nums_same (a b : List Nat) (ha : ∀ n ∈ a, n ≤ 18446744073709551615) (hb : ∀ n ∈ b, n ≤ 18446744073709551615) : (({ data := (cat a).toArray } : ByteArray) = { data := (cat b).toArray }) ↔ a = b :=
  ⟨fun h => cat_inj a b ha hb (Str.mk_inj h), fun h => by rw [h]⟩
theorem texts_first (s t : List ByteArray) (hs : ∀ x ∈ s, x.size ≤ maxLen) (ht : ∀ x ∈ t, x.size ≤ maxLen) (hl : (tcat s).length ≤ (tcat t).length) :
    (({ data := (tcat t).toArray } : ByteArray).extract 0 (tcat s).length = { data := (tcat s).toArray }) ↔ (s.length ≤ t.length ∧ s = t.take s.length) := by
  constructor
  · intro h
    have h1 : (tcat t).take (tcat s).length = tcat s := by
      have := congrArg (fun x => x.data.toList) h
      simpa [Str.extract_toList] using this
    obtain ⟨u, rfl⟩ := tcat_prefix s t hs ht _ (by rw [← h1, List.take_append_drop (i := (tcat s).length)] <;> simp [h1])
    exact ⟨by simp, by simp⟩
  · rintro ⟨_, h2⟩
    refine Str.ext ?_
    rw [Str.extract_toList, List.drop_zero, List.toList_toArray, List.toList_toArray]
    conv => lhs; rw [show t = s ++ t.drop s.length by conv => lhs; rw [← List.take_append_drop s.length t, ← h2], tcat_append]
    rw [List.take_left']
    rfl
theorem texts_short (s t : List ByteArray) (hl : (tcat t).length < (tcat s).length) : ¬ (s.length ≤ t.length ∧ s = t.take s.length) := by
  rintro ⟨_, h2⟩
  have := tcat_le t s.length
  rw [← h2] at this
  omega
theorem texts_same (s t : List ByteArray) (hs : ∀ x ∈ s, x.size ≤ maxLen) (ht : ∀ x ∈ t, x.size ≤ maxLen) : (({ data := (tcat s).toArray } : ByteArray) = { data := (tcat t).toArray }) ↔ s = t := by
  constructor
  · intro h
    have h1 := Str.mk_inj h
    obtain ⟨u, rfl⟩ := tcat_prefix s t hs ht [] (by rw [List.append_nil, h1])
    obtain ⟨v, hv⟩ := tcat_prefix _ s ht hs [] (by rw [List.append_nil]; exact h1)
    have := congrArg List.length hv
    simp only [List.length_append] at this
    have hu : u = [] := List.eq_nil_of_length_eq_zero (by omega)
    rw [hu, List.append_nil]
  · intro h; rw [h]

end Wire
end Go.Proofs.Yteladdjdmgjagaa
