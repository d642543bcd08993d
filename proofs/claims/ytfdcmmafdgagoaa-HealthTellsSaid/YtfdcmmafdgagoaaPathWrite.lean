
/- Paths as lists of numbers, written and read: in plain Lean. -/
import Derived.Test.YtfdcmmafdgagoaaPathFns
import Derived.Lib.ItoaNum
namespace Go.Proofs.Ytfdcmmafdgagoaa
namespace Path

theorem dec_snoc : ∀ (l : List UInt8) (c : UInt8) (n : Nat), dec (l ++ [c]) n = match dec l n with
    | none => none
    | some m => if c.toNat < 48 ∨ 57 < c.toNat then none else some (10 * m + (c.toNat - 48))
  | [], c, n => by
    rw [List.nil_append, dec_cons]
    rfl
  | x :: l, c, n => by
    rw [List.cons_append, dec_cons, dec_cons]
    split
    · rfl
    · exact dec_snoc l c _
theorem dig_toNat (d : Nat) (h : d < 10) : (UInt8.ofNat (48 + d)).toNat = 48 + d := by simp; omega
theorem dec_digits (u : Nat) : dec (Lib.decDigits u) 0 = some u := by
  induction u using Nat.strongRecOn with
  | _ u ih =>
    rw [Lib.decDigits]
    split
    · rename_i h
      rw [dec_cons, dig_toNat u h, if_neg (by omega)]
      simp [dec]
    · rename_i h
      rw [dec_snoc, ih (u / 10) (by omega)]
      simp only
      rw [dig_toNat (u % 10) (by omega), if_neg (by omega)]
      congr 1; omega
theorem digits_ne (u : Nat) : Lib.decDigits u ≠ [] := by
  rw [Lib.decDigits]; split <;> simp
theorem digits_head (u : Nat) (h : 1 ≤ u) : (Lib.decDigits u).head? ≠ some 48 := by
  induction u using Nat.strongRecOn with
  | _ u ih =>
    rw [Lib.decDigits]
    split
    · rename_i h9
      rw [List.head?_cons]
      intro e
      have := congrArg UInt8.toNat (Option.some.inj e)
      rw [dig_toNat u h9] at this
      have h48 : (48 : UInt8).toNat = 48 := rfl
      omega
    · rename_i h9
      have := ih (u / 10) (by omega) (by omega)
      cases hd : Lib.decDigits (u / 10) with
      | nil => exact absurd hd (digits_ne _)
      | cons c r => rw [hd] at this; simpa using this
theorem digits_len : ∀ (k u : Nat), 1 ≤ k → u < 10 ^ k → (Lib.decDigits u).length ≤ k
  | 0, _, h, _ => absurd h (by omega)
  | k + 1, u, _, h => by
    rw [Lib.decDigits]
    split
    · simp
    · rename_i h9
      rw [List.length_append, List.length_singleton]
      have : 1 ≤ k := by
        rcases Nat.eq_zero_or_pos k with rfl | h0
        · simp at h; omega
        · exact h0
      have := digits_len k (u / 10) this (by rw [Nat.pow_succ] at h; omega)
      omega
theorem digits_of : ∀ (n : Nat) (f : List UInt8) (x : Nat), f.length ≤ n → f ≠ [] → f.head? ≠ some 48 → dec f 0 = some x → f = Lib.decDigits x ∧ 1 ≤ x
  | 0, f, x, h, h0, _, _ => absurd (List.length_eq_zero_iff.1 (by omega)) h0
  | n + 1, f, x, hl, h0, hh, hd => by
    have hs := List.dropLast_concat_getLast h0
    obtain ⟨g, hg⟩ : ∃ g, g = f.dropLast := ⟨_, rfl⟩
    obtain ⟨c, hc⟩ : ∃ c, c = f.getLast h0 := ⟨_, rfl⟩
    rw [← hg, ← hc] at hs
    have hgl : g.length + 1 = f.length := by rw [← hs]; simp
    rw [← hs, dec_snoc] at hd
    cases hm : dec g 0 with
    | none => rw [hm] at hd; cases hd
    | some m =>
      rw [hm] at hd
      simp only at hd
      split at hd
      · cases hd
      · rename_i hcd
        have hx := Option.some.inj hd
        by_cases hgn : g = []
        · subst hgn
          simp only [dec, Option.some.injEq] at hm
          have h48 : c ≠ 48 := by
            rw [← hs, List.nil_append, List.head?_cons] at hh
            intro e; exact hh (by rw [e])
          have h48' : c.toNat ≠ 48 := fun e => h48 (UInt8.toNat_inj.1 e)
          refine ⟨?_, by omega⟩
          rw [← hs, List.nil_append, Lib.decDigits, dif_pos (by omega)]
          congr 1
          apply UInt8.toNat_inj.1
          rw [dig_toNat x (by omega)]; omega
        · have hgh : g.head? ≠ some 48 := by
            cases g with
            | nil => exact absurd rfl hgn
            | cons y r => rw [← hs] at hh; simpa using hh
          obtain ⟨e1, e2⟩ := digits_of n g m (by omega) hgn hgh hm
          refine ⟨?_, by omega⟩
          rw [← hs, Lib.decDigits, dif_neg (by omega), show x / 10 = m by omega, ← e1]
          congr 2
          apply UInt8.toNat_inj.1
          rw [dig_toNat (x % 10) (by omega)]; omega
theorem dec_all : ∀ (l : List UInt8) (n x : Nat), dec l n = some x → ∀ c ∈ l, 48 ≤ c.toNat ∧ c.toNat ≤ 57
  | [], _, _, _, c, h => by cases h
  | y :: l, n, x, hd, c, h => by
    rw [dec_cons] at hd
    split at hd
    · cases hd
    · rename_i hb
      rcases List.mem_cons.1 h with rfl | h
      · omega
      · exact dec_all l _ x hd c h
theorem num1_digits (x : Nat) (h1 : 1 ≤ x) (h2 : x ≤ 1073741824) : num1 (Lib.decDigits x) = x := by
  have hl := digits_len 10 x (by decide) (by omega)
  rw [num1, if_neg, dec_digits]
  · simp only; rw [if_neg (by omega)]
  · rintro (h | h | h)
    · exact digits_ne x h
    · omega
    · exact digits_head x h1 h
theorem digits_num1 (f : List UInt8) (h : num1 f ≠ 0) : f = Lib.decDigits (num1 f) := by
  unfold num1 at h ⊢
  split at h
  · exact absurd rfl h
  rename_i h1
  rw [if_neg h1]
  split at h
  · exact absurd rfl h
  rename_i x hx
  split at h
  · exact absurd rfl h
  rename_i h2
  rw [if_neg h2]
  exact (digits_of f.length f x (Nat.le_refl _) (fun e => h1 (.inl e)) (fun e => h1 (.inr (.inr e))) hx).1
theorem digits_dot (x : Nat) : ∀ c ∈ Lib.decDigits x, c ≠ 46 := by
  intro c hc e
  have := dec_all _ 0 x (dec_digits x) c hc
  rw [e] at this
  exact absurd this.1 (by decide)

/-- Numbers as a path. -/
def write : List Nat → List UInt8
  | [] => []
  | [x] => Lib.decDigits x
  | x :: y :: r => Lib.decDigits x ++ 46 :: write (y :: r)
def unfigs : List (List UInt8) → List UInt8
  | [] => []
  | [f] => f
  | f :: g :: r => f ++ 46 :: unfigs (g :: r)
theorem write_unfigs : ∀ l, write l = unfigs (l.map Lib.decDigits)
  | [] => rfl
  | [x] => rfl
  | x :: y :: r => by
    have h := write_unfigs (y :: r)
    rw [write, h]; rfl
theorem figs_ne (l : List UInt8) : figs l ≠ [] := by rw [figs_cut]; simp
theorem unfigs_cons (f : List UInt8) (L : List (List UInt8)) (h : L ≠ []) : unfigs (f :: L) = f ++ 46 :: unfigs L := by
  cases L with
  | nil => exact absurd rfl h
  | cons g r => rfl
theorem unfigs_figs : ∀ l : List UInt8, unfigs (figs l) = l
  | [] => rfl
  | c :: r => by
    have ih := unfigs_figs r
    rw [figs_cons]
    by_cases h : c = 46
    · rw [if_pos h, unfigs_cons _ _ (figs_ne r), ih, h]; rfl
    · rw [if_neg h]
      cases hf : figs r with
      | nil => exact absurd hf (figs_ne r)
      | cons f fs =>
        rw [hf] at ih
        simp only
        cases fs with
        | nil => rw [unfigs] at ih ⊢; rw [ih]
        | cons g gs => rw [unfigs_cons _ _ (by simp)] at ih ⊢; rw [List.cons_append, ih]
theorem figs_one : ∀ f : List UInt8, (∀ c ∈ f, c ≠ 46) → figs f = [f]
  | [], _ => rfl
  | c :: r, h => by
    rw [figs_cons, if_neg (h c (List.mem_cons_self ..)), figs_one r (fun x hx => h x (List.mem_cons_of_mem _ hx))]
theorem figs_more : ∀ (f r : List UInt8), (∀ c ∈ f, c ≠ 46) → figs (f ++ 46 :: r) = f :: figs r
  | [], r, _ => by rw [List.nil_append, figs_cons, if_pos rfl]
  | c :: f, r, h => by
    rw [List.cons_append, figs_cons, if_neg (h c (List.mem_cons_self ..)), figs_more f r (fun x hx => h x (List.mem_cons_of_mem _ hx))]
theorem figs_write : ∀ l : List Nat, l ≠ [] → figs (write l) = l.map Lib.decDigits
  | [], h => absurd rfl h
  | [x], _ => figs_one _ (digits_dot x)
  | x :: y :: r, _ => by
    rw [write, figs_more _ _ (digits_dot x), figs_write (y :: r) (by simp)]; rfl
theorem ys_map : ∀ L : List (List UInt8), (∀ x ∈ ys L, x ≠ 0) → ys L = L.map num1
  | [], _ => rfl
  | f :: r, h => by
    have h0 : num1 f ≠ 0 := h _ (by rw [ys]; exact List.mem_cons_self ..)
    have hy : ys (f :: r) = num1 f :: ys r := by rw [ys, if_neg h0]
    rw [hy, List.map_cons, ys_map r (fun x hx => h x (by rw [hy]; exact List.mem_cons_of_mem _ hx))]
theorem ys_all : ∀ L : List (List UInt8), (∀ f ∈ L, num1 f ≠ 0) → ys L = L.map num1
  | [], _ => rfl
  | f :: r, h => by
    rw [ys, if_neg (h f (List.mem_cons_self ..)), ys_all r (fun g hg => h g (List.mem_cons_of_mem _ hg))]; rfl

/-- Numbers that a path has. -/
def Valid (l : List Nat) : Prop := l.getD 0 0 = 1 ∧ l.length ≤ 8 ∧ ∀ x ∈ l, 1 ≤ x ∧ x ≤ 1073741824
theorem Valid.ne {l : List Nat} (h : Valid l) : l ≠ [] := by rintro rfl; exact absurd h.1 (by decide)
theorem parse_write (l : List Nat) (h : Valid l) : parse (write l) = l := by
  have hn := h.ne
  have hy : ys (figs (write l)) = l := by
    rw [figs_write l hn, ys_all, List.map_map]
    · conv => rhs; rw [← List.map_id l]
      exact List.map_congr_left fun x hx => num1_digits x (h.2.2 x hx).1 (h.2.2 x hx).2
    · intro f hf
      obtain ⟨x, hx, rfl⟩ := List.mem_map.1 hf
      rw [num1_digits x (h.2.2 x hx).1 (h.2.2 x hx).2]
      have := (h.2.2 x hx).1; omega
  rw [parse, hy, if_pos ⟨fun x hx => by have := (h.2.2 x hx).1; omega, h.2.1, h.1⟩]
theorem parse_valid (p : List UInt8) (h : parse p ≠ []) : Valid (parse p) := by
  refine ⟨?_, parse_length p, parse_mem p⟩
  unfold parse at h ⊢
  split
  · rename_i e; exact e.2.2
  · rename_i e; rw [if_neg e] at h; exact absurd rfl h
theorem write_parse (p : List UInt8) (h : parse p ≠ []) : write (parse p) = p := by
  have hy : parse p = ys (figs p) ∧ (∀ x ∈ ys (figs p), x ≠ 0) := by
    unfold parse at h ⊢
    split
    · rename_i e; exact ⟨rfl, e.1⟩
    · rename_i e; rw [if_neg e] at h; exact absurd rfl h
  have hm := ys_map _ hy.2
  have hf : (figs p).map (fun f => Lib.decDigits (num1 f)) = figs p := by
    conv => rhs; rw [← List.map_id (figs p)]
    refine List.map_congr_left fun f hf => ?_
    have h0 : num1 f ≠ 0 := hy.2 _ (by rw [hm]; exact List.mem_map.2 ⟨f, hf, rfl⟩)
    exact (digits_num1 f h0).symm
  rw [write_unfigs, hy.1, hm, List.map_map]
  exact (congrArg unfigs hf).trans (unfigs_figs p)
theorem parse_inj {p q : List UInt8} (h : parse p ≠ []) (e : parse p = parse q) : p = q := by
  rw [← write_parse p h, ← write_parse q (by rw [← e]; exact h), e]

end Path
end Go.Proofs.Ytfdcmmafdgagoaa
