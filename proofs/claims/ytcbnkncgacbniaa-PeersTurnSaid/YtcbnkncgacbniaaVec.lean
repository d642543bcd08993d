
/- Vectors, in plain Lean: lists of marks that rise, each with a number; what they have of a path. -/
import Derived.Test.YtcbnkncgacbniaaDotOf
import Derived.Test.YtcbnkncgacbniaaDotTidy
namespace Go.Proofs.Ytcbnkncgacbniaa
namespace Dots
open Go.RowKit Go.Proofs.Ytcbnkncgacbniaa.Mark

def Less (a b : M) : Prop := Lib.compareBytes a.p b.p < 0
/-- A vector. -/
def Vec (R : List M) : Prop := R.Pairwise Less ∧ ∀ m ∈ R, m.p ≠ [] ∧ 1 ≤ m.n
theorem less_irrefl (a : M) : ¬ Less a a := by unfold Less; rw [Order.cmp_self]; decide
theorem less_trans {a b c : M} (h : Less a b) (k : Less b c) : Less a c := by
  unfold Less at *
  have h1 := Order.cmp_trans a.p b.p c.p (by omega) (by omega)
  rcases Order.cmp_ways a.p c.p with h2 | h2 | h2
  · omega
  · have e := Order.cmp_zero _ _ h2
    rw [e, Order.cmp_flip] at h
    omega
  · omega

theorem fold_ge (f : M → Bool) : ∀ (L : List M) (a : Nat), a ≤ L.foldl (fun n m => if f m then max n m.n else n) a
  | [], a => Nat.le_refl _
  | m :: L, a => by
    rw [List.foldl_cons]
    refine Nat.le_trans ?_ (fold_ge f L _)
    split
    · exact Nat.le_max_left _ _
    · exact Nat.le_refl _
theorem fold_mem (f : M → Bool) : ∀ (L : List M) (a : Nat) (m : M), m ∈ L → f m = true → m.n ≤ L.foldl (fun n m => if f m then max n m.n else n) a
  | [], a, m, h, _ => by cases h
  | x :: L, a, m, h, hf => by
    rw [List.foldl_cons]
    rcases List.mem_cons.1 h with rfl | h
    · refine Nat.le_trans ?_ (fold_ge f L _)
      rw [if_pos hf]; exact Nat.le_max_right _ _
    · exact fold_mem f L _ m h hf
theorem fold_ex (f : M → Bool) : ∀ (L : List M) (a : Nat), L.foldl (fun n m => if f m then max n m.n else n) a = a ∨ ∃ m ∈ L, f m = true ∧ m.n = L.foldl (fun n m => if f m then max n m.n else n) a
  | [], a => .inl rfl
  | x :: L, a => by
    rw [List.foldl_cons]
    rcases fold_ex f L (if f x then max a x.n else a) with h | ⟨m, hm, h1, h2⟩
    · rw [h]
      split
      · rename_i hf
        rcases Nat.le_total a x.n with h' | h'
        · exact .inr ⟨x, List.mem_cons_self .., hf, (Nat.max_eq_right h').symm⟩
        · exact .inl (Nat.max_eq_left h')
      · exact .inl rfl
    · exact .inr ⟨m, List.mem_cons_of_mem _ hm, h1, h2⟩
theorem isQ_iff (q : List UInt8) (m : M) : isQ q m = true ↔ m.p = q ∧ q ≠ [] := by unfold isQ; rw [decide_eq_true_eq]
/-- Of is the greatest number of that path's marks. -/
theorem ofL_le (L : List M) (m : M) (h : m ∈ L) (hp : m.p ≠ []) : m.n ≤ ofL L m.p := fold_mem _ L 0 m h ((isQ_iff _ _).2 ⟨rfl, hp⟩)
theorem ofL_ex (L : List M) (q : List UInt8) : ofL L q = 0 ∨ ∃ m ∈ L, m.p = q ∧ q ≠ [] ∧ m.n = ofL L q := by
  rcases fold_ex (isQ q) L 0 with h | ⟨m, hm, h1, h2⟩
  · exact .inl h
  · obtain ⟨e1, e2⟩ := (isQ_iff _ _).1 h1
    exact .inr ⟨m, hm, e1, e2, h2⟩
theorem ofL_empty (L : List M) : ofL L [] = 0 := by
  rcases ofL_ex L [] with h | ⟨m, _, _, h, _⟩
  · exact h
  · exact absurd rfl h
/-- Whatever is at least each of these numbers is at least Of; and Of is at most what one of them is. -/
theorem ofL_eq {L K : List M} (h1 : ∀ m ∈ L, m.p ≠ [] → 1 ≤ m.n → ∃ k ∈ K, k.p = m.p ∧ m.n ≤ k.n) (h2 : ∀ k ∈ K, k.p ≠ [] → 1 ≤ k.n → ∃ m ∈ L, m.p = k.p ∧ k.n ≤ m.n) (q : List UInt8) : ofL L q = ofL K q := by
  have key : ∀ {L K : List M}, (∀ m ∈ L, m.p ≠ [] → 1 ≤ m.n → ∃ k ∈ K, k.p = m.p ∧ m.n ≤ k.n) → ofL L q ≤ ofL K q := by
    intro L K h
    rcases ofL_ex L q with e | ⟨m, hm, rfl, hp, he⟩
    · omega
    · rcases Nat.eq_zero_or_pos m.n with h0 | h0
      · omega
      · obtain ⟨k, hk, ek, hle⟩ := h m hm hp h0
        have := ofL_le K k hk (by rw [ek]; exact hp)
        rw [ek] at this
        omega
  exact Nat.le_antisymm (key h1) (key h2)
theorem vec_of {R : List M} (h : Vec R) {m : M} (hm : m ∈ R) : ofL R m.p = m.n := by
  obtain ⟨hp, hn⟩ := h.2 m hm
  rcases ofL_ex R m.p with e | ⟨k, hk, e1, _, e2⟩
  · have := ofL_le R m hm hp; omega
  · have : k = m := by
      obtain ⟨i, hi, rfl⟩ := List.mem_iff_getElem.1 hk
      obtain ⟨j, hj, rfl⟩ := List.mem_iff_getElem.1 hm
      have hs := List.pairwise_iff_getElem.1 h.1
      rcases Nat.lt_trichotomy i j with h' | h' | h'
      · have := hs i j hi hj h'
        unfold Less at this; rw [e1, Order.cmp_self] at this; omega
      · subst h'; rfl
      · have := hs j i hj hi h'
        unfold Less at this; rw [e1, Order.cmp_self] at this; omega
    rw [this] at e2; exact e2.symm
theorem sorted_ext : ∀ (R S : List M), R.Pairwise Less → S.Pairwise Less → (∀ m, m ∈ R ↔ m ∈ S) → R = S
  | [], [], _, _, _ => rfl
  | [], b :: S, _, _, h => by have := (h b).2 (List.mem_cons_self ..); cases this
  | a :: R, [], _, _, h => by have := (h a).1 (List.mem_cons_self ..); cases this
  | a :: R, b :: S, hR, hS, h => by
    rw [List.pairwise_cons] at hR hS
    have hab : a = b := by
      rcases List.mem_cons.1 ((h a).1 (List.mem_cons_self ..)) with e | e
      · exact e
      · rcases List.mem_cons.1 ((h b).2 (List.mem_cons_self ..)) with e' | e'
        · exact e'.symm
        · exact absurd (less_trans (hS.1 a e) (hR.1 b e')) (less_irrefl b)
    subst hab
    rw [sorted_ext R S hR.2 hS.2 (fun m => ?_)]
    constructor
    · intro hm
      rcases List.mem_cons.1 ((h m).1 (List.mem_cons_of_mem _ hm)) with e | e
      · subst e; exact absurd (hR.1 m hm) (less_irrefl m)
      · exact e
    · intro hm
      rcases List.mem_cons.1 ((h m).2 (List.mem_cons_of_mem _ hm)) with e | e
      · subst e; exact absurd (hS.1 m hm) (less_irrefl m)
      · exact e
/-- Two vectors that have the same of each path are the same. -/
theorem vec_ext {R S : List M} (hR : Vec R) (hS : Vec S) (h : ∀ q, ofL R q = ofL S q) : R = S := by
  have key : ∀ {R S : List M}, Vec R → Vec S → (∀ q, ofL R q = ofL S q) → ∀ m ∈ R, m ∈ S := by
    intro R S hR hS h m hm
    have e := h m.p
    rw [vec_of hR hm] at e
    obtain ⟨hp, hn⟩ := hR.2 m hm
    rcases ofL_ex S m.p with e0 | ⟨k, hk, e1, _, e2⟩
    · omega
    · have : k = m := M.ext' e1 (by omega)
      rw [← this]; exact hk
  exact sorted_ext R S hR.1 hS.1 fun m => ⟨key hR hS h m, key hS hR (fun q => (h q).symm) m⟩

/-- What tidy leaves behind the sort: rising, of each path the greatest first. -/
def Le (a b : M) : Prop := Lib.compareBytes a.p b.p < 0 ∨ (a.p = b.p ∧ b.n ≤ a.n)
theorem le_trans {a b c : M} (h : Le a b) (k : Le b c) : Le a c := by
  rcases h with h | ⟨h, h'⟩
  · rcases k with k | ⟨k, k'⟩
    · exact .inl (less_trans (a := a) (b := b) (c := c) h k)
    · rw [k] at h; exact .inl h
  · rcases k with k | ⟨k, k'⟩
    · rw [← h] at k; exact .inl k
    · exact .inr ⟨h.trans k, by omega⟩
theorem cf_le {a b : M} (h : ¬ cf b a < 0) : Le a b := by
  unfold cf at h
  rcases Order.cmp_ways b.p a.p with e | e | e
  · rw [if_pos (by omega)] at h; omega
  · have e2 := Order.cmp_zero _ _ e
    rw [if_neg (by omega)] at h
    refine .inr ⟨e2.symm, ?_⟩
    unfold cmpI at h
    split at h
    · omega
    · omega
  · refine .inl ?_
    rw [Order.cmp_flip]; omega
theorem dgo_law : ∀ (r : List M) (x : M), (x :: r).Pairwise Le → (∀ y ∈ dgo alike x r, y ∈ r ∧ Less x y) ∧ (dgo alike x r).Pairwise Less ∧ ∀ m ∈ r, (m.p = x.p ∧ m.n ≤ x.n) ∨ ∃ y ∈ dgo alike x r, y.p = m.p ∧ m.n ≤ y.n
  | [], x, _ => ⟨fun y h => (by cases h), List.Pairwise.nil, fun m h => (by cases h)⟩
  | y :: r, x, h => by
    rw [List.pairwise_cons] at h
    obtain ⟨i1, i2, i3⟩ := dgo_law r y h.2
    have hxy := h.1 y (List.mem_cons_self ..)
    rw [dgo]
    by_cases ha : alike y x = true
    · rw [if_pos ha]
      have e : y.p = x.p := by unfold alike at ha; simpa using ha
      refine ⟨fun z hz => ⟨List.mem_cons_of_mem _ (i1 z hz).1, ?_⟩, i2, fun m hm => ?_⟩
      · have := (i1 z hz).2; unfold Less at *; rw [← e]; exact this
      · have hyx : y.n ≤ x.n := by
          rcases hxy with h' | h'
          · rw [e, Order.cmp_self] at h'; omega
          · exact h'.2
        rcases List.mem_cons.1 hm with rfl | hm
        · exact .inl ⟨e, hyx⟩
        · rcases i3 m hm with ⟨e1, e2⟩ | h'
          · exact .inl ⟨e1.trans e, by omega⟩
          · exact .inr h'
    · rw [if_neg ha]
      have ne : y.p ≠ x.p := fun e => ha (by unfold alike; simpa using e)
      have hl : Less x y := by
        rcases hxy with h' | h'
        · exact h'
        · exact absurd h'.1.symm ne
      refine ⟨fun z hz => ?_, ?_, fun m hm => ?_⟩
      · rcases List.mem_cons.1 hz with rfl | hz
        · exact ⟨List.mem_cons_self .., hl⟩
        · exact ⟨List.mem_cons_of_mem _ (i1 z hz).1, less_trans hl (i1 z hz).2⟩
      · exact List.pairwise_cons.2 ⟨fun z hz => (i1 z hz).2, i2⟩
      · rcases List.mem_cons.1 hm with rfl | hm
        · exact .inr ⟨m, List.mem_cons_self .., rfl, Nat.le_refl _⟩
        · rcases i3 m hm with ⟨e1, e2⟩ | ⟨z, hz, e⟩
          · exact .inr ⟨y, List.mem_cons_self .., e1.symm, e2⟩
          · exact .inr ⟨z, List.mem_cons_of_mem _ hz, e⟩
theorem dedup_law (S : List M) (h : S.Pairwise Le) : (∀ y ∈ dedup alike S, y ∈ S) ∧ (dedup alike S).Pairwise Less ∧ ∀ m ∈ S, ∃ y ∈ dedup alike S, y.p = m.p ∧ m.n ≤ y.n := by
  cases S with
  | nil => exact ⟨fun y h => (by cases h), List.Pairwise.nil, fun m h => (by cases h)⟩
  | cons x r =>
    obtain ⟨i1, i2, i3⟩ := dgo_law r x h
    rw [dedup]
    refine ⟨fun y hy => ?_, List.pairwise_cons.2 ⟨fun z hz => (i1 z hz).2, i2⟩, fun m hm => ?_⟩
    · rcases List.mem_cons.1 hy with rfl | hy
      · exact List.mem_cons_self ..
      · exact List.mem_cons_of_mem _ (i1 y hy).1
    · rcases List.mem_cons.1 hm with rfl | hm
      · exact ⟨m, List.mem_cons_self .., rfl, Nat.le_refl _⟩
      · rcases i3 m hm with ⟨e1, e2⟩ | ⟨z, hz, e⟩
        · exact ⟨x, List.mem_cons_self .., e1.symm, e2⟩
        · exact ⟨z, List.mem_cons_of_mem _ hz, e⟩
theorem dgo_len : ∀ (r : List M) (x : M), (dgo alike x r).length ≤ r.length
  | [], _ => Nat.le_refl _
  | y :: r, x => by
    have := dgo_len r y
    rw [dgo]; split <;> simp only [List.length_cons] <;> omega
theorem dedup_len (S : List M) : (dedup alike S).length ≤ S.length := by
  cases S with
  | nil => exact Nat.le_refl _
  | cons x r => have := dgo_len r x; rw [dedup, List.length_cons, List.length_cons]; omega
/-- A list is the vector of what a function tells of each path. -/
def IsVec (R : List M) (f : List UInt8 → Nat) : Prop := Vec R ∧ ∀ q, ofL R q = f q
theorem IsVec.uniq {R S : List M} {f : List UInt8 → Nat} (h : IsVec R f) (k : IsVec S f) : R = S := vec_ext h.1 k.1 fun q => (h.2 q).trans (k.2 q).symm
theorem nought_iff (m : M) : nought m = false ↔ m.p ≠ [] ∧ 1 ≤ m.n := by
  unfold nought
  rw [decide_eq_false_iff_not]
  constructor
  · intro h; exact ⟨fun e => h (.inl e), by rcases Nat.eq_zero_or_pos m.n with e | e; exact absurd (.inr e) h; exact e⟩
  · rintro ⟨h1, h2⟩ (e | e)
    · exact h1 e
    · omega
/-- What tidy makes. -/
theorem tidy_vec {L S : List M} (hp : S.Perm (L.filter fun m => !nought m)) (hs : S.Pairwise Le) : IsVec (dedup alike S) (ofL L) := by
  obtain ⟨h1, h2, h3⟩ := dedup_law S hs
  have hmem : ∀ m, m ∈ S ↔ m ∈ L ∧ m.p ≠ [] ∧ 1 ≤ m.n := by
    intro m
    rw [hp.mem_iff, List.mem_filter]
    constructor
    · rintro ⟨a, b⟩; exact ⟨a, (nought_iff m).1 (by simpa using b)⟩
    · rintro ⟨a, b⟩; exact ⟨a, by rw [(nought_iff m).2 b]; rfl⟩
  refine ⟨⟨h2, fun m hm => ((hmem m).1 (h1 m hm)).2⟩, fun q => ofL_eq ?_ ?_ q⟩
  · intro m hm _ _
    exact ⟨m, ((hmem m).1 (h1 m hm)).1, rfl, Nat.le_refl _⟩
  · intro k hk hp1 hn
    exact h3 k ((hmem k).2 ⟨hk, hp1, hn⟩)

end Dots
end Go.Proofs.Ytcbnkncgacbniaa
