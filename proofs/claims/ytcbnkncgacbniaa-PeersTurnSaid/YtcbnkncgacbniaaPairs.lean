
/- What two vectors together are, in plain Lean. -/
import Derived.Test.YtcbnkncgacbniaaDotJoin
namespace Go.Proofs.Ytcbnkncgacbniaa
namespace Dots
open Go.RowKit Go.Proofs.Ytcbnkncgacbniaa.Mark

theorem ofL_ne {m : M} {q : List UInt8} (h : m.p ≠ q) (A : List M) : ofL (m :: A) q = ofL A q := by
  have : isQ q m = false := by unfold isQ; simp [h]
  unfold ofL mostL
  rw [List.foldl_cons, if_neg (by rw [this]; decide)]
theorem ofL_none (A : List M) (q : List UInt8) (h : ∀ m ∈ A, m.p ≠ q) : ofL A q = 0 := by
  rcases ofL_ex A q with e | ⟨m, hm, e, _⟩
  · exact e
  · exact absurd e (h m hm)
theorem Vec.tail {m : M} {A : List M} (h : Vec (m :: A)) : Vec A := ⟨(List.pairwise_cons.1 h.1).2, fun x hx => h.2 x (List.mem_cons_of_mem _ hx)⟩
theorem Vec.head {m : M} {A : List M} (h : Vec (m :: A)) : ofL (m :: A) m.p = m.n := vec_of h (List.mem_cons_self ..)
theorem less_ne {a b : M} (h : Less a b) : a.p ≠ b.p := fun e => by unfold Less at h; rw [e, Order.cmp_self] at h; omega
def LessP (x y : P3) : Prop := Lib.compareBytes x.p y.p < 0
/-- All that is known of the pairs of two vectors. -/
structure PairLaw (A B : List M) (P : List P3) : Prop where
  from_ : ∀ x ∈ P, (∃ m ∈ A, m.p = x.p) ∨ (∃ m ∈ B, m.p = x.p)
  rise : P.Pairwise LessP
  val : ∀ x ∈ P, x.a = ofL A x.p ∧ x.b = ofL B x.p
  allA : ∀ m ∈ A, ∃ x ∈ P, x.p = m.p
  allB : ∀ m ∈ B, ∃ x ∈ P, x.p = m.p
theorem pair_law : ∀ (k : Nat) (A B : List M), Vec A → Vec B → A.length + B.length ≤ k → PairLaw A B (pairsF k A B)
  | 0, A, B, _, _, h => by
    obtain rfl : A = [] := List.length_eq_zero_iff.1 (by omega)
    obtain rfl : B = [] := List.length_eq_zero_iff.1 (by omega)
    exact ⟨fun x h => (by cases h), List.Pairwise.nil, fun x h => (by cases h), fun x h => (by cases h), fun x h => (by cases h)⟩
  | _ + 1, [], [], _, _, _ => ⟨fun x h => (by cases h), List.Pairwise.nil, fun x h => (by cases h), fun x h => (by cases h), fun x h => (by cases h)⟩
  | k + 1, m :: A, [], hA, hB, h => by
    have r := pair_law k A [] hA.tail hB (by simp at h ⊢; omega)
    have hl := (List.pairwise_cons.1 hA.1).1
    have hgt : ∀ y ∈ pairsF k A [], Lib.compareBytes m.p y.p < 0 := by
      intro y hy
      rcases r.from_ y hy with ⟨z, hz, e⟩ | ⟨z, hz, _⟩
      · rw [← e]; exact hl z hz
      · cases hz
    rw [pairsF]
    refine ⟨fun x hx => ?_, List.pairwise_cons.2 ⟨hgt, r.rise⟩, fun x hx => ?_, fun z hz => ?_, fun z hz => by cases hz⟩
    · rcases List.mem_cons.1 hx with rfl | hx
      · exact .inl ⟨m, List.mem_cons_self .., rfl⟩
      · rcases r.from_ x hx with ⟨z, hz, e⟩ | ⟨z, hz, _⟩
        · exact .inl ⟨z, List.mem_cons_of_mem _ hz, e⟩
        · cases hz
    · rcases List.mem_cons.1 hx with rfl | hx
      · exact ⟨hA.head.symm, rfl⟩
      · have hne : m.p ≠ x.p := fun e => by have := hgt x hx; rw [e, Order.cmp_self] at this; omega
        rw [ofL_ne hne]; exact r.val x hx
    · rcases List.mem_cons.1 hz with rfl | hz
      · exact ⟨_, List.mem_cons_self .., rfl⟩
      · obtain ⟨x, hx, e⟩ := r.allA z hz; exact ⟨x, List.mem_cons_of_mem _ hx, e⟩
  | k + 1, [], m :: B, hA, hB, h => by
    have r := pair_law k [] B hA hB.tail (by simp at h ⊢; omega)
    have hl := (List.pairwise_cons.1 hB.1).1
    have hgt : ∀ y ∈ pairsF k [] B, Lib.compareBytes m.p y.p < 0 := by
      intro y hy
      rcases r.from_ y hy with ⟨z, hz, _⟩ | ⟨z, hz, e⟩
      · cases hz
      · rw [← e]; exact hl z hz
    rw [pairsF]
    refine ⟨fun x hx => ?_, List.pairwise_cons.2 ⟨hgt, r.rise⟩, fun x hx => ?_, fun z hz => (by cases hz), fun z hz => ?_⟩
    · rcases List.mem_cons.1 hx with rfl | hx
      · exact .inr ⟨m, List.mem_cons_self .., rfl⟩
      · rcases r.from_ x hx with ⟨z, hz, _⟩ | ⟨z, hz, e⟩
        · cases hz
        · exact .inr ⟨z, List.mem_cons_of_mem _ hz, e⟩
    · rcases List.mem_cons.1 hx with rfl | hx
      · exact ⟨rfl, hB.head.symm⟩
      · have hne : m.p ≠ x.p := fun e => by have := hgt x hx; rw [e, Order.cmp_self] at this; omega
        rw [ofL_ne hne]; exact r.val x hx
    · rcases List.mem_cons.1 hz with rfl | hz
      · exact ⟨_, List.mem_cons_self .., rfl⟩
      · obtain ⟨x, hx, e⟩ := r.allB z hz; exact ⟨x, List.mem_cons_of_mem _ hx, e⟩
  | k + 1, m :: A, n :: B, hA, hB, h => by
    have hlA := (List.pairwise_cons.1 hA.1).1
    have hlB := (List.pairwise_cons.1 hB.1).1
    rw [pairsF]
    by_cases hc : Lib.compareBytes m.p n.p < 0
    · rw [if_pos hc]
      have r := pair_law k A (n :: B) hA.tail hB (by simp at h ⊢; omega)
      have hlt : ∀ z ∈ n :: B, Less m z := by
        intro z hz
        rcases List.mem_cons.1 hz with rfl | hz
        · exact hc
        · exact less_trans (a := m) (b := n) (c := z) hc (hlB z hz)
      have hgt : ∀ y ∈ pairsF k A (n :: B), Lib.compareBytes m.p y.p < 0 := by
        intro y hy
        rcases r.from_ y hy with ⟨z, hz, e⟩ | ⟨z, hz, e⟩
        · rw [← e]; exact hlA z hz
        · rw [← e]; exact hlt z hz
      refine ⟨fun x hx => ?_, List.pairwise_cons.2 ⟨hgt, r.rise⟩, fun x hx => ?_, fun z hz => ?_, fun z hz => ?_⟩
      · rcases List.mem_cons.1 hx with rfl | hx
        · exact .inl ⟨m, List.mem_cons_self .., rfl⟩
        · rcases r.from_ x hx with ⟨z, hz, e⟩ | h'
          · exact .inl ⟨z, List.mem_cons_of_mem _ hz, e⟩
          · exact .inr h'
      · rcases List.mem_cons.1 hx with rfl | hx
        · exact ⟨hA.head.symm, (ofL_none _ _ fun z hz => (less_ne (hlt z hz)).symm).symm⟩
        · have hne : m.p ≠ x.p := fun e => by have := hgt x hx; rw [e, Order.cmp_self] at this; omega
          rw [ofL_ne hne]; exact r.val x hx
      · rcases List.mem_cons.1 hz with rfl | hz
        · exact ⟨_, List.mem_cons_self .., rfl⟩
        · obtain ⟨x, hx, e⟩ := r.allA z hz; exact ⟨x, List.mem_cons_of_mem _ hx, e⟩
      · obtain ⟨x, hx, e⟩ := r.allB z hz; exact ⟨x, List.mem_cons_of_mem _ hx, e⟩
    · rw [if_neg hc]
      by_cases he : m.p = n.p
      · rw [if_pos he]
        have r := pair_law k A B hA.tail hB.tail (by simp at h; omega)
        have hgt : ∀ y ∈ pairsF k A B, Lib.compareBytes n.p y.p < 0 := by
          intro y hy
          rcases r.from_ y hy with ⟨z, hz, e⟩ | ⟨z, hz, e⟩
          · rw [← e, ← he]; exact hlA z hz
          · rw [← e]; exact hlB z hz
        refine ⟨fun x hx => ?_, List.pairwise_cons.2 ⟨hgt, r.rise⟩, fun x hx => ?_, fun z hz => ?_, fun z hz => ?_⟩
        · rcases List.mem_cons.1 hx with rfl | hx
          · exact .inl ⟨m, List.mem_cons_self .., he⟩
          · rcases r.from_ x hx with ⟨z, hz, e⟩ | ⟨z, hz, e⟩
            · exact .inl ⟨z, List.mem_cons_of_mem _ hz, e⟩
            · exact .inr ⟨z, List.mem_cons_of_mem _ hz, e⟩
        · rcases List.mem_cons.1 hx with rfl | hx
          · exact ⟨by show m.n = _; rw [← he]; exact hA.head.symm, hB.head.symm⟩
          · have hne : n.p ≠ x.p := fun e => by have := hgt x hx; rw [e, Order.cmp_self] at this; omega
            rw [ofL_ne (by rw [he]; exact hne), ofL_ne hne]; exact r.val x hx
        · rcases List.mem_cons.1 hz with rfl | hz
          · exact ⟨_, List.mem_cons_self .., he.symm⟩
          · obtain ⟨x, hx, e⟩ := r.allA z hz; exact ⟨x, List.mem_cons_of_mem _ hx, e⟩
        · rcases List.mem_cons.1 hz with rfl | hz
          · exact ⟨_, List.mem_cons_self .., rfl⟩
          · obtain ⟨x, hx, e⟩ := r.allB z hz; exact ⟨x, List.mem_cons_of_mem _ hx, e⟩
      · rw [if_neg he]
        have r := pair_law k (m :: A) B hA hB.tail (by simp at h ⊢; omega)
        have hnm : Less n m := by
          unfold Less
          rcases Order.cmp_ways m.p n.p with h' | h' | h'
          · omega
          · exact absurd (Order.cmp_zero _ _ h') he
          · rw [Order.cmp_flip]; omega
        have hlt : ∀ z ∈ m :: A, Less n z := by
          intro z hz
          rcases List.mem_cons.1 hz with rfl | hz
          · exact hnm
          · exact less_trans hnm (hlA z hz)
        have hgt : ∀ y ∈ pairsF k (m :: A) B, Lib.compareBytes n.p y.p < 0 := by
          intro y hy
          rcases r.from_ y hy with ⟨z, hz, e⟩ | ⟨z, hz, e⟩
          · rw [← e]; exact hlt z hz
          · rw [← e]; exact hlB z hz
        refine ⟨fun x hx => ?_, List.pairwise_cons.2 ⟨hgt, r.rise⟩, fun x hx => ?_, fun z hz => ?_, fun z hz => ?_⟩
        · rcases List.mem_cons.1 hx with rfl | hx
          · exact .inr ⟨n, List.mem_cons_self .., rfl⟩
          · rcases r.from_ x hx with h' | ⟨z, hz, e⟩
            · exact .inl h'
            · exact .inr ⟨z, List.mem_cons_of_mem _ hz, e⟩
        · rcases List.mem_cons.1 hx with rfl | hx
          · exact ⟨(ofL_none _ _ fun z hz => (less_ne (hlt z hz)).symm).symm, hB.head.symm⟩
          · have hne : n.p ≠ x.p := fun e => by have := hgt x hx; rw [e, Order.cmp_self] at this; omega
            rw [ofL_ne hne]; exact r.val x hx
        · obtain ⟨x, hx, e⟩ := r.allA z hz; exact ⟨x, List.mem_cons_of_mem _ hx, e⟩
        · rcases List.mem_cons.1 hz with rfl | hz
          · exact ⟨_, List.mem_cons_self .., rfl⟩
          · obtain ⟨x, hx, e⟩ := r.allB z hz; exact ⟨x, List.mem_cons_of_mem _ hx, e⟩

/-- Join is the vector of the greater numbers. -/
theorem join_vec {R S : List M} {f g : List UInt8 → Nat} (hR : IsVec R f) (hS : IsVec S g) : IsVec ((pairsL R S).map joinM) (fun q => max (f q) (g q)) := by
  have P := pair_law _ R S hR.1 hS.1 (Nat.le_refl _)
  change PairLaw R S (pairsL R S) at P
  have hmem : ∀ x ∈ pairsL R S, x.p ≠ [] ∧ 1 ≤ max x.a x.b := by
    intro x hx
    obtain ⟨e1, e2⟩ := P.val x hx
    rcases P.from_ x hx with ⟨m, hm, e⟩ | ⟨m, hm, e⟩
    · obtain ⟨h1, h2⟩ := hR.1.2 m hm
      have := vec_of hR.1 hm
      rw [e] at this
      exact ⟨by rw [← e]; exact h1, by omega⟩
    · obtain ⟨h1, h2⟩ := hS.1.2 m hm
      have := vec_of hS.1 hm
      rw [e] at this
      exact ⟨by rw [← e]; exact h1, by omega⟩
  have hV : Vec ((pairsL R S).map joinM) := by
    refine ⟨List.pairwise_map.2 P.rise, fun m hm => ?_⟩
    obtain ⟨x, hx, rfl⟩ := List.mem_map.1 hm
    exact hmem x hx
  refine ⟨hV, fun q => ?_⟩
  by_cases h : ∃ x ∈ pairsL R S, x.p = q
  · obtain ⟨x, hx, rfl⟩ := h
    obtain ⟨e1, e2⟩ := P.val x hx
    have h1 := vec_of hV (List.mem_map.2 ⟨x, hx, rfl⟩)
    change ofL _ x.p = max x.a x.b at h1
    rw [h1, e1, e2, hR.2, hS.2]
  · have hz : ∀ {T : List M} (hT : ∀ m ∈ T, ∃ x ∈ pairsL R S, x.p = m.p), ofL T q = 0 := by
      intro T hT
      refine ofL_none T q fun m hm e => ?_
      obtain ⟨x, hx, e'⟩ := hT m hm
      exact h ⟨x, hx, e'.trans e⟩
    have z1 := hz P.allA
    have z2 := hz P.allB
    rw [hR.2] at z1
    rw [hS.2] at z2
    have z3 : ofL ((pairsL R S).map joinM) q = 0 := ofL_none _ _ fun m hm e => by
      obtain ⟨x, hx, rfl⟩ := List.mem_map.1 hm
      exact h ⟨x, hx, e⟩
    show _ = max (f q) (g q)
    rw [z3, z1, z2]; rfl
/-- Covers, told of all paths. -/
theorem covers_iff {R S : List M} {f g : List UInt8 → Nat} (hR : IsVec R f) (hS : IsVec S g) : ((pairsL R S).all fun x => decide (x.b ≤ x.a)) = true ↔ ∀ q, g q ≤ f q := by
  have P := pair_law _ R S hR.1 hS.1 (Nat.le_refl _)
  change PairLaw R S (pairsL R S) at P
  rw [List.all_eq_true]
  constructor
  · intro h q
    by_cases hx : ∃ x ∈ pairsL R S, x.p = q
    · obtain ⟨x, hx, rfl⟩ := hx
      have := h x hx
      rw [decide_eq_true_eq] at this
      obtain ⟨e1, e2⟩ := P.val x hx
      rw [← hR.2, ← hS.2, ← e1, ← e2]; exact this
    · have : ofL S q = 0 := ofL_none S q fun m hm e => by
        obtain ⟨x, h1, e'⟩ := P.allB m hm
        exact hx ⟨x, h1, e'.trans e⟩
      rw [hS.2] at this
      omega
  · intro h x hx
    obtain ⟨e1, e2⟩ := P.val x hx
    have := h x.p
    rw [← hR.2, ← hS.2, ← e1, ← e2] at this
    exact decide_eq_true this

end Dots
end Go.Proofs.Ytcbnkncgacbniaa
