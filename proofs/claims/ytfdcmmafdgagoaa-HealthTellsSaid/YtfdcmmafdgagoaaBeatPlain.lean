/- beats in plain words: the one rising list with a given answer for each member; joins, puts. -/
import Derived.Test.YtfdcmmafdgagoaaBeat
import Derived.Test.YtfdcmmafdgagoaaOrder
namespace Go.Proofs.Ytfdcmmafdgagoaa
namespace Beat
open Go.RowKit Go.Proofs.Ytfdcmmafdgagoaa.Order

def lt (a b : List UInt8) : Prop := Lib.compareBytes a b < 0
instance (a b : List UInt8) : Decidable (lt a b) := inferInstanceAs (Decidable (Lib.compareBytes a b < 0))
theorem lt_irrefl (a : List UInt8) : ¬ lt a a := by unfold lt; rw [cmp_self]; decide
theorem lt_asymm {a b : List UInt8} (h : lt a b) : ¬ lt b a := by unfold lt at h ⊢; have := cmp_flip a b; omega
theorem lt_trans {a b c : List UInt8} (h : lt a b) (k : lt b c) : lt a c := by
  have h1 := cmp_trans a b c (by unfold lt at h; omega) (by unfold lt at k; omega)
  unfold lt
  rcases Int.lt_or_eq_of_le h1 with h2 | h2
  · exact h2
  · have e := cmp_zero _ _ h2
    subst e
    exact absurd k (lt_asymm h)
theorem lt_ways (a b : List UInt8) : lt a b ∨ a = b ∨ lt b a := by
  unfold lt
  have := cmp_flip a b
  rcases cmp_ways a b with h | h | h
  · left; omega
  · right; left; exact cmp_zero _ _ h
  · right; right; omega
theorem lt_ne {a b : List UInt8} (h : lt a b) : a ≠ b := fun e => by rw [e] at h; exact lt_irrefl _ h

def Rise (L : List B) : Prop := L.Pairwise (fun x y => lt x.p y.p)
/-- The beat of a member. -/
def look (L : List B) (q : List UInt8) : Option B := L.find? (fun x => decide (x.p = q))
theorem look_nil (q : List UInt8) : look [] q = none := rfl
theorem look_cons (x : B) (L : List B) (q : List UInt8) : look (x :: L) q = if x.p = q then some x else look L q := by
  unfold look
  rw [List.find?_cons]
  by_cases h : x.p = q <;> simp [h]
theorem look_some {L : List B} {q : List UInt8} {x : B} (h : look L q = some x) : x.p = q ∧ x ∈ L :=
  ⟨by have := List.find?_some h; simpa using this, List.mem_of_find?_eq_some h⟩
theorem look_none {L : List B} {q : List UInt8} (h : ∀ x ∈ L, x.p ≠ q) : look L q = none := by
  unfold look
  rw [List.find?_eq_none]
  intro x hx; simpa using h x hx
theorem look_mem {L : List B} (h : Rise L) {x : B} (hx : x ∈ L) : look L x.p = some x := by
  induction L with
  | nil => cases hx
  | cons y L ih =>
    rw [look_cons]
    have h2 := List.pairwise_cons.1 h
    rcases List.mem_cons.1 hx with e | hm
    · rw [e, if_pos rfl]
    · rw [if_neg (lt_ne (h2.1 x hm)), ih h2.2 hm]
theorem look_above {x : B} {L : List B} (h : Rise (x :: L)) {q : List UInt8} (hq : q = x.p ∨ lt q x.p) : look L q = none := by
  have h2 := List.pairwise_cons.1 h
  refine look_none fun y hy e => ?_
  have h3 := h2.1 y hy
  rw [e] at h3
  rcases hq with hq | hq
  · rw [hq] at h3; exact lt_irrefl _ h3
  · exact lt_asymm hq h3
theorem rise_ext : ∀ (L K : List B), Rise L → Rise K → (∀ q, look L q = look K q) → L = K
  | [], [], _, _, _ => rfl
  | [], y :: K, _, _, h => by have := h y.p; rw [look_nil, look_cons, if_pos rfl] at this; cases this
  | x :: L, [], _, _, h => by have := h x.p; rw [look_nil, look_cons, if_pos rfl] at this; cases this
  | x :: L, y :: K, hL, hK, h => by
    have hx := h x.p
    have hy := h y.p
    rw [look_cons, if_pos rfl, look_cons] at hx
    rw [look_cons, look_cons, if_pos rfl] at hy
    rcases lt_ways x.p y.p with e | e | e
    · rw [if_neg (fun q => lt_ne e q.symm), look_above hK (Or.inr e)] at hx; cases hx
    · rw [if_pos e.symm] at hx
      obtain rfl : x = y := Option.some.inj hx
      have := rise_ext L K (List.pairwise_cons.1 hL).2 (List.pairwise_cons.1 hK).2 (fun q => by
        by_cases hq : q = x.p
        · rw [look_above hL (Or.inl hq), look_above hK (Or.inl hq)]
        · have := h q
          rw [look_cons, look_cons, if_neg (Ne.symm hq), if_neg (Ne.symm hq)] at this
          exact this)
      rw [this]
    · rw [if_neg (fun q => lt_ne e q.symm), look_above hL (Or.inr e)] at hy; cases hy

def greater (a b : B) : B := if a.n < b.n ∨ (a.n = b.n ∧ b.bad = true) then b else a
theorem greater_p {a b : B} (h : a.p = b.p) : (greater a b).p = a.p := by unfold greater; split <;> simp [h]
/-- Of two answers, the greater one. -/
def comb : Option B → Option B → Option B
  | some x, some y => some (greater x y)
  | some x, none => some x
  | none, r => r
def mergeL : List B → List B → List B
  | [], b => b
  | x :: a, [] => x :: a
  | x :: a, y :: b => if lt x.p y.p then x :: mergeL a (y :: b) else if lt y.p x.p then y :: mergeL (x :: a) b else greater x y :: mergeL a b
termination_by a b => a.length + b.length
theorem merge_mem : ∀ (a b : List B) (z : B), z ∈ mergeL a b → ∃ y, (y ∈ a ∨ y ∈ b) ∧ z.p = y.p
  | [], b, z, h => by rw [mergeL] at h; exact ⟨z, Or.inr h, rfl⟩
  | x :: a, [], z, h => by rw [mergeL] at h; exact ⟨z, Or.inl h, rfl⟩
  | x :: a, y :: b, z, h => by
    rw [mergeL] at h
    split at h
    · rcases List.mem_cons.1 h with e | h
      · exact ⟨x, Or.inl (List.mem_cons_self ..), by rw [e]⟩
      · obtain ⟨u, hu, e⟩ := merge_mem a (y :: b) z h
        exact ⟨u, hu.imp (List.mem_cons_of_mem _) id, e⟩
    split at h
    · rcases List.mem_cons.1 h with e | h
      · exact ⟨y, Or.inr (List.mem_cons_self ..), by rw [e]⟩
      · obtain ⟨u, hu, e⟩ := merge_mem (x :: a) b z h
        exact ⟨u, hu.imp id (List.mem_cons_of_mem _), e⟩
    · rename_i h1 h2
      have e0 : x.p = y.p := by rcases lt_ways x.p y.p with e | e | e; exact absurd e h1; exact e; exact absurd e h2
      rcases List.mem_cons.1 h with e | h
      · exact ⟨x, Or.inl (List.mem_cons_self ..), by rw [e, greater_p e0]⟩
      · obtain ⟨u, hu, e⟩ := merge_mem a b z h
        exact ⟨u, hu.imp (List.mem_cons_of_mem _) (List.mem_cons_of_mem _), e⟩
termination_by a b => a.length + b.length
theorem merge_rise : ∀ (a b : List B), Rise a → Rise b → Rise (mergeL a b)
  | [], b, _, hb => by rw [mergeL]; exact hb
  | x :: a, [], ha, _ => by rw [mergeL]; exact ha
  | x :: a, y :: b, ha, hb => by
    have a2 := List.pairwise_cons.1 ha
    have b2 := List.pairwise_cons.1 hb
    rw [mergeL]
    split
    · rename_i h1
      refine List.pairwise_cons.2 ⟨fun z hz => ?_, merge_rise a (y :: b) a2.2 hb⟩
      obtain ⟨u, hu, e⟩ := merge_mem _ _ z hz
      rw [e]
      rcases hu with hu | hu
      · exact a2.1 u hu
      · rcases List.mem_cons.1 hu with rfl | hu
        · exact h1
        · exact lt_trans h1 (b2.1 u hu)
    split
    · rename_i h1 h2
      refine List.pairwise_cons.2 ⟨fun z hz => ?_, merge_rise (x :: a) b ha b2.2⟩
      obtain ⟨u, hu, e⟩ := merge_mem _ _ z hz
      rw [e]
      rcases hu with hu | hu
      · rcases List.mem_cons.1 hu with rfl | hu
        · exact h2
        · exact lt_trans h2 (a2.1 u hu)
      · exact b2.1 u hu
    · rename_i h1 h2
      have e0 : x.p = y.p := by rcases lt_ways x.p y.p with e | e | e; exact absurd e h1; exact e; exact absurd e h2
      refine List.pairwise_cons.2 ⟨fun z hz => ?_, merge_rise a b a2.2 b2.2⟩
      obtain ⟨u, hu, e⟩ := merge_mem _ _ z hz
      rw [e, greater_p e0]
      rcases hu with hu | hu
      · exact a2.1 u hu
      · rw [e0]; exact b2.1 u hu
termination_by a b => a.length + b.length
theorem comb_none (o : Option B) : comb o none = o := by cases o <;> rfl
theorem merge_look : ∀ (a b : List B), Rise a → Rise b → ∀ q, look (mergeL a b) q = comb (look a q) (look b q)
  | [], b, _, _, q => by rw [mergeL, look_nil]; rfl
  | x :: a, [], _, _, q => by rw [mergeL, look_nil, comb_none]
  | x :: a, y :: b, ha, hb, q => by
    have a2 := List.pairwise_cons.1 ha
    have b2 := List.pairwise_cons.1 hb
    rw [mergeL]
    split
    · rename_i h1
      rw [look_cons, merge_look a (y :: b) a2.2 hb q]
      by_cases hq : x.p = q
      · rw [if_pos hq, look_cons x, if_pos hq]
        have : look (y :: b) q = none := by
          rw [look_cons, if_neg (fun e => lt_ne h1 (hq.trans e.symm)), look_above hb (Or.inr (by rw [← hq]; exact h1))]
        rw [this, comb_none]
      · rw [if_neg hq, look_cons x, if_neg hq]
    split
    · rename_i h1 h2
      rw [look_cons, merge_look (x :: a) b ha b2.2 q]
      by_cases hq : y.p = q
      · rw [if_pos hq, look_cons y, if_pos hq]
        have : look (x :: a) q = none := by
          rw [look_cons, if_neg (fun e => lt_ne h2 (hq.trans e.symm)), look_above ha (Or.inr (by rw [← hq]; exact h2))]
        rw [this]; rfl
      · rw [if_neg hq, look_cons y, if_neg hq]
    · rename_i h1 h2
      have e0 : x.p = y.p := by rcases lt_ways x.p y.p with e | e | e; exact absurd e h1; exact e; exact absurd e h2
      rw [look_cons, merge_look a b a2.2 b2.2 q, greater_p e0, look_cons x, look_cons y, ← e0]
      by_cases hq : x.p = q
      · rw [if_pos hq, if_pos hq, if_pos hq]; rfl
      · rw [if_neg hq, if_neg hq, if_neg hq]
termination_by a b => a.length + b.length
/-- The reference's Put. -/
def putL : List B → B → List B
  | [], b => [b]
  | x :: L, b => if lt x.p b.p then x :: putL L b else if x.p = b.p then b :: L else b :: x :: L
theorem put_mem : ∀ (L : List B) (b z : B), z ∈ putL L b → z = b ∨ z ∈ L
  | [], b, z, h => by rw [putL] at h; left; simpa using h
  | x :: L, b, z, h => by
    rw [putL] at h
    split at h
    · rcases List.mem_cons.1 h with e | h
      · exact Or.inr (by rw [e]; exact List.mem_cons_self ..)
      · exact (put_mem L b z h).imp id (List.mem_cons_of_mem _)
    split at h
    · exact (List.mem_cons.1 h).imp id (List.mem_cons_of_mem _)
    · exact List.mem_cons.1 h
theorem put_rise : ∀ (L : List B) (b : B), Rise L → Rise (putL L b)
  | [], b, _ => by rw [putL]; exact List.pairwise_singleton _ _
  | x :: L, b, h => by
    have h2 := List.pairwise_cons.1 h
    rw [putL]
    split
    · rename_i h1
      refine List.pairwise_cons.2 ⟨fun z hz => ?_, put_rise L b h2.2⟩
      rcases put_mem L b z hz with e | hz
      · rw [e]; exact h1
      · exact h2.1 z hz
    split
    · rename_i h1 e
      exact List.pairwise_cons.2 ⟨fun z hz => by rw [← e]; exact h2.1 z hz, h2.2⟩
    · rename_i h1 e
      have h3 : lt b.p x.p := by rcases lt_ways x.p b.p with q | q | q; exact absurd q h1; exact absurd q e; exact q
      refine List.pairwise_cons.2 ⟨fun z hz => ?_, h⟩
      rcases List.mem_cons.1 hz with rfl | hz
      · exact h3
      · exact lt_trans h3 (h2.1 z hz)
theorem put_look : ∀ (L : List B) (b : B), Rise L → ∀ q, look (putL L b) q = if q = b.p then some b else look L q
  | [], b, _, q => by
    rw [putL, look_cons, look_nil]
    by_cases h : b.p = q
    · rw [if_pos h, if_pos h.symm]
    · rw [if_neg h, if_neg (Ne.symm h)]
  | x :: L, b, h, q => by
    have h2 := List.pairwise_cons.1 h
    rw [putL]
    split
    · rename_i h1
      rw [look_cons, put_look L b h2.2 q, look_cons x]
      by_cases hx : x.p = q
      · rw [if_pos hx, if_pos hx, if_neg (fun e => lt_ne h1 (hx.trans e))]
      · rw [if_neg hx, if_neg hx]
    split
    · rename_i h1 e
      rw [look_cons, look_cons x, e]
      by_cases hq : b.p = q
      · rw [if_pos hq, if_pos hq.symm]
      · rw [if_neg hq, if_neg hq, if_neg (Ne.symm hq)]
    · rename_i h1 e
      rw [look_cons]
      by_cases hq : b.p = q
      · rw [if_pos hq, if_pos hq.symm]
      · rw [if_neg hq, if_neg (Ne.symm hq)]
/-- The reference's Join, one by one. -/
def joinStep (out : List B) (x : B) : List B := putL out (match look out x.p with | some y => greater y x | none => x)
def joinR (a b : List B) : List B := b.foldl joinStep a
theorem step_p {out : List B} {x : B} : (match look out x.p with | some y => greater y x | none => x).p = x.p := by
  cases h : look out x.p with
  | none => rfl
  | some y => exact (greater_p (look_some h).1).trans (look_some h).1
theorem joinR_rise : ∀ (b a : List B), Rise a → Rise (joinR a b)
  | [], _, h => h
  | _ :: b, _, h => joinR_rise b _ (put_rise _ _ h)
theorem joinR_look : ∀ (b a : List B), Rise a → Rise b → ∀ q, look (joinR a b) q = comb (look a q) (look b q)
  | [], a, _, _, q => by rw [look_nil, comb_none]; rfl
  | x :: b, a, ha, hb, q => by
    have b2 := List.pairwise_cons.1 hb
    show look (joinR (joinStep a x) b) q = _
    rw [joinR_look b (joinStep a x) (put_rise _ _ ha) b2.2 q, joinStep, put_look _ _ ha, step_p, look_cons]
    by_cases hq : q = x.p
    · rw [if_pos hq, if_pos hq.symm, look_above hb (Or.inl hq), comb_none, hq]
      cases look a x.p <;> rfl
    · rw [if_neg hq, if_neg (Ne.symm hq)]
theorem join_eq (a b : List B) (ha : Rise a) (hb : Rise b) : mergeL a b = joinR a b :=
  rise_ext _ _ (merge_rise a b ha hb) (joinR_rise b a ha) (fun q => by rw [merge_look a b ha hb, joinR_look b a ha hb])
end Beat
end Go.Proofs.Ytfdcmmafdgagoaa
