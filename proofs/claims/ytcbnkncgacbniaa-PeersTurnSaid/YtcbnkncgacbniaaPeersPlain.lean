
/- peers, plain: rising lists of texts; who is next. -/
import Derived.Test.YtcbnkncgacbniaaOrder
import Derived.Sort.Walk0
namespace Go.Proofs.Ytcbnkncgacbniaa
namespace Peers
/-- A text into a rising list, once. -/
def ins (q : List UInt8) : List (List UInt8) → List (List UInt8)
  | [] => [q]
  | x :: T => if x < q then x :: ins q T else if x = q then x :: T else q :: x :: T
def sortU : List (List UInt8) → List (List UInt8) := fun L => L.foldr ins []
abbrev Up (T : List (List UInt8)) : Prop := T.Pairwise (fun x y => x < y)
theorem mem_ins (q : List UInt8) : ∀ (T : List (List UInt8)) (x : List UInt8), x ∈ ins q T ↔ x = q ∨ x ∈ T
  | [], x => by simp [ins]
  | y :: T, x => by
    rw [ins]
    split
    · rw [List.mem_cons, mem_ins q T x, List.mem_cons]
      constructor
      · rintro (h | h | h)
        · exact .inr (.inl h)
        · exact .inl h
        · exact .inr (.inr h)
      · rintro (h | h | h)
        · exact .inr (.inl h)
        · exact .inl h
        · exact .inr (.inr h)
    split
    · rename_i _ h
      rw [← h, List.mem_cons]
      constructor
      · exact .inr
      · rintro (h | h)
        · exact .inl h
        · exact h
    · rw [List.mem_cons]
theorem lt_of {a b : List UInt8} (h : ¬ a < b) (hne : a ≠ b) : b < a := by
  by_cases h2 : b < a
  · exact h2
  · exact absurd (List.le_antisymm (List.not_lt.1 h2) (List.not_lt.1 h)) hne
theorem up_ins (q : List UInt8) : ∀ T : List (List UInt8), Up T → Up (ins q T)
  | [], _ => by simp [ins, Up]
  | y :: T, h => by
    have h2 := List.pairwise_cons.1 h
    rw [ins]
    split
    · rename_i hy
      refine List.pairwise_cons.2 ⟨fun x hx => ?_, up_ins q T h2.2⟩
      rcases (mem_ins q T x).1 hx with rfl | hx
      · exact hy
      · exact h2.1 x hx
    split
    · exact h
    · rename_i h1 h3
      have hlt := lt_of h1 h3
      refine List.pairwise_cons.2 ⟨fun x hx => ?_, h⟩
      rcases List.mem_cons.1 hx with rfl | hx
      · exact hlt
      · exact List.lt_trans hlt (h2.1 x hx)
theorem mem_sortU : ∀ (L : List (List UInt8)) (x : List UInt8), x ∈ sortU L ↔ x ∈ L
  | [], x => by simp [sortU]
  | y :: L, x => by
    show x ∈ ins y (sortU L) ↔ _
    rw [mem_ins, mem_sortU L x, List.mem_cons]
theorem up_sortU : ∀ L : List (List UInt8), Up (sortU L)
  | [] => List.Pairwise.nil
  | y :: L => up_ins y _ (up_sortU L)
theorem ins_len (q : List UInt8) : ∀ T : List (List UInt8), (ins q T).length ≤ T.length + 1
  | [] => by simp [ins]
  | y :: T => by
    have := ins_len q T
    rw [ins]
    split
    · simp only [List.length_cons]; omega
    split <;> simp only [List.length_cons] <;> omega
theorem sortU_len : ∀ L : List (List UInt8), (sortU L).length ≤ L.length
  | [] => by simp [sortU]
  | y :: L => by
    have h1 := ins_len y (sortU L)
    have h2 := sortU_len L
    show (ins y (sortU L)).length ≤ _
    simp only [List.length_cons]; omega
theorem up_ext {T U : List (List UInt8)} (hT : Up T) (hU : Up U) (h : ∀ q, q ∈ T ↔ q ∈ U) : T = U := by
  have nd : ∀ {X : List (List UInt8)}, Up X → X.Nodup := fun hX => hX.imp (fun {a b} hab e => by rw [e] at hab; exact List.lt_irrefl b hab)
  refine List.Perm.eq_of_pairwise (le := fun a b => a ≤ b) (fun a b _ _ h1 h2 => List.le_antisymm h1 h2) (hT.imp fun h => List.le_of_lt h) (hU.imp fun h => List.le_of_lt h) ?_
  exact (List.perm_ext_iff_of_nodup (nd hT) (nd hU)).2 h
/-- Who is next behind one. -/
def nextL (T : List (List UInt8)) (last : List UInt8) : List UInt8 := match T.find? (fun x => decide (last < x)) with | some x => x | none => T.headD []
theorem next_hit {T : List (List UInt8)} {last : List UInt8} {k : Nat} (hk : k < T.length) (h : last < T[k]) (hb : ∀ j (hj : j < T.length), j < k → ¬ last < T[j]) : nextL T last = T[k] := by
  unfold nextL
  have : T.find? (fun x => decide (last < x)) = some T[k] := by
    rw [List.find?_eq_some_iff_getElem]
    exact ⟨by simpa using h, k, hk, rfl, fun j hj => by simpa using hb j (by omega) hj⟩
  rw [this]
theorem next_miss {T : List (List UInt8)} {last : List UInt8} (h : 0 < T.length) (hb : ∀ j (hj : j < T.length), ¬ last < T[j]) : nextL T last = T[0] := by
  unfold nextL
  have : T.find? (fun x => decide (last < x)) = none := by
    rw [List.find?_eq_none]
    intro x hx
    obtain ⟨j, hj, rfl⟩ := List.getElem_of_mem hx
    simpa using hb j hj
  rw [this]
  cases T with
  | nil => simp at h
  | cons x T => rfl
theorem gtr_iff (a b : List UInt8) : (!(Op.bytesLess a b || a == b)) = decide (b < a) := by
  rw [Go.Proofs.bytesLess_eq]
  by_cases h : a = b
  · subst h; simp [List.lt_irrefl]
  · by_cases h2 : a < b
    · rw [decide_eq_true h2, decide_eq_false (List.lt_asymm h2)]; rfl
    · rw [decide_eq_false h2, decide_eq_true (lt_of h2 h)]; simp [h]
end Peers
end Go.Proofs.Ytcbnkncgacbniaa
