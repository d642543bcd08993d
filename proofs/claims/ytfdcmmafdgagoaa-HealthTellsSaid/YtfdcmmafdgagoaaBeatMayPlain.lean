/- which beats may be, in plain words. -/
import Derived.Test.YtfdcmmafdgagoaaBeatLaw
namespace Go.Proofs.Ytfdcmmafdgagoaa
namespace Beat
open Go.RowKit Go.Proofs.Ytfdcmmafdgagoaa.Order

def pathB (p : List UInt8) : Bool := decide (0 < (Path.parse p).length)
/-- A beat behind the beat of 'last' (none: the first one) that may not be. -/
def badB (last : Option (List UInt8)) (x : B) : Bool := (match last with | some l => decide (Lib.compareBytes x.p l ≤ 0) | none => false) || (decide (281474976710656 < x.n) || !pathB x.p)
def mayGo : Option (List UInt8) → List B → Bool
  | _, [] => true
  | last, x :: r => if badB last x then false else mayGo (some x.p) r
def mayB (L : List B) : Bool := decide (L.length ≤ 24) && mayGo none L
def before (L : List B) : Nat → Option (List UInt8)
  | 0 => none
  | k + 1 => (L[k]?).map (·.p)
theorem mayGo_step (L : List B) (k : Nat) (h : k < L.length) (o : Option (List UInt8)) : mayGo o (L.drop k) = if badB o L[k] then false else mayGo (before L (k + 1)) (L.drop (k + 1)) := by
  rw [List.drop_eq_getElem_cons h, mayGo, before, List.getElem?_eq_getElem h]; rfl
theorem go_facts : ∀ (L : List B) (o : Option (List UInt8)), mayGo o L = true → (∀ x ∈ L, x.n ≤ 281474976710656 ∧ pathB x.p = true) ∧ Rise L ∧ ∀ l, o = some l → ∀ x ∈ L, lt l x.p
  | [], _, _ => ⟨(fun _ h => (by cases h)), List.Pairwise.nil, (fun _ _ _ h => (by cases h))⟩
  | x :: L, o, h => by
    rw [mayGo] at h
    split at h
    · cases h
    rename_i hb
    obtain ⟨h1, h2, h3⟩ := go_facts L _ h
    unfold badB at hb
    simp only [Bool.or_eq_true, not_or, decide_eq_true_eq, Bool.not_eq_true', Bool.not_eq_false] at hb
    obtain ⟨hb1, hb2, hb3⟩ := hb
    have hl : ∀ l, o = some l → lt l x.p := fun l e => by
      rw [e] at hb1
      simp only [decide_eq_true_eq] at hb1
      unfold lt
      have := cmp_flip l x.p
      omega
    refine ⟨fun y hy => ?_, List.pairwise_cons.2 ⟨h3 _ rfl, h2⟩, fun l e y hy => ?_⟩
    · rcases List.mem_cons.1 hy with rfl | hy
      · exact ⟨by omega, by simpa using hb3⟩
      · exact h1 y hy
    · rcases List.mem_cons.1 hy with rfl | hy
      · exact hl l e
      · exact lt_trans (hl l e) (h3 _ rfl y hy)
theorem may_facts {L : List B} (h : mayB L = true) : L.length ≤ 24 ∧ (∀ x ∈ L, x.n ≤ 281474976710656 ∧ pathB x.p = true) ∧ Rise L := by
  unfold mayB at h
  simp only [Bool.and_eq_true, decide_eq_true_eq] at h
  obtain ⟨a, b, _⟩ := go_facts L none h.2
  exact ⟨h.1, a, b⟩
end Beat
end Go.Proofs.Ytfdcmmafdgagoaa
