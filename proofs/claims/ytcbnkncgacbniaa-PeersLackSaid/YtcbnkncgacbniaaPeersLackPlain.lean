/- PeersLack: the plain law. -/
import Derived.Test.YtcbnkncgacbniaaPeersKeep
namespace Go.Proofs.Ytcbnkncgacbniaa
namespace Peers
open Go.RowKit Go.Proofs.Ytcbnkncgacbniaa.Mark Go.Proofs.Ytcbnkncgacbniaa.Dots Go.Proofs.Ytcbnkncgacbniaa.PeersLaw
theorem sortU_nil : sortU [] = [] := List.eq_nil_iff_forall_not_mem.2 (fun x hx => by simpa using (mem_sortU [] x).1 hx)
theorem val_none (V : List UInt8 → List M) : val [] V = fun _ => [] := funext fun q => by unfold val; rw [if_neg (by simp)]
/-- Behind the first j of those who lack it. -/
def LackInv (V : List UInt8 → List M) (L : List M) (R : List (List UInt8)) (j : Nat) (W : List UInt8 → List M) : Prop :=
  (∀ q, ¬ q ∈ R.take j → W q = V q) ∧ (∀ q ∈ R.take j, ∀ x, ofL L x ≤ ofL (W q) x) ∧ VOK W (6000 + 30 * j)
section
variable {T R R2 : List (List UInt8)} {V W W' : List UInt8 → List M} {L : List M} {j : Nat} {q : List UInt8} {r : Bool}
theorem LackInv.first (h : VOK V 6000) : LackInv V L R 0 V := ⟨fun _ _ => rfl, fun q hq => by simp at hq, h⟩
theorem lack_len (h : LackIs T V L R) : R.length ≤ T.length := by
  obtain ⟨c, _, rfl⟩ := h
  exact List.length_filter_le _ _
theorem lack_mem (h : LackIs T V L R) (hq : q ∈ R) : q ∈ T ∧ ¬ ∀ x, ofL L x ≤ ofL (V q) x := by
  obtain ⟨c, hc, rfl⟩ := h
  obtain ⟨h1, h2⟩ := List.mem_filter.1 hq
  refine ⟨h1, fun hn => ?_⟩
  have : c q = true := (hc q).2 (by unfold Peers.val; rw [if_pos h1]; exact hn)
  rw [this] at h2
  exact absurd h2 (by decide)
theorem lack_out (h : LackIs T V L R) (hT : q ∈ T) (hq : ¬ q ∈ R) : ∀ x, ofL L x ≤ ofL (V q) x := by
  obtain ⟨c, hc, rfl⟩ := h
  have h1 : c q = true := by
    cases e : c q
    · exact absurd (List.mem_filter.2 ⟨hT, by rw [e]; rfl⟩) hq
    · rfl
  have h2 := (hc q).1 h1
  unfold Peers.val at h2
  rw [if_pos hT] at h2
  exact h2
theorem lack_new (hT : Up T) (h : LackIs T V L R) (hj : j < R.length) : ¬ R[j] ∈ R.take j := by
  have hU : Up R := by
    obtain ⟨c, _, rfl⟩ := h
    exact List.Pairwise.filter _ hT
  intro hm
  obtain ⟨i, hi, e⟩ := List.getElem_of_mem hm
  rw [List.getElem_take] at e
  have hi' : i < j := by rw [List.length_take] at hi; omega
  have := up_inj hU (by omega) hj e
  omega
/-- What is there of the j-th. -/
theorem LackInv.at (hT : Up T) (h : LackIs T V L R) (k : LackInv V L R j W) (hj : j < R.length) (hq : q = R[j]) : q ∈ T ∧ W q = V q ∧ ¬ ∀ x, ofL L x ≤ ofL (val T W q) x := by
  subst hq
  obtain ⟨h1, h2⟩ := lack_mem h (List.getElem_mem hj)
  have h3 := k.1 _ (lack_new hT h hj)
  exact ⟨h1, h3, by unfold Peers.val; rw [if_pos h1, h3]; exact h2⟩
theorem learn_first (h : Learnt T W q L r W') (hm : mayL L = true) (hq : q ∈ T) (hn : ¬ ∀ x, ofL L x ≤ ofL (val T W q) x) : r = true ∧ (∀ x, ofL L x ≤ ofL (W' q) x) ∧ ∀ x, x ≠ q → W' x = W x := by
  rcases h with ⟨_, _, h1 | h1 | h1⟩ | ⟨rfl, _, _, _, J, rfl, hJ, _⟩
  · rw [hm] at h1; cases h1
  · exact absurd hq h1
  · exact absurd (by unfold Peers.val; rw [if_pos hq]; exact h1) hn
  · refine ⟨rfl, fun x => ?_, fun x hx => ?_⟩
    · have e : upd W q J q = J := by unfold upd; rw [if_pos rfl]
      rw [e, hJ.2 x]; exact Nat.le_max_right _ _
    · unfold upd; rw [if_neg hx]
theorem learn_again (h : Learnt T W q L r W') (hc : ∀ x, ofL L x ≤ ofL (W q) x) : r = false ∧ W' = W := by
  rcases h with ⟨e, e', _⟩ | ⟨_, _, _, hn, _⟩
  · exact ⟨e, e'⟩
  · exact absurd hc hn
theorem LackInv.next (k : LackInv V L R j W) (hj : j < R.length) (hq : q = R[j]) (hL : Learnt T W q L r W') (hok : Ok L) (hl : L.length ≤ 30) (hc : ∀ x, ofL L x ≤ ofL (W' q) x) (ho : ∀ x, x ≠ q → W' x = W x) : LackInv V L R (j + 1) W' := by
  have ht : R.take (j + 1) = R.take j ++ [q] := by rw [List.take_succ_eq_append_getElem hj, ← hq]
  refine ⟨fun x hx => ?_, fun x hx => ?_, ?_⟩
  · rw [ht, List.mem_append, List.mem_singleton] at hx
    rw [ho x (fun e => hx (.inr e))]
    exact k.1 x (fun e => hx (.inl e))
  · by_cases e : x = q
    · rw [e]; exact hc
    · rw [ht, List.mem_append, List.mem_singleton] at hx
      rw [ho x e]
      exact k.2.1 x (hx.resolve_right e)
  · have := learnt_ok hL k.2.2 hok hl
    rw [show 6000 + 30 * (j + 1) = 6000 + 30 * j + 30 by omega]; exact this
theorem LackInv.end (h : LackIs T V L R) (k : LackInv V L R R.length W) (h2 : LackIs T W L R2) : R2 = [] := by
  refine List.eq_nil_iff_forall_not_mem.2 fun q hq => ?_
  obtain ⟨h3, h4⟩ := lack_mem h2 hq
  have ht : R.take R.length = R := List.take_length
  by_cases e : q ∈ R
  · exact h4 (k.2.1 q (by rw [ht]; exact e))
  · rw [k.1 q (by rw [ht]; exact e)] at h4
    exact h4 (lack_out h h3 e)
end
/-- A step of a vector alone. -/
def oneA (ms : Option Addr) (mc : Nat) (A : List M) : St := ⟨0, none, 0, [], [], ms, mc, A, [], 0, [], 0⟩
theorem heavy_marks (A : List M) (a s : Option Addr) (c n : Nat) (w : World) (hn : n = A.length) (hl : Steps w a 1 [oneA s c A]) (hw : Mark.Lies w s n A) (hz : ∀ x ∈ A, x.Was) :
    Calls Try.prog 7 #[.slice a 1 1] w fun e w' => ∃ r, e = .returned (.bool r) ∧ (r = false → A.length ≤ 30) ∧ Below w.heap.size w w' := by
  subst hn
  refine (heavy_any [oneA s c A] a 1 w hl (fun x hx => ?_) (fun x hx => ?_)).mono ?_
  · obtain rfl := List.mem_singleton.1 hx
    exact ⟨Row.Lies.nil _ _, hw⟩
  · obtain rfl := List.mem_singleton.1 hx
    exact ⟨by show ([] : List UInt8).length ≤ _; simp, by show ([] : List UInt8).length ≤ _; simp, by show ([] : List UInt8).length ≤ _; simp, (fun t ht => by cases ht), (fun m hm => ⟨(hz m hm).2, (hz m hm).1⟩), by show 0 ≤ _; omega, by show 0 ≤ _; omega⟩
  · rintro e w' ⟨r, he, hr, k⟩
    exact ⟨r, he, fun h => ((hr h).2 _ List.mem_cons_self).2.1, k⟩
theorem was_ok {A : List M} (h : ∀ x ∈ A, x.Was) : Ok A := fun m hm => by
  obtain ⟨h1, h2⟩ := h m hm
  exact ⟨by omega, by omega⟩
end Peers
end Go.Proofs.Ytcbnkncgacbniaa
