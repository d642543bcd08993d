/- peers, plain: who is told, round and round. -/
import Derived.Test.YtcbnkncgacbniaaPeersPlain
namespace Go.Proofs.Ytcbnkncgacbniaa
namespace Peers
def off (T : List (List UInt8)) : Nat := if T.headD [0] = [] then 1 else 0
theorem off_le (T : List (List UInt8)) : off T ≤ 1 := by unfold off; split <;> omega
/-- The k-th that is told. -/
def seqL (T : List (List UInt8)) (k : Nat) : List UInt8 := T.getD ((k + off T) % T.length) []
theorem seq_at {T : List (List UInt8)} (h : 0 < T.length) (k : Nat) : ∃ hj : (k + off T) % T.length < T.length, seqL T k = T[(k + off T) % T.length] := by
  have hj : (k + off T) % T.length < T.length := Nat.mod_lt _ h
  exact ⟨hj, by unfold seqL; rw [List.getD_eq_getElem?_getD, List.getElem?_eq_getElem hj]; rfl⟩
theorem seq_mem {T : List (List UInt8)} (h : 0 < T.length) (k : Nat) : seqL T k ∈ T := by
  obtain ⟨hj, e⟩ := seq_at h k
  rw [e]; exact List.getElem_mem hj
theorem seq_period {T : List (List UInt8)} (k : Nat) : seqL T (k + T.length) = seqL T k := by
  unfold seqL
  rw [show k + T.length + off T = (k + off T) + T.length by omega, Nat.add_mod_right]
theorem up_lt {T : List (List UInt8)} (h : Up T) {i j : Nat} (hij : i < j) (hj : j < T.length) : T[i]'(by omega) < T[j] := List.pairwise_iff_getElem.1 h i j (by omega) hj hij
theorem up_inj {T : List (List UInt8)} (h : Up T) {i j : Nat} (hi : i < T.length) (hj : j < T.length) (e : T[i] = T[j]) : i = j := by
  rcases Nat.lt_trichotomy i j with hl | hl | hl
  · have := up_lt h hl hj; rw [e] at this; exact absurd this (List.lt_irrefl _)
  · exact hl
  · have := up_lt h hl hi; rw [e] at this; exact absurd this (List.lt_irrefl _)
theorem next_of {T : List (List UInt8)} (h : Up T) {j : Nat} (hj : j < T.length) : nextL T T[j] = T[(j + 1) % T.length]'(Nat.mod_lt _ (by omega)) := by
  by_cases hl : j + 1 < T.length
  · have e : (j + 1) % T.length = j + 1 := Nat.mod_eq_of_lt hl
    rw [next_hit (k := j + 1) hl (up_lt h (by omega) hl) (fun i hi hij => ?_)]
    · simp only [e]
    · rcases Nat.lt_or_ge i j with h1 | h1
      · exact List.lt_asymm (up_lt h h1 hj)
      · obtain rfl : i = j := by omega
        exact List.lt_irrefl _
  · have e0 : j + 1 = T.length := by omega
    have e : (j + 1) % T.length = 0 := by rw [e0]; exact Nat.mod_self _
    rw [next_miss (by omega) (fun i hi => ?_)]
    · simp only [e]
    · rcases Nat.lt_or_ge i j with h1 | h1
      · exact List.lt_asymm (up_lt h h1 hj)
      · obtain rfl : i = j := by omega
        exact List.lt_irrefl _
def lastL (T : List (List UInt8)) : Nat → List UInt8
  | 0 => []
  | k + 1 => seqL T k
theorem next_seq {T : List (List UInt8)} (h : Up T) (hT : 0 < T.length) : ∀ k, nextL T (lastL T k) = seqL T k
  | 0 => by
    obtain ⟨hj, e⟩ := seq_at hT 0
    show nextL T [] = _
    by_cases h0 : T[0] = []
    · have ho : off T = 1 := by
        unfold off
        cases T with
        | nil => simp at hT
        | cons x T => simp only [List.getElem_cons_zero] at h0; simp [h0]
      have := next_of h hT
      rw [h0] at this
      rw [this, e]
      simp only [ho]
    · have ho : off T = 0 := by
        unfold off
        cases T with
        | nil => simp at hT
        | cons x T => simp only [List.getElem_cons_zero] at h0; simp [h0]
      have hl : ([] : List UInt8) < T[0] := by
        cases hx : T[0] with
        | nil => exact absurd hx h0
        | cons a l => exact List.nil_lt_cons a l
      rw [next_hit (k := 0) hT hl (fun i hi hij => by omega), e]
      simp only [ho, Nat.add_zero, Nat.zero_mod]
  | k + 1 => by
    obtain ⟨hj, e⟩ := seq_at hT k
    obtain ⟨hj', e'⟩ := seq_at hT (k + 1)
    show nextL T (seqL T k) = _
    rw [e, next_of h hj, e']
    have : ((k + off T) % T.length + 1) % T.length = (k + 1 + off T) % T.length := by
      rw [Nat.mod_add_mod]; congr 1; omega
    simp only [this]
theorem idx_inj {n o i j : Nat} (ho : o ≤ 1) (hi : i < n) (hj : j < n) (e : (i + o) % n = (j + o) % n) : i = j := by
  have h : ∀ i, i < n → (i + o) % n = if i + o < n then i + o else 0 := fun i hi => by
    split
    · rename_i h; exact Nat.mod_eq_of_lt h
    · have : i + o = n := by omega
      rw [this, Nat.mod_self]
  rw [h i hi, h j hj] at e
  split at e <;> split at e <;> omega
theorem seq_inj {T : List (List UInt8)} (h : Up T) {i j : Nat} (hi : i < T.length) (hj : j < T.length) (e : seqL T i = seqL T j) : i = j := by
  obtain ⟨h1, e1⟩ := seq_at (by omega : 0 < T.length) i
  obtain ⟨h2, e2⟩ := seq_at (by omega : 0 < T.length) j
  rw [e1, e2] at e
  exact idx_inj (off_le T) hi hj (up_inj h h1 h2 e)
/-- How often one was told. -/
def cnt (T : List (List UInt8)) (q : List UInt8) : Nat → Nat
  | 0 => 0
  | k + 1 => cnt T q k + if seqL T k = q then 1 else 0
theorem cnt_le (T : List (List UInt8)) (q : List UInt8) : ∀ k, cnt T q k ≤ k
  | 0 => Nat.le_refl _
  | k + 1 => by have := cnt_le T q k; rw [cnt]; split <;> omega
theorem cnt_none (T : List (List UInt8)) (q : List UInt8) : ∀ k, (∀ i, i < k → seqL T i ≠ q) → cnt T q k = 0
  | 0, _ => rfl
  | k + 1, h => by rw [cnt, cnt_none T q k (fun i hi => h i (by omega)), if_neg (h k (by omega))]
theorem cnt_one (T : List (List UInt8)) (q : List UInt8) : ∀ k, (∃ i, i < k ∧ seqL T i = q) → (∀ i j, i < k → j < k → seqL T i = q → seqL T j = q → i = j) → cnt T q k = 1
  | 0, h, _ => by obtain ⟨i, hi, _⟩ := h; omega
  | k + 1, h, hu => by
    rw [cnt]
    by_cases hk : seqL T k = q
    · rw [if_pos hk, cnt_none T q k (fun i hi e => by have := hu i k (by omega) (by omega) e hk; omega)]
    · rw [if_neg hk, cnt_one T q k ?_ (fun i j hi hj => hu i j (by omega) (by omega))]
      obtain ⟨i, hi, e⟩ := h
      refine ⟨i, ?_, e⟩
      rcases Nat.lt_or_ge i k with h1 | h1
      · exact h1
      · obtain rfl : i = k := by omega
        exact absurd e hk
theorem cnt_add (T : List (List UInt8)) (q : List UInt8) : ∀ k, cnt T q (k + T.length) = cnt T q T.length + cnt T q k
  | 0 => by rw [Nat.zero_add]; rfl
  | k + 1 => by
    rw [show k + 1 + T.length = (k + T.length) + 1 by omega, cnt, cnt_add T q k, seq_period, cnt]; omega
theorem cnt_round {T : List (List UInt8)} (h : Up T) {q : List UInt8} (hq : q ∈ T) : cnt T q T.length = 1 := by
  obtain ⟨j, hj, rfl⟩ := List.getElem_of_mem hq
  have ho := off_le T
  refine cnt_one T _ _ ?_ (fun i i' hi hi' e e' => seq_inj h hi hi' (e.trans e'.symm))
  obtain ⟨i, hi, e⟩ : ∃ i, i < T.length ∧ (i + off T) % T.length = j := by
    by_cases h1 : off T ≤ j
    · exact ⟨j - off T, by omega, by rw [show j - off T + off T = j by omega]; exact Nat.mod_eq_of_lt hj⟩
    · refine ⟨T.length - 1, by omega, ?_⟩
      rw [show T.length - 1 + off T = T.length by omega, Nat.mod_self]; omega
  obtain ⟨h2, e2⟩ := seq_at (by omega : 0 < T.length) i
  exact ⟨i, hi, by rw [e2]; simp only [e]⟩
theorem cnt_three {T : List (List UInt8)} (h : Up T) {q : List UInt8} (hq : q ∈ T) : cnt T q (3 * T.length) = 3 := by
  have h1 := cnt_round h hq
  have h2 := cnt_add T q T.length
  have h3 := cnt_add T q (T.length + T.length)
  rw [show 3 * T.length = T.length + T.length + T.length by omega, h3, h2, h1]
theorem cnt_first {T : List (List UInt8)} (h : Up T) {k : Nat} (hk : k < T.length) : cnt T (seqL T k) k = 0 :=
  cnt_none T _ k (fun i hi e => by have := seq_inj h (by omega) hk e; omega)
end Peers
end Go.Proofs.Ytcbnkncgacbniaa
