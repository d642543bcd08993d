
/- dots: the plain laws of Join, Set, Drop, Covers, Compare. -/
import Derived.Test.YtcbnkncgacbniaaDotLaw
namespace Go.Proofs.Ytcbnkncgacbniaa
namespace Dots
open Go.RowKit Go.Shelf Go.Proofs.Ytcbnkncgacbniaa.Mark

theorem IsVec.congr {R : List M} {f g : List UInt8 → Nat} (h : IsVec R f) (k : ∀ q, f q = g q) : IsVec R g := ⟨h.1, fun q => (h.2 q).trans (k q)⟩
theorem ofL_bound {A : List M} (h : Ok A) (q : List UInt8) : ofL A q ≤ 18446744073709551615 ∧ (1 ≤ ofL A q → q.length ≤ 9223372036854775807) := by
  rcases ofL_ex A q with h0 | ⟨m, hm, hp, _, hn⟩
  · rw [h0]; exact ⟨by omega, fun h => absurd h (by omega)⟩
  · have := h m hm
    rw [← hn, ← hp]
    exact ⟨this.1, fun _ => this.2⟩
theorem ok_of {J : List M} {f : List UInt8 → Nat} (h : IsVec J f) (k : ∀ q, f q ≤ 18446744073709551615 ∧ (1 ≤ f q → q.length ≤ 9223372036854775807)) : Ok J := fun m hm => by
  have e : f m.p = m.n := (h.2 m.p).symm.trans (vec_of h.1 hm)
  have := h.1.2 m hm
  have k1 := k m.p
  rw [e] at k1
  exact ⟨k1.1, k1.2 this.2⟩

section
variable {A B C J : List M}
theorem join_ok (h : IsVec J (fun q => max (ofL A q) (ofL B q))) (hA : Ok A) (hB : Ok B) : Ok J := ok_of h fun q => by
  have a := ofL_bound hA q
  have b := ofL_bound hB q
  (try simp only)
  refine ⟨by omega, fun h => ?_⟩
  rcases Nat.le_total (ofL A q) (ofL B q) with h' | h'
  · rw [Nat.max_eq_right h'] at h; exact b.2 h
  · rw [Nat.max_eq_left h'] at h; exact a.2 h
theorem of_join (h : IsVec J (fun q => max (ofL A q) (ofL B q))) (q : List UInt8) : ofL J q = max (ofL A q) (ofL B q) := h.2 q
theorem cov_l (h : IsVec J (fun q => max (ofL A q) (ofL B q))) : (∀ q, ofL A q ≤ ofL J q) ↔ true = true := ⟨fun _ => rfl, fun _ q => by rw [h.2 q]; simp only; omega⟩
theorem cov_r (h : IsVec J (fun q => max (ofL A q) (ofL B q))) : (∀ q, ofL B q ≤ ofL J q) ↔ true = true := ⟨fun _ => rfl, fun _ q => by rw [h.2 q]; simp only; omega⟩
theorem cov_j (h : IsVec J (fun q => max (ofL A q) (ofL B q))) (hA : covB C A = true) (hB : covB C B = true) : (∀ q, ofL J q ≤ ofL C q) ↔ true = true := ⟨fun _ => rfl, fun _ q => by
  have a := (covB_iff C A).2 hA q
  have b := (covB_iff C B).2 hB q
  rw [h.2 q]; simp only; omega⟩
theorem cov_self : (∀ q, ofL A q ≤ ofL A q) ↔ true = true := ⟨fun _ => rfl, fun _ _ => Nat.le_refl _⟩
theorem cov_nil : (∀ q, ofL [] q ≤ ofL A q) ↔ true = true := ⟨fun _ => rfl, fun _ _ => Nat.zero_le _⟩
theorem cov_trans (h : covB A B = true) (k : covB B C = true) : (∀ q, ofL C q ≤ ofL A q) ↔ true = true := ⟨fun _ => rfl, fun _ q => Nat.le_trans ((covB_iff B C).2 k q) ((covB_iff A B).2 h q)⟩
theorem has_join (h : IsVec J (fun q => max (ofL A q) (ofL B q))) (p : List UInt8) (x : Nat) : hasL J p x = (hasL A p x || hasL B p x) := by
  unfold hasL
  rw [h.2 p]
  rw [Bool.eq_iff_iff]
  simp only [Bool.or_eq_true, Bool.and_eq_true, decide_eq_true_eq]
  omega
theorem has_cov (h : covB A B = true) (p : List UInt8) (x : Nat) (k : hasL B p x = true) : hasL A p x = true := by
  unfold hasL at k ⊢
  have := (covB_iff A B).2 h p
  simp only [Bool.and_eq_true, decide_eq_true_eq] at k ⊢
  omega
theorem tame_of (h : tameL A = true) (q : List UInt8) : ofL A q ≤ 281474976710656 := by
  rcases ofL_ex A q with h0 | ⟨m, hm, _, _, hn⟩
  · omega
  · have := List.all_eq_true.1 h m hm
    rw [decide_eq_true_eq] at this
    omega
theorem mayGo_vec : ∀ (J : List M) (last : List UInt8), J.Pairwise Less → (∀ m ∈ J, Lib.compareBytes last m.p < 0 ∧ 1 ≤ m.n ∧ m.n ≤ 281474976710656) → mayGo last J = true
  | [], _, _, _ => rfl
  | m :: J, last, h, k => by
    rw [List.pairwise_cons] at h
    obtain ⟨k1, k2, k3⟩ := k m (List.mem_cons_self ..)
    have hb : badB last m = false := by
      unfold badB
      have := Order.cmp_flip last m.p
      exact decide_eq_false (by omega)
    rw [mayGo, hb, if_neg (by decide)]
    refine mayGo_vec J m.p h.2 (fun y hy => ⟨h.1 y hy, ?_⟩)
    have := k y (List.mem_cons_of_mem _ hy)
    exact this.2
theorem nil_less (l : List UInt8) (h : l ≠ []) : Lib.compareBytes [] l < 0 := by
  cases l with
  | nil => exact absurd rfl h
  | cons b l => rw [Order.cmp_less [] (b :: l) rfl]; decide
theorem may_join (h : IsVec J (fun q => max (ofL A q) (ofL B q))) (hl : J.length ≤ 512) (hA : tameL A = true) (hB : tameL B = true) : mayL J = true := by
  unfold mayL
  rw [if_neg (by omega)]
  refine mayGo_vec J [] h.1.1 (fun m hm => ?_)
  have e : max (ofL A m.p) (ofL B m.p) = m.n := (h.2 m.p).symm.trans (vec_of h.1 hm)
  have := h.1.2 m hm
  have a := tame_of hA m.p
  have b := tame_of hB m.p
  exact ⟨nil_less _ this.1, this.2, by omega⟩
theorem join_comm (h : IsVec J (fun q => max (ofL A q) (ofL B q))) : IsVec J (fun q => max (ofL B q) (ofL A q)) := h.congr fun q => by (try simp only); omega
theorem join_assoc {JC BC ABC : List M} (h : IsVec J (fun q => max (ofL A q) (ofL B q))) (h1 : IsVec JC (fun q => max (ofL J q) (ofL C q))) (h2 : IsVec BC (fun q => max (ofL B q) (ofL C q))) (h3 : IsVec ABC (fun q => max (ofL A q) (ofL BC q))) : JC = ABC :=
  IsVec.uniq h1 (h3.congr fun q => by (try simp only); rw [h2.2 q, h.2 q]; (try simp only); omega)
theorem join_self {K : List M} (h : IsVec J (fun q => max (ofL A q) (ofL B q))) (k : IsVec K (fun q => max (ofL J q) (ofL J q))) : K = J :=
  IsVec.uniq k (h.congr fun q => by (try simp only); rw [h.2 q]; (try simp only); omega)
theorem join_again {K : List M} (h : IsVec J (fun q => max (ofL A q) (ofL B q))) (k : IsVec K (fun q => max (ofL J q) (ofL A q))) : K = J :=
  IsVec.uniq k (h.congr fun q => by (try simp only); rw [h.2 q]; (try simp only); omega)
/-! Set, Drop -/
theorem set_ok {p : List UInt8} {x : Nat} (h : IsVec J (setF (ofL A) p x)) (hA : Ok A) (hx : x ≤ 18446744073709551615) (hp : p.length ≤ 9223372036854775807) : Ok J := ok_of h fun q => by
  have a := ofL_bound hA q
  unfold setF
  split
  · rename_i e; subst e
    split
    · exact ⟨by omega, fun h => absurd h (by omega)⟩
    · exact ⟨hx, fun _ => hp⟩
  · exact a
theorem drop_ok {p : List UInt8} (h : IsVec J (fun x => if x = p then 0 else ofL A x)) (hA : Ok A) : Ok J := ok_of h fun q => by
  have a := ofL_bound hA q
  (try simp only)
  split
  · exact ⟨by omega, fun h => absurd h (by omega)⟩
  · exact a
theorem of_set {p : List UInt8} {x : Nat} (h : IsVec J (setF (ofL A) p x)) (hp : p ≠ []) : ofL J p = x := by rw [h.2 p]; unfold setF; rw [if_pos rfl, if_neg hp]
theorem of_set_ne {p q : List UInt8} {x : Nat} (h : IsVec J (setF (ofL A) p x)) (hq : q ≠ p) : ofL J q = ofL A q := by rw [h.2 q]; unfold setF; rw [if_neg hq]
theorem of_drop {p : List UInt8} (h : IsVec J (fun x => if x = p then 0 else ofL A x)) : ofL J p = 0 := by rw [h.2 p]; simp
theorem of_drop_ne {p q : List UInt8} (h : IsVec J (fun x => if x = p then 0 else ofL A x)) (hq : q ≠ p) : ofL J q = ofL A q := by rw [h.2 q]; simp [hq]
theorem cov_set {p : List UInt8} {x : Nat} (h : IsVec J (setF (ofL A) p x)) (hp : p ≠ []) (hx : ofL A p ≤ x) : (∀ q, ofL A q ≤ ofL J q) ↔ true = true := ⟨fun _ => rfl, fun _ q => by
  by_cases e : q = p
  · subst e; rw [of_set h hp]; exact hx
  · rw [of_set_ne h e]; omega⟩
theorem cov_drop {p : List UInt8} (h : IsVec J (fun x => if x = p then 0 else ofL A x)) : (∀ q, ofL J q ≤ ofL A q) ↔ true = true := ⟨fun _ => rfl, fun _ q => by
  rw [h.2 q]; simp only; split <;> omega⟩
theorem has_set {p : List UInt8} {x : Nat} (h : IsVec J (setF (ofL A) p x)) (hp : p ≠ []) (y : Nat) : hasL J p y = (decide (1 ≤ y) && decide (y ≤ x)) := by unfold hasL; rw [of_set h hp]
theorem nil_join {K : List M} (h : IsVec K (fun q => max (ofL A q) (ofL [] q))) (q : List UInt8) : ofL K q = ofL A q := by
  rw [h.2 q]; exact Nat.max_eq_left (Nat.zero_le _)
theorem both_same {K L : List M} (h : IsVec K (fun q => max (ofL A q) (ofL [] q))) (k : IsVec L (fun q => max (ofL B q) (ofL [] q))) : decide (K = L) = (covB A B && covB B A) := by
  rw [Bool.eq_iff_iff, Bool.and_eq_true, decide_eq_true_eq, ← covB_iff, ← covB_iff]
  constructor
  · rintro rfl
    exact ⟨fun q => by rw [← nil_join h, ← nil_join k]; omega, fun q => by rw [← nil_join h, ← nil_join k]; omega⟩
  · rintro ⟨h1, h2⟩
    refine IsVec.uniq h (k.congr fun q => ?_)
    have a := h1 q
    have b := h2 q
    have : ofL A q = ofL B q := by omega
    (try simp only); rw [this]
end
/-! Compare -/
theorem cmpI_flip (x y : Nat) : cmpI x y = -cmpI y x := by
  unfold cmpI
  by_cases h1 : x < y
  · rw [if_pos h1, if_neg (by omega), if_pos h1]
  · by_cases h2 : y < x
    · rw [if_neg h1, if_pos h2, if_pos h2]; rfl
    · rw [if_neg h1, if_neg h2, if_neg h2, if_neg h1]; rfl
theorem cmpI_ways (x y : Nat) : (cmpI x y = -1 ∧ x < y) ∨ (cmpI x y = 0 ∧ x = y) ∨ (cmpI x y = 1 ∧ y < x) := by
  unfold cmpI
  by_cases h1 : x < y
  · rw [if_pos h1]; exact .inl ⟨rfl, h1⟩
  · by_cases h2 : y < x
    · rw [if_neg h1, if_pos h2]; exact .inr (.inr ⟨rfl, h2⟩)
    · rw [if_neg h1, if_neg h2]; exact .inr (.inl ⟨rfl, by omega⟩)
theorem cmpD_flip (a b : M) : cmpD a b = -cmpD b a := by
  unfold cmpD
  have h := Order.cmp_flip a.p b.p
  by_cases e : Lib.compareBytes a.p b.p = 0
  · rw [if_neg (by omega), if_neg (by omega)]; exact cmpI_flip _ _
  · rw [if_pos e, if_pos (by omega)]; exact h
theorem cmpD_ways3 (a b : M) : cmpD a b = -1 ∨ (cmpD a b = 0 ∧ a = b) ∨ (cmpD a b = 1 ∧ a ≠ b) := by
  unfold cmpD
  rcases Order.cmp_ways a.p b.p with h | h | h
  · rw [if_pos (by omega)]; exact .inl h
  · rw [if_neg (by omega)]
    have hp := Order.cmp_zero _ _ h
    rcases cmpI_ways a.n b.n with ⟨h1, _⟩ | ⟨h1, h2⟩ | ⟨h1, h2⟩
    · exact .inl h1
    · exact .inr (.inl ⟨h1, M.ext' hp h2⟩)
    · exact .inr (.inr ⟨h1, fun e => by rw [e] at h2; omega⟩)
  · rw [if_pos (by omega)]
    exact .inr (.inr ⟨h, fun e => by rw [e, Order.cmp_self] at h; omega⟩)
theorem cmpD_ne {a b : M} (h : cmpD a b = -1) : a ≠ b := fun e => by
  subst e
  unfold cmpD at h
  rw [Order.cmp_self, if_neg (by omega)] at h
  rcases cmpI_ways a.n a.n with ⟨h1, _⟩ | ⟨h1, h2⟩ | ⟨h1, h2⟩ <;> omega
theorem cmpD_trans {a b c : M} (h : cmpD a b = -1) (k : cmpD b c = -1) : cmpD a c = -1 := by
  have l : ∀ x y : M, cmpD x y = -1 ↔ Lib.compareBytes x.p y.p < 0 ∨ (x.p = y.p ∧ x.n < y.n) := fun x y => by
    unfold cmpD
    rcases Order.cmp_ways x.p y.p with h | h | h
    · rw [if_pos (by omega), h]; simp
    · rw [if_neg (by omega), h]
      have hp := Order.cmp_zero _ _ h
      rcases cmpI_ways x.n y.n with ⟨h1, _⟩ | ⟨h1, h2⟩ | ⟨h1, h2⟩ <;> rw [h1] <;> simp [hp] <;> omega
    · rw [if_pos (by omega), h]
      have : x.p ≠ y.p := fun e => by rw [e, Order.cmp_self] at h; omega
      simp [this]
  rw [l] at h k ⊢
  rcases h with h | ⟨h1, h2⟩ <;> rcases k with k | ⟨k1, k2⟩
  · exact .inl (less_trans (a := a) (b := b) (c := c) h k)
  · rw [← k1]; exact .inl h
  · rw [h1]; exact .inl k
  · exact .inr ⟨h1.trans k1, by omega⟩
section
variable {L : List M} {a : Option Addr} {n c : Nat} {w : World}
theorem of_is (q : List UInt8) (v : Nat) (h : ofL L q = v) (hL : Lies w a n L) (hn : n ≤ 1099511627776) (hok : Ok L) :
    Calls Try.prog 35 #[.slice a n c, .string ⟨q.toArray⟩] w fun e w' => e = .returned (.int .u64 (v : Nat)) ∧ Below w.heap.size w w' := by rw [← h]; exact of_any q L a n c w hL hn hok
theorem may_is (v : Bool) (h : mayL L = v) (hL : Lies w a n L) (hn : n ≤ 1099511627776) (hok : Ok L) :
    Calls Try.prog 27 #[.slice a n c] w fun e w' => e = .returned (.bool v) ∧ Below w.heap.size w w' := by rw [← h]; exact may_any L a n c w hL hn hok
end

end Dots
end Go.Proofs.Ytcbnkncgacbniaa
