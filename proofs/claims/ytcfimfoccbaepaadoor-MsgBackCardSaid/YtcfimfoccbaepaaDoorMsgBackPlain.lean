/- what is read, written again, is what was read. -/
import Derived.Test.YtcfimfoccbaepaaDoorMsgRead2
namespace Go.Proofs.YtcfimfoccbaepaaDoor
namespace Msg
open Go.RowKit Go.Proofs.YtcfimfoccbaepaaDoor.Mark Go.Proofs.YtcfimfoccbaepaaDoor.Num Go.Proofs.YtcfimfoccbaepaaDoor.Wire

theorem rdL_back {l : List UInt8} (h : (rdL l).2.2 = 0) : ∃ n r, l = upL n ++ r ∧ rdL l = (n, (upL n).length, 0) := by
  obtain ⟨n, r, e1, e2, _⟩ := rd_back l 9 0 0 rfl h
  refine ⟨n, r, e1, ?_⟩
  have e2' : rdL l = _ := e2
  rw [e2', Nat.pow_zero, Nat.mul_one, Nat.zero_add, Nat.zero_add]; rfl
theorem numS_back {most : Int} {l l' : List UInt8} {E n : Int} (h : numS most l E = (n, l', 0)) : E = 0 ∧ ∃ k : Nat, n = (k : Int) ∧ l = upL k ++ l' := by
  unfold numS at h
  by_cases hE : E = 0
  · rw [if_neg (by simpa using hE)] at h
    simp only [Prod.mk.injEq] at h
    obtain ⟨h1, h2, h3⟩ := h
    rw [if_pos h3] at h2
    refine ⟨hE, ?_⟩
    unfold numT at h1 h2 h3
    by_cases q : (rdL l).2.2 = 0
    · rw [if_neg (by simpa using q)] at h1 h2 h3
      split at h3
      · simp at h3
      · rename_i hm
        rw [if_neg hm] at h1 h2
        simp only at h1 h2
        obtain ⟨k, r, e1, e2⟩ := rdL_back q
        rw [e2] at h1 h2
        simp only at h1 h2
        refine ⟨k, h1.symm, ?_⟩
        rw [e1, List.drop_left] at h2
        rw [e1, h2]
    · rw [if_pos q] at h3
      exact absurd h3 q
  · rw [if_pos hE] at h
    simp only [Prod.mk.injEq] at h
    exact absurd h.2.2 hE
theorem textS_back {most : Int} {l l' p : List UInt8} {E : Int} (h : textS most l E = (p, l', 0)) : E = 0 ∧ l = txtL p ++ l' := by
  unfold textS at h
  by_cases hE : E = 0
  · rw [if_neg (by simpa using hE)] at h
    simp only [Prod.mk.injEq] at h
    obtain ⟨h1, h2, h3⟩ := h
    rw [if_pos h3] at h2
    refine ⟨hE, ?_⟩
    unfold textT at h1 h2 h3
    by_cases q : (rdL l).2.2 = 0
    · rw [if_neg (by simpa using q)] at h1 h2 h3
      split at h3
      · simp at h3
      rename_i hm
      rw [if_neg hm] at h1 h2
      split at h3
      · simp at h3
      rename_i hs
      rw [if_neg hs] at h1 h2
      simp only at h1 h2
      obtain ⟨k, r, e1, e2⟩ := rdL_back q
      rw [e2] at h1 h2 hs
      simp only at h1 h2 hs
      rw [e1, List.length_append] at hs
      rw [e1, List.drop_left] at h1
      rw [e1, ← List.drop_drop, List.drop_left] at h2
      have hk : p.length = k := by rw [← h1, List.length_take]; omega
      rw [e1, txtL, hk, List.append_assoc, ← h1, ← h2, List.take_append_drop]
    · rw [if_pos q] at h3
      exact absurd h3 q
  · rw [if_pos hE] at h
    simp only [Prod.mk.injEq] at h
    exact absurd h.2.2 hE
theorem intS_back {most : Int} {l l' : List UInt8} {E n : Int} (h0 : 0 ≤ most) (h : intS most l E = (n, l', 0)) : E = 0 ∧ ∃ k : Nat, n = (k : Int) ∧ l = upL k ++ l' := by
  rw [intS, if_neg (by omega)] at h
  exact numS_back h
theorem marksS_back : ∀ (k : Nat) (l : List UInt8) (E : Int) (K L : List M) (l' : List UInt8), marksS k l E K = (L, l', 0) → E = 0 ∧ ∃ L', L = K ++ L' ∧ L'.length = k ∧ l = mcat L' ++ l'
  | 0, l, E, K, L, l', h => by
    unfold marksS at h
    simp only [Prod.mk.injEq] at h
    obtain ⟨rfl, rfl, rfl⟩ := h
    exact ⟨rfl, [], by simp, rfl, rfl⟩
  | k + 1, l, E, K, L, l', h => by
    unfold marksS at h
    by_cases hE : E = 0
    · rw [if_neg (by simpa using hE)] at h
      obtain ⟨p, l1, E1, q1⟩ : ∃ p l1 E1, textS 16384 l E = (p, l1, E1) := ⟨_, _, _, rfl⟩
      obtain ⟨n, l2, E2, q2⟩ : ∃ n l2 E2, numS 281474976710656 l1 E1 = (n, l2, E2) := ⟨_, _, _, rfl⟩
      rw [q1] at h
      simp only at h
      rw [q2] at h
      simp only at h
      obtain ⟨rfl, L', rfl, hl, rfl⟩ := marksS_back k _ _ _ _ _ h
      obtain ⟨rfl, j, rfl, rfl⟩ := numS_back q2
      obtain ⟨_, rfl⟩ := textS_back q1
      refine ⟨hE, ⟨p, j⟩ :: L', by simp, by simp [hl], ?_⟩
      unfold mcat
      rw [List.flatMap_cons, markL]
      simp only [List.append_assoc]
    · rw [if_pos hE] at h
      simp only [Prod.mk.injEq] at h
      exact absurd h.2.2 hE
theorem rvS_back {l l' : List UInt8} {E : Int} {L : List M} (h : rvS l E = (L, l', 0)) : E = 0 ∧ l = vecL L ++ l' := by
  unfold rvS at h
  obtain ⟨n, l1, E1, q⟩ : ∃ n l1 E1, numS 512 l E = (n, l1, E1) := ⟨_, _, _, rfl⟩
  rw [q] at h
  simp only at h
  obtain ⟨rfl, L', rfl, hl, rfl⟩ := marksS_back _ _ _ _ _ _ h
  obtain ⟨hE, k, rfl, rfl⟩ := numS_back q
  refine ⟨hE, ?_⟩
  rw [vecL, hl, List.append_assoc]; simp
theorem endS_back {l : List UInt8} {E : Int} (h : (endS l E == 0) = true) : E = 0 ∧ l = [] := by
  rw [beq_iff_eq] at h
  unfold endS at h
  by_cases hE : E = 0
  · rw [if_neg (by simpa using hE)] at h
    refine ⟨hE, ?_⟩
    split at h
    · rename_i e; simpa using e
    · simp at h
  · rw [if_pos hE] at h; exact absurd h hE
theorem pair_of {α β : Type} {x : α × β × Int} (h : x.2.2 = 0) : x = (x.1, x.2.1, 0) := by
  obtain ⟨a, b, c⟩ := x
  simp only at h; rw [h]
theorem head_back {t l : List UInt8} {s d : List UInt8} {E : Int} (h : rd3 t = (d, l, E)) (hE : E = 0) (hs : (rd2 t).1 = s) : ∃ k : Nat, (rd1 t).1 = (k : Int) ∧ t = upL k ++ (txtL s ++ (txtL d ++ l)) := by
  subst hE
  unfold rd3 at h
  obtain ⟨h2, e2⟩ := textS_back h
  have p2 := pair_of h2
  have p2' : textS 16384 (rd1 t).2.1 (rd1 t).2.2 = _ := p2
  obtain ⟨h1, e1⟩ := textS_back p2'
  have p1 := pair_of h1
  have p1' : numS 255 t 0 = _ := p1
  obtain ⟨_, k, e0, e⟩ := numS_back p1'
  refine ⟨k, e0, ?_⟩
  rw [e, e1, e2, hs]
theorem read_back {t : List UInt8} {m : G} (h : readG t = (m, true)) (hm : mayM m = true) : bodyL m = t := by
  have hk := shape_kind (may_shape hm)
  have sh := may_shape hm
  clear hm
  unfold readG at h
  split at h
  · rename_i k1
    simp only [Prod.mk.injEq] at h
    obtain ⟨rfl, hend⟩ := h
    obtain ⟨hX, lX⟩ := endS_back hend
    have pX := pair_of hX; rw [lX] at pX
    obtain ⟨hN, eN⟩ := textS_back (show textS 4096 (rdN t).2.1 (rdN t).2.2 = ((rdX t).1, [], 0) from pX)
    obtain ⟨hJ, n, en, eJ⟩ := intS_back (by decide) (show intS 256 (rdJ t).2.1 (rdJ t).2.2 = ((rdN t).1, (rdN t).2.1, 0) from pair_of hN)
    obtain ⟨hI, i, ei, eI⟩ := intS_back (by decide) (show intS 256 (rdI t).2.1 (rdI t).2.2 = ((rdJ t).1, (rdJ t).2.1, 0) from pair_of hJ)
    obtain ⟨hV, id, eid, eV⟩ := numS_back (show numS 18446744073709551615 (rdV t).2.1 (rdV t).2.2 = ((rdI t).1, (rdI t).2.1, 0) from pair_of hI)
    obtain ⟨h3, e3⟩ := rvS_back (show rvS (rd3 t).2.1 (rd3 t).2.2 = ((rdV t).1, (rdV t).2.1, 0) from pair_of hV)
    obtain ⟨k, ek, e⟩ := head_back (pair_of h3) rfl rfl
    rw [ek] at k1
    obtain rfl : k = 1 := by simpa using k1
    simp only [bodyL, headL, if_true]
    rw [en, ei, eid]
    simp only [Int.toNat_natCast]
    conv => rhs; rw [e, e3, eV, eI, eJ, eN]
    simp only [List.append_assoc, List.append_nil]
  split at h
  · rename_i k1
    simp only [Prod.mk.injEq] at h
    obtain ⟨rfl, hend⟩ := h
    obtain ⟨hS, lS⟩ := endS_back hend
    have pS := pair_of hS; rw [lS] at pS
    obtain ⟨h3, q, eq, e3⟩ := numS_back (show numS 281474976710656 (rd3 t).2.1 (rd3 t).2.2 = ((rdS t).1, [], 0) from pS)
    obtain ⟨k, ek, e⟩ := head_back (pair_of h3) rfl rfl
    rw [ek] at k1
    obtain rfl : k = 2 := by simpa using k1
    simp only [bodyL, headL, show ¬ (2 : Nat) = 1 by decide, if_false, if_true]
    rw [eq]
    simp only [Int.toNat_natCast]
    conv => rhs; rw [e, e3]
    simp only [List.append_assoc, List.append_nil]
  split at h
  · rename_i k1
    simp only [Prod.mk.injEq] at h
    obtain ⟨rfl, hend⟩ := h
    obtain ⟨hF, lF⟩ := endS_back hend
    have pF := pair_of hF; rw [lF] at pF
    obtain ⟨hS, eS⟩ := textS_back (show textS 16384 (rdS t).2.1 (rdS t).2.2 = ((rdF t).1, [], 0) from pF)
    obtain ⟨h3, q, eq, e3⟩ := numS_back (show numS 281474976710656 (rd3 t).2.1 (rd3 t).2.2 = ((rdS t).1, (rdS t).2.1, 0) from pair_of hS)
    obtain ⟨k, ek, e⟩ := head_back (pair_of h3) rfl rfl
    rw [ek] at k1
    obtain rfl : k = 3 := by simpa using k1
    simp only [bodyL, headL, show ¬ (3 : Nat) = 1 by decide, show ¬ (3 : Nat) = 2 by decide, if_false, if_true]
    rw [eq]
    simp only [Int.toNat_natCast]
    conv => rhs; rw [e, e3, eS]
    simp only [List.append_assoc, List.append_nil]
  split at h
  · rename_i k1
    simp only [Prod.mk.injEq] at h
    obtain ⟨rfl, hend⟩ := h
    obtain ⟨hW, lW⟩ := endS_back hend
    have pW := pair_of hW; rw [lW] at pW
    obtain ⟨hF, eF⟩ := rvS_back (show rvS (rdF t).2.1 (rdF t).2.2 = ((rdW t).1, [], 0) from pW)
    obtain ⟨hS, eS⟩ := textS_back (show textS 16384 (rdS t).2.1 (rdS t).2.2 = ((rdF t).1, (rdF t).2.1, 0) from pair_of hF)
    obtain ⟨h3, q, eq, e3⟩ := numS_back (show numS 281474976710656 (rd3 t).2.1 (rd3 t).2.2 = ((rdS t).1, (rdS t).2.1, 0) from pair_of hS)
    obtain ⟨k, ek, e⟩ := head_back (pair_of h3) rfl rfl
    rw [ek] at k1
    obtain rfl : k = 4 := by simpa using k1
    simp only [bodyL, headL, show ¬ (4 : Nat) = 1 by decide, show ¬ (4 : Nat) = 2 by decide, show ¬ (4 : Nat) = 3 by decide, if_false, if_true]
    rw [eq]
    simp only [Int.toNat_natCast]
    conv => rhs; rw [e, e3, eS, eF]
    simp only [List.append_assoc, List.append_nil]
  · rename_i n1 n2 n3 n4
    simp only [Prod.mk.injEq] at h
    obtain ⟨rfl, _⟩ := h
    rcases hk with hk | hk | hk | hk
    · exact absurd hk n1
    · exact absurd hk n2
    · exact absurd hk n3
    · exact absurd hk n4
/-- What Decode answers without an error is what Encode writes. -/
theorem dec_back {s : List UInt8} {m : G} (h : decG s = (m, 0)) (hs : s.length ≤ 16384) : encR m = (s, 0) := by
  unfold decG at h
  rw [if_neg (by omega)] at h
  by_cases hc : (Frame.cutL s).2.2 = 0
  · rw [if_neg (by simpa using hc)] at h
    split at h
    · rename_i hh
      obtain ⟨h1, h2, h3⟩ := hh
      simp only [Prod.mk.injEq, and_true] at h
      have hr := pair_of hc
      rw [h1] at hr
      obtain ⟨e, _⟩ := Frame.put_cut s _ _ hr
      have eR : readG (Frame.cutL s).1 = (m, true) := by rw [← h, ← h2]
      rw [h] at h3
      have := read_back eR h3
      unfold encR
      rw [if_pos h3, this, ← List.append_nil (Frame.putL _), ← e]
    · simp at h
  · rw [if_pos hc] at h
    simp only [Prod.mk.injEq] at h
    exact absurd h.2 hc
end Msg
end Go.Proofs.YtcfimfoccbaepaaDoor
