/- what was written is read: a message. -/
import Derived.Test.YtcfimfoccbaepaaDoorMsgRound
namespace Go.Proofs.YtcfimfoccbaepaaDoor
namespace Msg
open Go.RowKit Go.Proofs.YtcfimfoccbaepaaDoor.Mark Go.Proofs.YtcfimfoccbaepaaDoor.Num Go.Proofs.YtcfimfoccbaepaaDoor.Wire

theorem go_n : ∀ (L : List M) (last : List UInt8), Dots.mayGo last L = true → ∀ m ∈ L, m.n ≤ 281474976710656
  | [], _, _, m, hm => by cases hm
  | x :: L, last, h, m, hm => by
    unfold Dots.mayGo at h
    cases hb : Dots.badB last x with
    | true => rw [hb] at h; cases h
    | false =>
      rw [hb] at h
      unfold Dots.badB at hb
      rw [decide_eq_false_iff_not] at hb
      rcases List.mem_cons.1 hm with e | e
      · subst e; omega
      · exact go_n L _ h m e
theorem mayL_n {L : List M} (h : Dots.mayL L = true) : L.length ≤ 512 ∧ ∀ m ∈ L, m.n ≤ 281474976710656 := by
  unfold Dots.mayL at h
  split at h
  · cases h
  · exact ⟨by omega, go_n L _ h⟩
theorem mcat_mem {L : List M} {m : M} (h : m ∈ L) : m.p.length ≤ (mcat L).length := by
  induction L with
  | nil => cases h
  | cons x L ih =>
    have e : mcat (x :: L) = txtL x.p ++ (upL x.n ++ mcat L) := by unfold mcat; rw [List.flatMap_cons, markL]; simp only [List.append_assoc]
    rw [e]
    rcases List.mem_cons.1 h with q | q
    · subst q; simp only [List.length_append, txtL]; omega
    · have := ih q; simp only [List.length_append]; omega
theorem head_rd (k : Nat) (src dst R : List UInt8) (hk : k ≤ 255) (hs : src.length ≤ 16384) (hd : dst.length ≤ 16384) :
    (rd1 (upL k ++ (txtL src ++ (txtL dst ++ R)))).1 = (k : Int) ∧ rd2 (upL k ++ (txtL src ++ (txtL dst ++ R))) = (src, txtL dst ++ R, 0) ∧ rd3 (upL k ++ (txtL src ++ (txtL dst ++ R))) = (dst, R, 0) := by
  have q1 : rd1 (upL k ++ (txtL src ++ (txtL dst ++ R))) = ((k : Int), txtL src ++ (txtL dst ++ R), 0) := numS_up 255 k _ hk (by omega)
  have q2 : rd2 (upL k ++ (txtL src ++ (txtL dst ++ R))) = (src, txtL dst ++ R, 0) := by unfold rd2; rw [q1]; exact textS_txt 16384 src _ hs (by omega)
  have q3 : rd3 (upL k ++ (txtL src ++ (txtL dst ++ R))) = (dst, R, 0) := by unfold rd3; rw [q2]; exact textS_txt 16384 dst _ hd (by omega)
  exact ⟨by rw [q1], q2, q3⟩
theorem read_body (m : G) (h : mayM m = true) (hid : m.id ≤ 18446744073709551615) : readG (bodyL m) = (m, true) := by
  have sh := may_shape h
  have hk := shape_kind sh
  have hlen : 8 + (bodyL m).length ≤ 16384 := by unfold mayM at h; simp only [Bool.and_eq_true, decide_eq_true_eq] at h; exact h.2
  have hall : Dots.mayL m.all = true := by unfold mayM fitsB at h; simp only [Bool.and_eq_true] at h; exact h.1.2.2.2.1
  have hsq : m.seq ≤ 281474976710656 := by unfold mayM fitsB at h; simp only [Bool.and_eq_true, decide_eq_true_eq] at h; exact h.1.2.2.1
  obtain ⟨hl, hn⟩ := mayL_n hall
  obtain ⟨k, src, dst, fr, sq, all, id, i, n, tx⟩ := m
  simp only at hk hid hsq hl hn
  clear h hall
  unfold shapeB at sh
  simp only at sh
  have hvec : ∀ R, (mcat all).length ≤ 16384 → rvS (vecL all ++ R) 0 = (all, R, 0) := fun R hm => rvS_vec all R hl (fun x hx => ⟨hn x hx, by have := mcat_mem hx; omega⟩)
  have hseq : ∀ R, numS 281474976710656 (upL sq ++ R) 0 = ((sq : Int), R, 0) := fun R => numS_up 281474976710656 sq R hsq (by omega)
  rcases hk with rfl | rfl | rfl | rfl
  · simp only [if_true, Bool.and_eq_true, beq_iff_eq, decide_eq_true_eq, mayPartB] at sh
    obtain ⟨rfl, rfl, g1, g2, g3, g4, g5⟩ := sh
    have e : bodyL ⟨1, src, dst, [], 0, all, id, i, n, tx⟩ = upL 1 ++ (txtL src ++ (txtL dst ++ (vecL all ++ (upL id ++ (upL i.toNat ++ (upL n.toNat ++ (txtL tx ++ []))))))) := by
      unfold bodyL headL; simp only [if_true, List.append_assoc, List.append_nil]
    rw [e] at hlen ⊢
    simp only [List.length_append, txtL, vecL] at hlen
    obtain ⟨r1, r2, r3⟩ := head_rd 1 src dst (vecL all ++ (upL id ++ (upL i.toNat ++ (upL n.toNat ++ (txtL tx ++ []))))) (by omega) (by omega) (by omega)
    generalize upL 1 ++ (txtL src ++ (txtL dst ++ (vecL all ++ (upL id ++ (upL i.toNat ++ (upL n.toNat ++ (txtL tx ++ []))))))) = T at r1 r2 r3 ⊢
    have qV : rdV T = (all, (upL id ++ (upL i.toNat ++ (upL n.toNat ++ (txtL tx ++ [])))), 0) := by unfold rdV; rw [r3]; exact hvec _ (by omega)
    have qI : rdI T = ((id : Int), (upL i.toNat ++ (upL n.toNat ++ (txtL tx ++ []))), 0) := by unfold rdI; rw [qV]; exact numS_up 18446744073709551615 id _ (by omega) (by omega)
    have qJ : rdJ T = ((i.toNat : Int), (upL n.toNat ++ (txtL tx ++ [])), 0) := by unfold rdJ; rw [qI]; exact intS_up 256 _ _ (by omega) (by omega)
    have qN : rdN T = ((n.toNat : Int), (txtL tx ++ []), 0) := by unfold rdN; rw [qJ]; exact intS_up 256 _ _ (by omega) (by omega)
    have qX : rdX T = (tx, [], 0) := by unfold rdX; rw [qN]; exact textS_txt 4096 _ _ (by omega) (by omega)
    unfold readG
    rw [r1, qV, qI, qJ, qN, qX, r2, r3]
    simp only [Int.toNat_natCast, if_true, show (((1 : Nat) : Int)).toNat = 1 from rfl]
    rw [Int.toNat_of_nonneg (by omega), Int.toNat_of_nonneg (by omega)]
    rfl
  · simp only [show ¬ (2 : Nat) = 1 by decide, if_false, if_true, Bool.and_eq_true, beq_iff_eq, decide_eq_true_eq, noPart, List.length_eq_zero_iff] at sh
    obtain ⟨rfl, rfl, rfl, rfl, rfl, rfl⟩ := sh
    have e : bodyL ⟨2, src, dst, [], sq, [], 0, 0, 0, []⟩ = upL 2 ++ (txtL src ++ (txtL dst ++ (upL sq ++ []))) := by
      unfold bodyL headL; simp only [show ¬ (2 : Nat) = 1 by decide, if_false, if_true, List.append_assoc, List.append_nil]
    rw [e] at hlen ⊢
    simp only [List.length_append, txtL] at hlen
    obtain ⟨r1, r2, r3⟩ := head_rd 2 src dst (upL sq ++ []) (by omega) (by omega) (by omega)
    generalize upL 2 ++ (txtL src ++ (txtL dst ++ (upL sq ++ []))) = T at r1 r2 r3 ⊢
    have qS : rdS T = ((sq : Int), [], 0) := by unfold rdS; rw [r3]; exact hseq _
    unfold readG
    rw [r1, qS, r2, r3]
    rfl
  · simp only [show ¬ (3 : Nat) = 1 by decide, show ¬ (3 : Nat) = 2 by decide, if_false, if_true, Bool.and_eq_true, decide_eq_true_eq, noPart, List.length_eq_zero_iff] at sh
    obtain ⟨_, rfl, rfl, rfl, rfl, rfl⟩ := sh
    have e : bodyL ⟨3, src, dst, fr, sq, [], 0, 0, 0, []⟩ = upL 3 ++ (txtL src ++ (txtL dst ++ (upL sq ++ (txtL fr ++ [])))) := by
      unfold bodyL headL; simp only [show ¬ (3 : Nat) = 1 by decide, show ¬ (3 : Nat) = 2 by decide, if_false, if_true, List.append_assoc, List.append_nil]
    rw [e] at hlen ⊢
    simp only [List.length_append, txtL] at hlen
    obtain ⟨r1, r2, r3⟩ := head_rd 3 src dst (upL sq ++ (txtL fr ++ [])) (by omega) (by omega) (by omega)
    generalize upL 3 ++ (txtL src ++ (txtL dst ++ (upL sq ++ (txtL fr ++ [])))) = T at r1 r2 r3 ⊢
    have qS : rdS T = ((sq : Int), txtL fr ++ [], 0) := by unfold rdS; rw [r3]; exact hseq _
    have qF : rdF T = (fr, [], 0) := by unfold rdF; rw [qS]; exact textS_txt 16384 _ _ (by omega) (by omega)
    unfold readG
    rw [r1, qF, qS, r2, r3]
    rfl
  · simp only [show ¬ (4 : Nat) = 1 by decide, show ¬ (4 : Nat) = 2 by decide, show ¬ (4 : Nat) = 3 by decide, if_false, if_true, Bool.and_eq_true, decide_eq_true_eq, noPart, List.length_eq_zero_iff] at sh
    obtain ⟨_, rfl, rfl, rfl, rfl⟩ := sh
    have e : bodyL ⟨4, src, dst, fr, sq, all, 0, 0, 0, []⟩ = upL 4 ++ (txtL src ++ (txtL dst ++ (upL sq ++ (txtL fr ++ (vecL all ++ []))))) := by
      unfold bodyL headL; simp only [show ¬ (4 : Nat) = 1 by decide, show ¬ (4 : Nat) = 2 by decide, show ¬ (4 : Nat) = 3 by decide, if_false, if_true, List.append_assoc, List.append_nil]
    rw [e] at hlen ⊢
    simp only [List.length_append, txtL, vecL] at hlen
    obtain ⟨r1, r2, r3⟩ := head_rd 4 src dst (upL sq ++ (txtL fr ++ (vecL all ++ []))) (by omega) (by omega) (by omega)
    generalize upL 4 ++ (txtL src ++ (txtL dst ++ (upL sq ++ (txtL fr ++ (vecL all ++ []))))) = T at r1 r2 r3 ⊢
    have qS : rdS T = ((sq : Int), txtL fr ++ (vecL all ++ []), 0) := by unfold rdS; rw [r3]; exact hseq _
    have qF : rdF T = (fr, vecL all ++ [], 0) := by unfold rdF; rw [qS]; exact textS_txt 16384 _ _ (by omega) (by omega)
    have qW : rdW T = (all, [], 0) := by unfold rdW; rw [qF]; exact hvec _ (by omega)
    unfold readG
    rw [r1, qW, qF, qS, r2, r3]
    rfl

end Msg
end Go.Proofs.YtcfimfoccbaepaaDoor
