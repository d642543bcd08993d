/- what is read, written again, is what was read. -/
import Derived.Test.YtcfimfoccbaepaaDoorMsgKind
namespace Go.Proofs.YtcfimfoccbaepaaDoor
namespace Msg
open Go.RowKit Go.Proofs.YtcfimfoccbaepaaDoor.Mark Go.Proofs.YtcfimfoccbaepaaDoor.Num Go.Proofs.YtcfimfoccbaepaaDoor.Wire

theorem numS_up (most n : Nat) (r : List UInt8) (h : n ≤ most) (h64 : n < 18446744073709551616) : numS (most : Int) (upL n ++ r) 0 = ((n : Int), r, 0) := by
  rw [numS, if_neg (by simp), numT, rd_upL n h64 r]
  simp only
  rw [if_neg (by simp), if_neg (by omega)]
  simp
theorem textS_txt (most : Nat) (p r : List UInt8) (h : p.length ≤ most) (h64 : p.length < 18446744073709551616) : textS (most : Int) (txtL p ++ r) 0 = (p, r, 0) := by
  rw [txtL, List.append_assoc, textS, if_neg (by simp), textT, rd_upL p.length h64 (p ++ r)]
  simp only
  rw [if_neg (by simp), if_neg (by omega), if_neg (by simp only [List.length_append]; omega)]
  simp only [List.drop_left, if_true, List.take_left]
  rw [← List.append_assoc, List.drop_left']
  simp
theorem marksS_cat : ∀ (L : List M) (r : List UInt8) (K : List M), (∀ m ∈ L, m.n ≤ 281474976710656 ∧ m.p.length ≤ 16384) → marksS L.length (mcat L ++ r) 0 K = (K ++ L, r, 0)
  | [], r, K, _ => by simp [marksS, mcat]
  | m :: L, r, K, h => by
    have hm := h m (List.mem_cons_self ..)
    have e : mcat (m :: L) ++ r = txtL m.p ++ (upL m.n ++ (mcat L ++ r)) := by
      unfold mcat; rw [List.flatMap_cons, markL]; simp only [List.append_assoc]
    have q1 : textS 16384 (mcat (m :: L) ++ r) 0 = (m.p, upL m.n ++ (mcat L ++ r), 0) := by rw [e]; exact textS_txt 16384 m.p _ hm.2 (by omega)
    have q2 : numS 281474976710656 (upL m.n ++ (mcat L ++ r)) 0 = ((m.n : Int), mcat L ++ r, 0) := numS_up 281474976710656 m.n _ hm.1 (by omega)
    rw [List.length_cons, marksS, if_neg (by simp), q1]
    simp only
    rw [q2]
    simp only [Int.toNat_natCast]
    rw [marksS_cat L r _ (fun x hx => h x (List.mem_cons_of_mem _ hx))]
    simp
theorem rvS_vec (L : List M) (r : List UInt8) (hl : L.length ≤ 512) (h : ∀ m ∈ L, m.n ≤ 281474976710656 ∧ m.p.length ≤ 16384) : rvS (vecL L ++ r) 0 = (L, r, 0) := by
  have q : numS 512 (upL L.length ++ (mcat L ++ r)) 0 = ((L.length : Int), mcat L ++ r, 0) := numS_up 512 L.length _ hl (by omega)
  rw [rvS, vecL, List.append_assoc, q]
  simp only [Int.toNat_natCast]
  rw [marksS_cat L r [] h]; simp
theorem intS_up (most n : Nat) (r : List UInt8) (h : n ≤ most) (h64 : n < 18446744073709551616) : intS (most : Int) (upL n ++ r) 0 = ((n : Int), r, 0) := by
  rw [intS, if_neg (by omega)]; exact numS_up most n r h h64

end Msg
end Go.Proofs.YtcfimfoccbaepaaDoor

namespace Go.Proofs.YtcfimfoccbaepaaDoor
namespace Msg
open Go.RowKit Go.Proofs.YtcfimfoccbaepaaDoor.Mark Go.Proofs.YtcfimfoccbaepaaDoor.Num Go.Proofs.YtcfimfoccbaepaaDoor.Wire

theorem go_n : ∀ (L : List M) (last : List UInt8), Dots.mayGo last L = true → ∀ m ∈ L, m.n ≤ 281474976710656
  | [], _, _, m, hm => by cases hm
  | x :: L, last, h, m, hm => by
    unfold Dots.mayGo at h
    cases hb : Dots.badB last x with
    | true => rw [hb] at h; cases h
    | false =>
      rw [hb] at h
      unfold Dots.badB at hb
      rw [decide_eq_false_iff_not] at hb
      rcases List.mem_cons.1 hm with e | e
      · subst e; omega
      · exact go_n L _ h m e
theorem mayL_n {L : List M} (h : Dots.mayL L = true) : L.length ≤ 512 ∧ ∀ m ∈ L, m.n ≤ 281474976710656 := by
  unfold Dots.mayL at h
  split at h
  · cases h
  · exact ⟨by omega, go_n L _ h⟩
theorem mcat_mem {L : List M} {m : M} (h : m ∈ L) : m.p.length ≤ (mcat L).length := by
  induction L with
  | nil => cases h
  | cons x L ih =>
    have e : mcat (x :: L) = txtL x.p ++ (upL x.n ++ mcat L) := by unfold mcat; rw [List.flatMap_cons, markL]; simp only [List.append_assoc]
    rw [e]
    rcases List.mem_cons.1 h with q | q
    · subst q; simp only [List.length_append, txtL]; omega
    · have := ih q; simp only [List.length_append]; omega
theorem head_rd (k : Nat) (src dst R : List UInt8) (hk : k ≤ 255) (hs : src.length ≤ 16384) (hd : dst.length ≤ 16384) :
    (rd1 (upL k ++ (txtL src ++ (txtL dst ++ R)))).1 = (k : Int) ∧ rd2 (upL k ++ (txtL src ++ (txtL dst ++ R))) = (src, txtL dst ++ R, 0) ∧ rd3 (upL k ++ (txtL src ++ (txtL dst ++ R))) = (dst, R, 0) := by
  have q1 : rd1 (upL k ++ (txtL src ++ (txtL dst ++ R))) = ((k : Int), txtL src ++ (txtL dst ++ R), 0) := numS_up 255 k _ hk (by omega)
  have q2 : rd2 (upL k ++ (txtL src ++ (txtL dst ++ R))) = (src, txtL dst ++ R, 0) := by unfold rd2; rw [q1]; exact textS_txt 16384 src _ hs (by omega)
  have q3 : rd3 (upL k ++ (txtL src ++ (txtL dst ++ R))) = (dst, R, 0) := by unfold rd3; rw [q2]; exact textS_txt 16384 dst _ hd (by omega)
  exact ⟨by rw [q1], q2, q3⟩
theorem read_body (m : G) (h : mayM m = true) (hid : m.id ≤ 18446744073709551615) : readG (bodyL m) = (m, true) := by
  have sh := may_shape h
  have hk := shape_kind sh
  have hlen : 8 + (bodyL m).length ≤ 16384 := by unfold mayM at h; simp only [Bool.and_eq_true, decide_eq_true_eq] at h; exact h.2
  have hall : Dots.mayL m.all = true := by unfold mayM fitsB at h; simp only [Bool.and_eq_true] at h; exact h.1.2.2.2.1
  have hsq : m.seq ≤ 281474976710656 := by unfold mayM fitsB at h; simp only [Bool.and_eq_true, decide_eq_true_eq] at h; exact h.1.2.2.1
  obtain ⟨hl, hn⟩ := mayL_n hall
  obtain ⟨k, src, dst, fr, sq, all, id, i, n, tx⟩ := m
  simp only at hk hid hsq hl hn
  clear h hall
  unfold shapeB at sh
  simp only at sh
  have hvec : ∀ R, (mcat all).length ≤ 16384 → rvS (vecL all ++ R) 0 = (all, R, 0) := fun R hm => rvS_vec all R hl (fun x hx => ⟨hn x hx, by have := mcat_mem hx; omega⟩)
  have hseq : ∀ R, numS 281474976710656 (upL sq ++ R) 0 = ((sq : Int), R, 0) := fun R => numS_up 281474976710656 sq R hsq (by omega)
  rcases hk with rfl | rfl | rfl | rfl
  · simp only [if_true, Bool.and_eq_true, beq_iff_eq, decide_eq_true_eq, mayPartB] at sh
    obtain ⟨rfl, rfl, g1, g2, g3, g4, g5⟩ := sh
    have e : bodyL ⟨1, src, dst, [], 0, all, id, i, n, tx⟩ = upL 1 ++ (txtL src ++ (txtL dst ++ (vecL all ++ (upL id ++ (upL i.toNat ++ (upL n.toNat ++ (txtL tx ++ []))))))) := by
      unfold bodyL headL; simp only [if_true, List.append_assoc, List.append_nil]
    rw [e] at hlen ⊢
    simp only [List.length_append, txtL, vecL] at hlen
    obtain ⟨r1, r2, r3⟩ := head_rd 1 src dst (vecL all ++ (upL id ++ (upL i.toNat ++ (upL n.toNat ++ (txtL tx ++ []))))) (by omega) (by omega) (by omega)
    generalize upL 1 ++ (txtL src ++ (txtL dst ++ (vecL all ++ (upL id ++ (upL i.toNat ++ (upL n.toNat ++ (txtL tx ++ []))))))) = T at r1 r2 r3 ⊢
    have qV : rdV T = (all, (upL id ++ (upL i.toNat ++ (upL n.toNat ++ (txtL tx ++ [])))), 0) := by unfold rdV; rw [r3]; exact hvec _ (by omega)
    have qI : rdI T = ((id : Int), (upL i.toNat ++ (upL n.toNat ++ (txtL tx ++ []))), 0) := by unfold rdI; rw [qV]; exact numS_up 18446744073709551615 id _ (by omega) (by omega)
    have qJ : rdJ T = ((i.toNat : Int), (upL n.toNat ++ (txtL tx ++ [])), 0) := by unfold rdJ; rw [qI]; exact intS_up 256 _ _ (by omega) (by omega)
    have qN : rdN T = ((n.toNat : Int), (txtL tx ++ []), 0) := by unfold rdN; rw [qJ]; exact intS_up 256 _ _ (by omega) (by omega)
    have qX : rdX T = (tx, [], 0) := by unfold rdX; rw [qN]; exact textS_txt 4096 _ _ (by omega) (by omega)
    unfold readG
    rw [r1, qV, qI, qJ, qN, qX, r2, r3]
    simp only [Int.toNat_natCast, if_true, show (((1 : Nat) : Int)).toNat = 1 from rfl]
    rw [Int.toNat_of_nonneg (by omega), Int.toNat_of_nonneg (by omega)]
    rfl
  · simp only [show ¬ (2 : Nat) = 1 by decide, if_false, if_true, Bool.and_eq_true, beq_iff_eq, decide_eq_true_eq, noPart, List.length_eq_zero_iff] at sh
    obtain ⟨rfl, rfl, rfl, rfl, rfl, rfl⟩ := sh
    have e : bodyL ⟨2, src, dst, [], sq, [], 0, 0, 0, []⟩ = upL 2 ++ (txtL src ++ (txtL dst ++ (upL sq ++ []))) := by
      unfold bodyL headL; simp only [show ¬ (2 : Nat) = 1 by decide, if_false, if_true, List.append_assoc, List.append_nil]
    rw [e] at hlen ⊢
    simp only [List.length_append, txtL] at hlen
    obtain ⟨r1, r2, r3⟩ := head_rd 2 src dst (upL sq ++ []) (by omega) (by omega) (by omega)
    generalize upL 2 ++ (txtL src ++ (txtL dst ++ (upL sq ++ []))) = T at r1 r2 r3 ⊢
    have qS : rdS T = ((sq : Int), [], 0) := by unfold rdS; rw [r3]; exact hseq _
    unfold readG
    rw [r1, qS, r2, r3]
    rfl
  · simp only [show ¬ (3 : Nat) = 1 by decide, show ¬ (3 : Nat) = 2 by decide, if_false, if_true, Bool.and_eq_true, decide_eq_true_eq, noPart, List.length_eq_zero_iff] at sh
    obtain ⟨_, rfl, rfl, rfl, rfl, rfl⟩ := sh
    have e : bodyL ⟨3, src, dst, fr, sq, [], 0, 0, 0, []⟩ = upL 3 ++ (txtL src ++ (txtL dst ++ (upL sq ++ (txtL fr ++ [])))) := by
      unfold bodyL headL; simp only [show ¬ (3 : Nat) = 1 by decide, show ¬ (3 : Nat) = 2 by decide, if_false, if_true, List.append_assoc, List.append_nil]
    rw [e] at hlen ⊢
    simp only [List.length_append, txtL] at hlen
    obtain ⟨r1, r2, r3⟩ := head_rd 3 src dst (upL sq ++ (txtL fr ++ [])) (by omega) (by omega) (by omega)
    generalize upL 3 ++ (txtL src ++ (txtL dst ++ (upL sq ++ (txtL fr ++ [])))) = T at r1 r2 r3 ⊢
    have qS : rdS T = ((sq : Int), txtL fr ++ [], 0) := by unfold rdS; rw [r3]; exact hseq _
    have qF : rdF T = (fr, [], 0) := by unfold rdF; rw [qS]; exact textS_txt 16384 _ _ (by omega) (by omega)
    unfold readG
    rw [r1, qF, qS, r2, r3]
    rfl
  · simp only [show ¬ (4 : Nat) = 1 by decide, show ¬ (4 : Nat) = 2 by decide, show ¬ (4 : Nat) = 3 by decide, if_false, if_true, Bool.and_eq_true, decide_eq_true_eq, noPart, List.length_eq_zero_iff] at sh
    obtain ⟨_, rfl, rfl, rfl, rfl⟩ := sh
    have e : bodyL ⟨4, src, dst, fr, sq, all, 0, 0, 0, []⟩ = upL 4 ++ (txtL src ++ (txtL dst ++ (upL sq ++ (txtL fr ++ (vecL all ++ []))))) := by
      unfold bodyL headL; simp only [show ¬ (4 : Nat) = 1 by decide, show ¬ (4 : Nat) = 2 by decide, show ¬ (4 : Nat) = 3 by decide, if_false, if_true, List.append_assoc, List.append_nil]
    rw [e] at hlen ⊢
    simp only [List.length_append, txtL, vecL] at hlen
    obtain ⟨r1, r2, r3⟩ := head_rd 4 src dst (upL sq ++ (txtL fr ++ (vecL all ++ []))) (by omega) (by omega) (by omega)
    generalize upL 4 ++ (txtL src ++ (txtL dst ++ (upL sq ++ (txtL fr ++ (vecL all ++ []))))) = T at r1 r2 r3 ⊢
    have qS : rdS T = ((sq : Int), txtL fr ++ (vecL all ++ []), 0) := by unfold rdS; rw [r3]; exact hseq _
    have qF : rdF T = (fr, vecL all ++ [], 0) := by unfold rdF; rw [qS]; exact textS_txt 16384 _ _ (by omega) (by omega)
    have qW : rdW T = (all, [], 0) := by unfold rdW; rw [qF]; exact hvec _ (by omega)
    unfold readG
    rw [r1, qW, qF, qS, r2, r3]
    rfl

end Msg
end Go.Proofs.YtcfimfoccbaepaaDoor

namespace Go.Proofs.YtcfimfoccbaepaaDoor
namespace Msg
open Go.RowKit Go.Proofs.YtcfimfoccbaepaaDoor.Mark Go.Proofs.YtcfimfoccbaepaaDoor.Num Go.Proofs.YtcfimfoccbaepaaDoor.Wire

theorem may_len {m : G} (h : mayM m = true) : 8 + (bodyL m).length ≤ 16384 := by unfold mayM at h; simp only [Bool.and_eq_true, decide_eq_true_eq] at h; exact h.2
theorem put_len (m : G) (h : mayM m = true) : (Frame.putL (bodyL m)).length ≤ 16384 := by rw [Frame.putL_length]; have := may_len h; omega
theorem dec_enc (m : G) (h : mayM m = true) (hid : m.id ≤ 18446744073709551615) : decG (Frame.putL (bodyL m)) = (m, 0) := by
  have hl := may_len h
  have q := Frame.cut_put (bodyL m) [] (by omega)
  rw [List.append_nil] at q
  unfold decG
  have := put_len m h
  rw [if_neg (by omega), q, if_neg (by simp)]
  simp only [read_body m h hid, h, and_self, if_true]
theorem enc_inj (m n : G) (hm : mayM m = true) (hn : mayM n = true) (im : m.id ≤ 18446744073709551615) (iN : n.id ≤ 18446744073709551615) (e : Frame.putL (bodyL m) = Frame.putL (bodyL n)) : m = n := by
  have a := dec_enc m hm im
  rw [e, dec_enc n hn iN] at a
  exact (congrArg Prod.fst a).symm

end Msg
end Go.Proofs.YtcfimfoccbaepaaDoor

namespace Go.Proofs.YtcfimfoccbaepaaDoor
namespace Msg
open Go.RowKit Go.Proofs.YtcfimfoccbaepaaDoor.Mark Go.Proofs.YtcfimfoccbaepaaDoor.Num Go.Proofs.YtcfimfoccbaepaaDoor.Wire

theorem rd_back : ∀ (l : List UInt8) (f i s : Nat), i + f = 9 → (rd l i s).2.2 = 0 → ∃ n r, l = up f n ++ r ∧ rd l i s = (s + n * 128 ^ i, i + (up f n).length, 0) ∧ (0 < i → n ≠ 0)
  | [], f, i, s, _, h => by unfold rd at h; split at h <;> simp at h
  | c :: r, f, i, s, hf, h => by
    have hc : c.toNat < 256 := c.toNat_lt
    unfold rd at h ⊢
    rw [if_neg (by omega)] at h ⊢
    by_cases h1 : 128 ≤ c.toNat
    · rw [if_pos h1] at h ⊢
      cases f with
      | zero =>
        obtain rfl : i = 9 := by omega
        cases r <;> (unfold rd at h; simp at h)
      | succ f =>
        obtain ⟨n, t, e1, e2, e3⟩ := rd_back r f (i + 1) _ (by omega) h
        have hn := e3 (by omega)
        refine ⟨(c.toNat - 128) + 128 * n, t, ?_, ?_, fun _ => by omega⟩
        · rw [up, if_neg (by omega), e1, show ((c.toNat - 128) + 128 * n) / 128 = n by omega, show ((c.toNat - 128) + 128 * n) % 128 + 128 = c.toNat by omega]; simp
        · rw [e2, up, if_neg (by omega), show ((c.toNat - 128) + 128 * n) / 128 = n by omega, Nat.pow_succ, List.length_cons, Nat.add_mul, Prod.mk.injEq, Prod.mk.injEq]
          refine ⟨?_, by omega, rfl⟩
          rw [Nat.add_assoc, Nat.mul_comm (128 ^ i) 128, ← Nat.mul_assoc, Nat.mul_comm n 128]
    · rw [if_neg h1] at h ⊢
      split at h
      · simp at h
      rename_i h2
      split at h
      · simp at h
      rename_i h3
      rw [if_neg h2, if_neg h3]
      have hu : up f c.toNat = [c] := by cases f <;> simp [up] <;> omega
      exact ⟨c.toNat, r, by rw [hu]; rfl, by rw [hu]; rfl, fun h0 e => h3 ⟨h0, e⟩⟩

end Msg
end Go.Proofs.YtcfimfoccbaepaaDoor

namespace Go.Proofs.YtcfimfoccbaepaaDoor
namespace Msg
open Go.RowKit Go.Proofs.YtcfimfoccbaepaaDoor.Mark Go.Proofs.YtcfimfoccbaepaaDoor.Num Go.Proofs.YtcfimfoccbaepaaDoor.Wire

theorem rdL_back {l : List UInt8} (h : (rdL l).2.2 = 0) : ∃ n r, l = upL n ++ r ∧ rdL l = (n, (upL n).length, 0) := by
  obtain ⟨n, r, e1, e2, _⟩ := rd_back l 9 0 0 rfl h
  refine ⟨n, r, e1, ?_⟩
  have e2' : rdL l = _ := e2
  rw [e2', Nat.pow_zero, Nat.mul_one, Nat.zero_add, Nat.zero_add]; rfl
theorem numS_back {most : Int} {l l' : List UInt8} {E n : Int} (h : numS most l E = (n, l', 0)) : E = 0 ∧ ∃ k : Nat, n = (k : Int) ∧ l = upL k ++ l' := by
  unfold numS at h
  by_cases hE : E = 0
  · rw [if_neg (by simpa using hE)] at h
    simp only [Prod.mk.injEq] at h
    obtain ⟨h1, h2, h3⟩ := h
    rw [if_pos h3] at h2
    refine ⟨hE, ?_⟩
    unfold numT at h1 h2 h3
    by_cases q : (rdL l).2.2 = 0
    · rw [if_neg (by simpa using q)] at h1 h2 h3
      split at h3
      · simp at h3
      · rename_i hm
        rw [if_neg hm] at h1 h2
        simp only at h1 h2
        obtain ⟨k, r, e1, e2⟩ := rdL_back q
        rw [e2] at h1 h2
        simp only at h1 h2
        refine ⟨k, h1.symm, ?_⟩
        rw [e1, List.drop_left] at h2
        rw [e1, h2]
    · rw [if_pos q] at h3
      exact absurd h3 q
  · rw [if_pos hE] at h
    simp only [Prod.mk.injEq] at h
    exact absurd h.2.2 hE
theorem textS_back {most : Int} {l l' p : List UInt8} {E : Int} (h : textS most l E = (p, l', 0)) : E = 0 ∧ l = txtL p ++ l' := by
  unfold textS at h
  by_cases hE : E = 0
  · rw [if_neg (by simpa using hE)] at h
    simp only [Prod.mk.injEq] at h
    obtain ⟨h1, h2, h3⟩ := h
    rw [if_pos h3] at h2
    refine ⟨hE, ?_⟩
    unfold textT at h1 h2 h3
    by_cases q : (rdL l).2.2 = 0
    · rw [if_neg (by simpa using q)] at h1 h2 h3
      split at h3
      · simp at h3
      rename_i hm
      rw [if_neg hm] at h1 h2
      split at h3
      · simp at h3
      rename_i hs
      rw [if_neg hs] at h1 h2
      simp only at h1 h2
      obtain ⟨k, r, e1, e2⟩ := rdL_back q
      rw [e2] at h1 h2 hs
      simp only at h1 h2 hs
      rw [e1, List.length_append] at hs
      rw [e1, List.drop_left] at h1
      rw [e1, ← List.drop_drop, List.drop_left] at h2
      have hk : p.length = k := by rw [← h1, List.length_take]; omega
      rw [e1, txtL, hk, List.append_assoc, ← h1, ← h2, List.take_append_drop]
    · rw [if_pos q] at h3
      exact absurd h3 q
  · rw [if_pos hE] at h
    simp only [Prod.mk.injEq] at h
    exact absurd h.2.2 hE
theorem intS_back {most : Int} {l l' : List UInt8} {E n : Int} (h0 : 0 ≤ most) (h : intS most l E = (n, l', 0)) : E = 0 ∧ ∃ k : Nat, n = (k : Int) ∧ l = upL k ++ l' := by
  rw [intS, if_neg (by omega)] at h
  exact numS_back h
theorem marksS_back : ∀ (k : Nat) (l : List UInt8) (E : Int) (K L : List M) (l' : List UInt8), marksS k l E K = (L, l', 0) → E = 0 ∧ ∃ L', L = K ++ L' ∧ L'.length = k ∧ l = mcat L' ++ l'
  | 0, l, E, K, L, l', h => by
    unfold marksS at h
    simp only [Prod.mk.injEq] at h
    obtain ⟨rfl, rfl, rfl⟩ := h
    exact ⟨rfl, [], by simp, rfl, rfl⟩
  | k + 1, l, E, K, L, l', h => by
    unfold marksS at h
    by_cases hE : E = 0
    · rw [if_neg (by simpa using hE)] at h
      obtain ⟨p, l1, E1, q1⟩ : ∃ p l1 E1, textS 16384 l E = (p, l1, E1) := ⟨_, _, _, rfl⟩
      obtain ⟨n, l2, E2, q2⟩ : ∃ n l2 E2, numS 281474976710656 l1 E1 = (n, l2, E2) := ⟨_, _, _, rfl⟩
      rw [q1] at h
      simp only at h
      rw [q2] at h
      simp only at h
      obtain ⟨rfl, L', rfl, hl, rfl⟩ := marksS_back k _ _ _ _ _ h
      obtain ⟨rfl, j, rfl, rfl⟩ := numS_back q2
      obtain ⟨_, rfl⟩ := textS_back q1
      refine ⟨hE, ⟨p, j⟩ :: L', by simp, by simp [hl], ?_⟩
      unfold mcat
      rw [List.flatMap_cons, markL]
      simp only [List.append_assoc]
    · rw [if_pos hE] at h
      simp only [Prod.mk.injEq] at h
      exact absurd h.2.2 hE
theorem rvS_back {l l' : List UInt8} {E : Int} {L : List M} (h : rvS l E = (L, l', 0)) : E = 0 ∧ l = vecL L ++ l' := by
  unfold rvS at h
  obtain ⟨n, l1, E1, q⟩ : ∃ n l1 E1, numS 512 l E = (n, l1, E1) := ⟨_, _, _, rfl⟩
  rw [q] at h
  simp only at h
  obtain ⟨rfl, L', rfl, hl, rfl⟩ := marksS_back _ _ _ _ _ _ h
  obtain ⟨hE, k, rfl, rfl⟩ := numS_back q
  refine ⟨hE, ?_⟩
  rw [vecL, hl, List.append_assoc]; simp
theorem endS_back {l : List UInt8} {E : Int} (h : (endS l E == 0) = true) : E = 0 ∧ l = [] := by
  rw [beq_iff_eq] at h
  unfold endS at h
  by_cases hE : E = 0
  · rw [if_neg (by simpa using hE)] at h
    refine ⟨hE, ?_⟩
    split at h
    · rename_i e; simpa using e
    · simp at h
  · rw [if_pos hE] at h; exact absurd h hE
theorem pair_of {α β : Type} {x : α × β × Int} (h : x.2.2 = 0) : x = (x.1, x.2.1, 0) := by
  obtain ⟨a, b, c⟩ := x
  simp only at h; rw [h]
theorem head_back {t l : List UInt8} {s d : List UInt8} {E : Int} (h : rd3 t = (d, l, E)) (hE : E = 0) (hs : (rd2 t).1 = s) : ∃ k : Nat, (rd1 t).1 = (k : Int) ∧ t = upL k ++ (txtL s ++ (txtL d ++ l)) := by
  subst hE
  unfold rd3 at h
  obtain ⟨h2, e2⟩ := textS_back h
  have p2 := pair_of h2
  have p2' : textS 16384 (rd1 t).2.1 (rd1 t).2.2 = _ := p2
  obtain ⟨h1, e1⟩ := textS_back p2'
  have p1 := pair_of h1
  have p1' : numS 255 t 0 = _ := p1
  obtain ⟨_, k, e0, e⟩ := numS_back p1'
  refine ⟨k, e0, ?_⟩
  rw [e, e1, e2, hs]
theorem read_back {t : List UInt8} {m : G} (h : readG t = (m, true)) (hm : mayM m = true) : bodyL m = t := by
  have hk := shape_kind (may_shape hm)
  have sh := may_shape hm
  clear hm
  unfold readG at h
  split at h
  · rename_i k1
    simp only [Prod.mk.injEq] at h
    obtain ⟨rfl, hend⟩ := h
    obtain ⟨hX, lX⟩ := endS_back hend
    have pX := pair_of hX; rw [lX] at pX
    obtain ⟨hN, eN⟩ := textS_back (show textS 4096 (rdN t).2.1 (rdN t).2.2 = ((rdX t).1, [], 0) from pX)
    obtain ⟨hJ, n, en, eJ⟩ := intS_back (by decide) (show intS 256 (rdJ t).2.1 (rdJ t).2.2 = ((rdN t).1, (rdN t).2.1, 0) from pair_of hN)
    obtain ⟨hI, i, ei, eI⟩ := intS_back (by decide) (show intS 256 (rdI t).2.1 (rdI t).2.2 = ((rdJ t).1, (rdJ t).2.1, 0) from pair_of hJ)
    obtain ⟨hV, id, eid, eV⟩ := numS_back (show numS 18446744073709551615 (rdV t).2.1 (rdV t).2.2 = ((rdI t).1, (rdI t).2.1, 0) from pair_of hI)
    obtain ⟨h3, e3⟩ := rvS_back (show rvS (rd3 t).2.1 (rd3 t).2.2 = ((rdV t).1, (rdV t).2.1, 0) from pair_of hV)
    obtain ⟨k, ek, e⟩ := head_back (pair_of h3) rfl rfl
    rw [ek] at k1
    obtain rfl : k = 1 := by simpa using k1
    simp only [bodyL, headL, if_true]
    rw [en, ei, eid]
    simp only [Int.toNat_natCast]
    conv => rhs; rw [e, e3, eV, eI, eJ, eN]
    simp only [List.append_assoc, List.append_nil]
  split at h
  · rename_i k1
    simp only [Prod.mk.injEq] at h
    obtain ⟨rfl, hend⟩ := h
    obtain ⟨hS, lS⟩ := endS_back hend
    have pS := pair_of hS; rw [lS] at pS
    obtain ⟨h3, q, eq, e3⟩ := numS_back (show numS 281474976710656 (rd3 t).2.1 (rd3 t).2.2 = ((rdS t).1, [], 0) from pS)
    obtain ⟨k, ek, e⟩ := head_back (pair_of h3) rfl rfl
    rw [ek] at k1
    obtain rfl : k = 2 := by simpa using k1
    simp only [bodyL, headL, show ¬ (2 : Nat) = 1 by decide, if_false, if_true]
    rw [eq]
    simp only [Int.toNat_natCast]
    conv => rhs; rw [e, e3]
    simp only [List.append_assoc, List.append_nil]
  split at h
  · rename_i k1
    simp only [Prod.mk.injEq] at h
    obtain ⟨rfl, hend⟩ := h
    obtain ⟨hF, lF⟩ := endS_back hend
    have pF := pair_of hF; rw [lF] at pF
    obtain ⟨hS, eS⟩ := textS_back (show textS 16384 (rdS t).2.1 (rdS t).2.2 = ((rdF t).1, [], 0) from pF)
    obtain ⟨h3, q, eq, e3⟩ := numS_back (show numS 281474976710656 (rd3 t).2.1 (rd3 t).2.2 = ((rdS t).1, (rdS t).2.1, 0) from pair_of hS)
    obtain ⟨k, ek, e⟩ := head_back (pair_of h3) rfl rfl
    rw [ek] at k1
    obtain rfl : k = 3 := by simpa using k1
    simp only [bodyL, headL, show ¬ (3 : Nat) = 1 by decide, show ¬ (3 : Nat) = 2 by decide, if_false, if_true]
    rw [eq]
    simp only [Int.toNat_natCast]
    conv => rhs; rw [e, e3, eS]
    simp only [List.append_assoc, List.append_nil]
  split at h
  · rename_i k1
    simp only [Prod.mk.injEq] at h
    obtain ⟨rfl, hend⟩ := h
    obtain ⟨hW, lW⟩ := endS_back hend
    have pW := pair_of hW; rw [lW] at pW
    obtain ⟨hF, eF⟩ := rvS_back (show rvS (rdF t).2.1 (rdF t).2.2 = ((rdW t).1, [], 0) from pW)
    obtain ⟨hS, eS⟩ := textS_back (show textS 16384 (rdS t).2.1 (rdS t).2.2 = ((rdF t).1, (rdF t).2.1, 0) from pair_of hF)
    obtain ⟨h3, q, eq, e3⟩ := numS_back (show numS 281474976710656 (rd3 t).2.1 (rd3 t).2.2 = ((rdS t).1, (rdS t).2.1, 0) from pair_of hS)
    obtain ⟨k, ek, e⟩ := head_back (pair_of h3) rfl rfl
    rw [ek] at k1
    obtain rfl : k = 4 := by simpa using k1
    simp only [bodyL, headL, show ¬ (4 : Nat) = 1 by decide, show ¬ (4 : Nat) = 2 by decide, show ¬ (4 : Nat) = 3 by decide, if_false, if_true]
    rw [eq]
    simp only [Int.toNat_natCast]
    conv => rhs; rw [e, e3, eS, eF]
    simp only [List.append_assoc, List.append_nil]
  · rename_i n1 n2 n3 n4
    simp only [Prod.mk.injEq] at h
    obtain ⟨rfl, _⟩ := h
    rcases hk with hk | hk | hk | hk
    · exact absurd hk n1
    · exact absurd hk n2
    · exact absurd hk n3
    · exact absurd hk n4
/-- What Decode answers without an error is what Encode writes. -/
theorem dec_back {s : List UInt8} {m : G} (h : decG s = (m, 0)) (hs : s.length ≤ 16384) : encR m = (s, 0) := by
  unfold decG at h
  rw [if_neg (by omega)] at h
  by_cases hc : (Frame.cutL s).2.2 = 0
  · rw [if_neg (by simpa using hc)] at h
    split at h
    · rename_i hh
      obtain ⟨h1, h2, h3⟩ := hh
      simp only [Prod.mk.injEq, and_true] at h
      have hr := pair_of hc
      rw [h1] at hr
      obtain ⟨e, _⟩ := Frame.put_cut s _ _ hr
      have eR : readG (Frame.cutL s).1 = (m, true) := by rw [← h, ← h2]
      rw [h] at h3
      have := read_back eR h3
      unfold encR
      rw [if_pos h3, this, ← List.append_nil (Frame.putL _), ← e]
    · simp at h
  · rw [if_pos hc] at h
    simp only [Prod.mk.injEq] at h
    exact absurd h.2 hc
end Msg
end Go.Proofs.YtcfimfoccbaepaaDoor
