/- what was written is read: the pieces of a message. -/
import Derived.Test.YtcfimfoccbaepaaDoorMsgKind
namespace Go.Proofs.YtcfimfoccbaepaaDoor
namespace Msg
open Go.RowKit Go.Proofs.YtcfimfoccbaepaaDoor.Mark Go.Proofs.YtcfimfoccbaepaaDoor.Num Go.Proofs.YtcfimfoccbaepaaDoor.Wire

theorem numS_up (most n : Nat) (r : List UInt8) (h : n ≤ most) (h64 : n < 18446744073709551616) : numS (most : Int) (upL n ++ r) 0 = ((n : Int), r, 0) := by
  rw [numS, if_neg (by simp), numT, rd_upL n h64 r]
  simp only
  rw [if_neg (by simp), if_neg (by omega)]
  simp
theorem textS_txt (most : Nat) (p r : List UInt8) (h : p.length ≤ most) (h64 : p.length < 18446744073709551616) : textS (most : Int) (txtL p ++ r) 0 = (p, r, 0) := by
  rw [txtL, List.append_assoc, textS, if_neg (by simp), textT, rd_upL p.length h64 (p ++ r)]
  simp only
  rw [if_neg (by simp), if_neg (by omega), if_neg (by simp only [List.length_append]; omega)]
  simp only [List.drop_left, if_true, List.take_left]
  rw [← List.append_assoc, List.drop_left']
  simp
theorem marksS_cat : ∀ (L : List M) (r : List UInt8) (K : List M), (∀ m ∈ L, m.n ≤ 281474976710656 ∧ m.p.length ≤ 16384) → marksS L.length (mcat L ++ r) 0 K = (K ++ L, r, 0)
  | [], r, K, _ => by simp [marksS, mcat]
  | m :: L, r, K, h => by
    have hm := h m (List.mem_cons_self ..)
    have e : mcat (m :: L) ++ r = txtL m.p ++ (upL m.n ++ (mcat L ++ r)) := by
      unfold mcat; rw [List.flatMap_cons, markL]; simp only [List.append_assoc]
    have q1 : textS 16384 (mcat (m :: L) ++ r) 0 = (m.p, upL m.n ++ (mcat L ++ r), 0) := by rw [e]; exact textS_txt 16384 m.p _ hm.2 (by omega)
    have q2 : numS 281474976710656 (upL m.n ++ (mcat L ++ r)) 0 = ((m.n : Int), mcat L ++ r, 0) := numS_up 281474976710656 m.n _ hm.1 (by omega)
    rw [List.length_cons, marksS, if_neg (by simp), q1]
    simp only
    rw [q2]
    simp only [Int.toNat_natCast]
    rw [marksS_cat L r _ (fun x hx => h x (List.mem_cons_of_mem _ hx))]
    simp
theorem rvS_vec (L : List M) (r : List UInt8) (hl : L.length ≤ 512) (h : ∀ m ∈ L, m.n ≤ 281474976710656 ∧ m.p.length ≤ 16384) : rvS (vecL L ++ r) 0 = (L, r, 0) := by
  have q : numS 512 (upL L.length ++ (mcat L ++ r)) 0 = ((L.length : Int), mcat L ++ r, 0) := numS_up 512 L.length _ hl (by omega)
  rw [rvS, vecL, List.append_assoc, q]
  simp only [Int.toNat_natCast]
  rw [marksS_cat L r [] h]; simp
theorem intS_up (most n : Nat) (r : List UInt8) (h : n ≤ most) (h64 : n < 18446744073709551616) : intS (most : Int) (upL n ++ r) 0 = ((n : Int), r, 0) := by
  rw [intS, if_neg (by omega)]; exact numS_up most n r h h64

end Msg
end Go.Proofs.YtcfimfoccbaepaaDoor
