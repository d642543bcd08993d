
/- dots: the laws' small known case, Long, tame. -/
import Derived.Test.YtcbnkncgacbniaaRefDotJoin
namespace Go.Proofs.Ytcbnkncgacbniaa
namespace Dots
open Go.RowKit Go.Shelf Go.Proofs.Ytcbnkncgacbniaa.Mark

section
variable {L K : List M} {a1 a2 : Option Addr} {n1 n2 c1 c2 : Nat} {w : World}
theorem covers_is (r : Bool) (h : (∀ q, ofL K q ≤ ofL L q) ↔ r = true) (hL : Lies w a1 n1 L) (hK : Lies w a2 n2 K) (hn1 : n1 ≤ 1099511627776) (hn2 : n2 ≤ 1099511627776) :
    Calls Try.prog 28 #[.slice a1 n1 c1, .slice a2 n2 c2] w fun e w' => e = .returned (.bool r) ∧ Below w.heap.size w w' :=
  (covers_any L K a1 a2 n1 n2 c1 c2 w hL hK hn1 hn2).mono fun e w' ⟨r', he, hr, hb⟩ => ⟨by rw [he]; congr 2; rw [Bool.eq_iff_iff, hr, h], hb⟩
theorem join_is (J : List M) (h : IsVec J (fun q => max (ofL L q) (ofL K q))) (hL : Lies w a1 n1 L) (hK : Lies w a2 n2 K) (hn1 : n1 ≤ 1099511627776) (hn2 : n2 ≤ 1099511627776) :
    Calls Try.prog 29 #[.slice a1 n1 c1, .slice a2 n2 c2] w fun e w' => ∃ v : Value, e = .returned v ∧ Mark.Own w' w.heap.size v J ∧ Below w.heap.size w w' :=
  (join_any L K a1 a2 n1 n2 c1 c2 w hL hK hn1 hn2).mono fun e w' ⟨v, J', he, hJ, _, ho, hb⟩ => ⟨v, he, by rw [IsVec.uniq h hJ]; exact ho, hb⟩
theorem drop_is (q : List UInt8) (J : List M) (h : IsVec J (fun y => if y = q then 0 else ofL L y)) (hL : Lies w a1 n1 L) (hn1 : n1 ≤ 1099511627776) :
    Calls Try.prog 34 #[.slice a1 n1 c1, .string ⟨q.toArray⟩] w fun e w' => ∃ v : Value, e = .returned v ∧ Mark.Own w' w.heap.size v J ∧ Below w.heap.size w w' :=
  (drop_any L q a1 n1 c1 w hL hn1).mono fun e w' ⟨v, J', he, hJ, _, ho, hb⟩ => ⟨v, he, by rw [IsVec.uniq h hJ]; exact ho, hb⟩
end

def tameL (L : List M) : Bool := L.all fun m => decide (m.n ≤ 281474976710656)
theorem tameL_take (L : List M) (k : Nat) (h : k < L.length) : tameL (L.take (k + 1)) = (tameL (L.take k) && decide (L[k].n ≤ 281474976710656)) := by
  unfold tameL; rw [List.take_succ_eq_append_getElem h, List.all_append]; simp
theorem tameL_not (L : List M) (k : Nat) (h : k < L.length) (hk : 281474976710656 < L[k].n) : tameL L = false := by
  unfold tameL
  rw [List.all_eq_false]
  exact ⟨_, List.getElem_mem h, by rw [decide_eq_true_eq]; omega⟩
end Dots
end Go.Proofs.Ytcbnkncgacbniaa
