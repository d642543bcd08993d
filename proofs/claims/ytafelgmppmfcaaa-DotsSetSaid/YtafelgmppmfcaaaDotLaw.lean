/- dots: the contracts as the laws' walks use them: what is handed back is a slice that lies. -/
import Derived.Test.YtafelgmppmfcaaaDotBox
namespace Go.Proofs.Ytafelgmppmfcaaa
namespace Dots
open Go.RowKit Go.Shelf Go.Proofs.Ytafelgmppmfcaaa.Mark

section
variable {L K : List M} {a1 a2 : Option Addr} {n1 n2 c1 c2 : Nat} {w : World}
theorem join_s (hL : Lies w a1 n1 L) (hK : Lies w a2 n2 K) (hn1 : n1 ≤ 1099511627776) (hn2 : n2 ≤ 1099511627776) :
    Calls Try.prog 23 #[.slice a1 n1 c1, .slice a2 n2 c2] w fun e w' => ∃ a c J, e = .returned (.slice a (List.length J) c) ∧ IsVec J (fun q => max (ofL L q) (ofL K q)) ∧ J.length ≤ n1 + n2 ∧ Lies w' a J.length J ∧ Below w.heap.size w w' :=
  (join_any L K a1 a2 n1 n2 c1 c2 w hL hK hn1 hn2).mono fun e w' ⟨v, J, he, hJ, hl, ho, hb⟩ => by obtain ⟨a, c, rfl, l⟩ := own_lies ho rfl; exact ⟨a, c, J, he, hJ, hl, l, hb⟩
theorem rjoin_s (hL : Lies w a1 n1 L) (hK : Lies w a2 n2 K) (hn1 : n1 ≤ 549755813888) (hn2 : n2 ≤ 549755813888) (ok1 : Ok L) (ok2 : Ok K) :
    Calls Try.prog 24 #[.slice a1 n1 c1, .slice a2 n2 c2] w fun e w' => ∃ a c J, e = .returned (.slice a (List.length J) c) ∧ IsVec J (fun q => max (ofL L q) (ofL K q)) ∧ J.length ≤ n1 + n2 ∧ Lies w' a J.length J ∧ Below w.heap.size w w' :=
  (RefDots.join_any L K a1 a2 n1 n2 c1 c2 w hL hK hn1 hn2 ok1 ok2).mono fun e w' ⟨v, J, he, hJ, hl, ho, hb⟩ => by obtain ⟨a, c, rfl, l⟩ := own_lies ho rfl; exact ⟨a, c, J, he, hJ, hl, l, hb⟩
theorem set_s (q : List UInt8) (x : Nat) (hL : Lies w a1 n1 L) (hn1 : n1 ≤ 549755813888) :
    Calls Try.prog 19 #[.slice a1 n1 c1, .string ⟨q.toArray⟩, .int .u64 (x : Nat)] w fun e w' => ∃ a c J, e = .returned (.slice a (List.length J) c) ∧ IsVec J (setF (ofL L) q x) ∧ J.length ≤ n1 + 1 ∧ Lies w' a J.length J ∧ Below w.heap.size w w' :=
  (set_any L q x a1 n1 c1 w hL hn1).mono fun e w' ⟨v, J, he, hJ, hl, ho, hb⟩ => by obtain ⟨a, c, rfl, l⟩ := own_lies ho rfl; exact ⟨a, c, J, he, hJ, hl, l, hb⟩
theorem rset_s (q : List UInt8) (x : Nat) (hL : Lies w a1 n1 L) (hn1 : n1 ≤ 549755813888) (ok1 : Ok L) :
    Calls Try.prog 20 #[.slice a1 n1 c1, .string ⟨q.toArray⟩, .int .u64 (x : Nat)] w fun e w' => ∃ a c J, e = .returned (.slice a (List.length J) c) ∧ IsVec J (setF (ofL L) q x) ∧ J.length ≤ n1 + 1 ∧ Lies w' a J.length J ∧ Below w.heap.size w w' :=
  (RefDots.set_any L q x a1 n1 c1 w hL hn1 ok1).mono fun e w' ⟨v, J, he, hJ, hl, ho, hb⟩ => by obtain ⟨a, c, rfl, l⟩ := own_lies ho rfl; exact ⟨a, c, J, he, hJ, hl, l, hb⟩
theorem drop_s (q : List UInt8) (hL : Lies w a1 n1 L) (hn1 : n1 ≤ 1099511627776) :
    Calls Try.prog 21 #[.slice a1 n1 c1, .string ⟨q.toArray⟩] w fun e w' => ∃ a c J, e = .returned (.slice a (List.length J) c) ∧ IsVec J (fun x => if x = q then 0 else ofL L x) ∧ J.length ≤ n1 ∧ Lies w' a J.length J ∧ Below w.heap.size w w' :=
  (drop_any L q a1 n1 c1 w hL hn1).mono fun e w' ⟨v, J, he, hJ, hl, ho, hb⟩ => by obtain ⟨a, c, rfl, l⟩ := own_lies ho rfl; exact ⟨a, c, J, he, hJ, hl, l, hb⟩
theorem rdrop_s (q : List UInt8) (hL : Lies w a1 n1 L) (hn1 : n1 ≤ 1099511627776) (ok1 : Ok L) :
    Calls Try.prog 22 #[.slice a1 n1 c1, .string ⟨q.toArray⟩] w fun e w' => ∃ a c J, e = .returned (.slice a (List.length J) c) ∧ IsVec J (fun x => if x = q then 0 else ofL L x) ∧ J.length ≤ n1 ∧ Lies w' a J.length J ∧ Below w.heap.size w w' :=
  (RefDots.drop_any L q a1 n1 c1 w hL hn1 ok1).mono fun e w' ⟨v, J, he, hJ, hl, ho, hb⟩ => by obtain ⟨a, c, rfl, l⟩ := own_lies ho rfl; exact ⟨a, c, J, he, hJ, hl, l, hb⟩
theorem same_eq (h : L = K) (hL : Lies w a1 n1 L) (hK : Lies w a2 n2 K) (hn1 : n1 ≤ 1099511627776) (hn2 : n2 ≤ 1099511627776) :
    Calls Try.prog 18 #[.slice a1 n1 c1, .slice a2 n2 c2] w fun e w' => e = .returned (.bool true) ∧ Below w.heap.size w w' := same_is true (decide_eq_true h) hL hK hn1 hn2
theorem rcovers_is (r : Bool) (h : (∀ q, ofL K q ≤ ofL L q) ↔ r = true) (hL : Lies w a1 n1 L) (hK : Lies w a2 n2 K) (hn1 : n1 ≤ 549755813888) (hn2 : n2 ≤ 549755813888) (ok1 : Ok L) (ok2 : Ok K) :
    Calls Try.prog 26 #[.slice a1 n1 c1, .slice a2 n2 c2] w fun e w' => e = .returned (.bool r) ∧ Below w.heap.size w w' :=
  (RefDots.covers_any L K a1 a2 n1 n2 c1 c2 w hL hK hn1 hn2 ok1 ok2).mono fun e w' ⟨r', he, hr, hb⟩ => ⟨by rw [he]; congr 2; rw [Bool.eq_iff_iff, hr, h], hb⟩
theorem long_is (r : Bool) (h : decide (100 < n1) = r) : Calls Try.prog 17 #[.slice a1 n1 c1] w fun e w' => e = .returned (.bool r) ∧ w = w' := by rw [← h]; exact long_any a1 n1 c1 w
end
open Classical in
/-- Does L cover K? -/
noncomputable def covB (L K : List M) : Bool := decide (∀ q, ofL K q ≤ ofL L q)
theorem covB_iff (L K : List M) : (∀ q, ofL K q ≤ ofL L q) ↔ covB L K = true := by unfold covB; exact (@decide_eq_true_iff _ (Classical.propDecidable _)).symm

end Dots
end Go.Proofs.Ytafelgmppmfcaaa
