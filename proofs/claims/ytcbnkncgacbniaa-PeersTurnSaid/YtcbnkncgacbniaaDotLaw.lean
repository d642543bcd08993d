
/- dots: the contracts as the laws' walks use them: what is handed back is a slice that lies. -/
import Derived.Test.YtcbnkncgacbniaaDotBox
namespace Go.Proofs.Ytcbnkncgacbniaa
namespace Dots
open Go.RowKit Go.Shelf Go.Proofs.Ytcbnkncgacbniaa.Mark

section
variable {L K : List M} {a1 a2 : Option Addr} {n1 n2 c1 c2 : Nat} {w : World}
theorem rcovers_is (r : Bool) (h : (∀ q, ofL K q ≤ ofL L q) ↔ r = true) (hL : Lies w a1 n1 L) (hK : Lies w a2 n2 K) (hn1 : n1 ≤ 549755813888) (hn2 : n2 ≤ 549755813888) (ok1 : Ok L) (ok2 : Ok K) :
    Calls Try.prog 14 #[.slice a1 n1 c1, .slice a2 n2 c2] w fun e w' => e = .returned (.bool r) ∧ Below w.heap.size w w' :=
  (RefDots.covers_any L K a1 a2 n1 n2 c1 c2 w hL hK hn1 hn2 ok1 ok2).mono fun e w' ⟨r', he, hr, hb⟩ => ⟨by rw [he]; congr 2; rw [Bool.eq_iff_iff, hr, h], hb⟩
end
open Classical in
/-- Does L cover K? -/
noncomputable def covB (L K : List M) : Bool := decide (∀ q, ofL K q ≤ ofL L q)
theorem covB_iff (L K : List M) : (∀ q, ofL K q ≤ ofL L q) ↔ covB L K = true := by unfold covB; exact (@decide_eq_true_iff _ (Classical.propDecidable _)).symm

end Dots
end Go.Proofs.Ytcbnkncgacbniaa
