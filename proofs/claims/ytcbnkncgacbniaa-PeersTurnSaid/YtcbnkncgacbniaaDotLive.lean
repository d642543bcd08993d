
/- dots: alive() answers true: the walk. -/
import Derived.Test.YtcbnkncgacbniaaDotKnown
namespace Go.Proofs.Ytcbnkncgacbniaa
namespace Dots
open Go.RowKit Go.Shelf Go.Proofs.Ytcbnkncgacbniaa.Mark

theorem own_lies {W : World} {B n : Nat} {v : Value} {L : List M} (h : Mark.Own W B v L) (hn : L.length = n) : ∃ a c, v = .slice a n c ∧ Lies W a n L := by
  obtain ⟨a, c, e, _, _, l, _⟩ := h.lies
  subst hn
  exact ⟨a, c, e, l⟩
theorem okA : Ok kA := fun m hm => by
  rcases List.mem_cons.1 hm with rfl | hm
  · decide
  · rw [List.mem_singleton] at hm; subst hm; decide
theorem okJ : Ok kJ := fun m hm => by
  rcases List.mem_cons.1 hm with rfl | hm
  · decide
  · rw [List.mem_singleton] at hm; subst hm; decide
theorem ofJ3 : ofL kJ [98] = 3 := by rw [ofJ]; decide
theorem hasJ2 : hasL kJ [97] 2 = true := by unfold hasL; rw [ofJ]; decide
theorem hasJ3 : hasL kJ [97] 3 = false := by unfold hasL; rw [ofJ]; decide
theorem mayA : mayL kA = true := by decide
theorem cmpAA : cmpD ⟨[97], 2⟩ ⟨[97], 3⟩ = -1 := by decide
theorem drop_lies {L : List M} {a : Option Addr} {n c : Nat} {w : World} (q : List UInt8) (J : List M) (k : Nat) (hk : J.length = k) (h : IsVec J (fun y => if y = q then 0 else ofL L y)) (hL : Lies w a n L) (hn1 : n ≤ 549755813888) :
    Calls Try.prog 34 #[.slice a n c, .string ⟨q.toArray⟩] w fun e w' => ∃ a' c', e = .returned (.slice a' k c') ∧ Lies w' a' k J ∧ Below w.heap.size w w' :=
  (drop_is q J h hL (by omega)).mono fun e w' ⟨v, he, ho, hb⟩ => by obtain ⟨a', c', rfl, l⟩ := own_lies ho hk; exact ⟨a', c', he, l, hb⟩

end Dots
end Go.Proofs.Ytcbnkncgacbniaa
