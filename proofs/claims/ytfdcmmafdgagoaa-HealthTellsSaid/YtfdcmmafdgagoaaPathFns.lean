
/- package path: Deep, May, Number. -/
import Derived.Test.YtfdcmmafdgagoaaPathSplit
namespace Go.Proofs.Ytfdcmmafdgagoaa
namespace Path
open Go.RowKit

theorem split_any (p : List UInt8) (w : World) (hp : p.length ≤ 1099511627776) :
    Calls Try.prog 36 #[.string ⟨p.toArray⟩] w fun e w' => e = .returned (.tuple #[arr8 (parse p), .int .i64 ((parse p).length : Nat)]) ∧ Below w.heap.size w w' :=
  callsIn_wide.1 (split_in p w hp)

theorem ys_le : ∀ l, ∀ x ∈ ys l, x ≤ 1073741824
  | [], x, h => by simp [ys] at h
  | f :: r, x, h => by
    unfold ys at h
    rcases List.mem_cons.1 h with h | h
    · rw [h]; exact num1_le f
    · split at h
      · cases h
      · exact ys_le r x h
theorem parse_length (p : List UInt8) : (parse p).length ≤ 8 := by
  unfold parse; split
  · rename_i h; exact h.2.1
  · simp
theorem parse_mem (p : List UInt8) : ∀ x ∈ parse p, 1 ≤ x ∧ x ≤ 1073741824 := by
  intro x hx
  unfold parse at hx
  split at hx
  · rename_i h; exact ⟨by have := h.1 x hx; omega, ys_le _ x hx⟩
  · cases hx

set_option maxRecDepth 100000 in
set_option maxHeartbeats 1000000 in
theorem deep_any (p : List UInt8) (w : World) (hp : p.length ≤ 1099511627776) :
    Calls Try.prog 29 #[.string ⟨p.toArray⟩] w fun e w' => e = .returned (.int .i64 ((parse p).length : Nat)) ∧ Below w.heap.size w w' := by
  have C := Lib.hid (fun w => split_any p w hp)
  go_enter Try.func29, Try.ntmps29
  go_wp2_with fail
  refine (C.out _).mono ?_
  rintro e w1 ⟨rfl, hb⟩
  unfold arr8
  go_wp2
  go_ret
  exact ⟨rfl, balloc hb _⟩

theorem may_any (p : List UInt8) (w : World) (hp : p.length ≤ 1099511627776) :
    Calls Try.prog 21 #[.string ⟨p.toArray⟩] w fun e w' => e = .returned (.bool (decide (0 < (parse p).length))) ∧ Below w.heap.size w w' := by
  have C := Lib.hid (fun w => deep_any p w hp)
  go_enter Try.func21, Try.ntmps21
  go_wp2_with fail
  refine (C.out _).mono ?_
  rintro e w1 ⟨rfl, hb⟩
  go_wp2
  go_ret
  exact ⟨congrArg (fun b => Ending.returned (.bool b)) (by rw [Bool.eq_iff_iff]), hb⟩

/-- A path's last number, of two or more. -/
def last (l : List Nat) : Nat := if l.length < 2 then 0 else l.getD (l.length - 1) 0
end Path
end Go.Proofs.Ytfdcmmafdgagoaa
