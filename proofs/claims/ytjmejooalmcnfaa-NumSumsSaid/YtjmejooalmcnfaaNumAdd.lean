/- The contracts of num.Add and num.Sum. -/
import Derived.Test.YtjmejooalmcnfaaNum
import Derived.Laws.Externs
namespace Go.Proofs.Ytjmejooalmcnfaa
namespace Num
open Go.RowKit

theorem add64 (x y c : Int) (hx : 0 ≤ x) (hy : 0 ≤ y) (hx' : x ≤ 18446744073709551615) (hy' : y ≤ 18446744073709551615) (hc : c = 0) (w : World) : (callFunc 15 #[.int .u64 x, .int .u64 y, .int .u64 c]).run Try.prog w =
    .ok (.value (.tuple #[.int .u64 ((x + y) % 18446744073709551616), .int .u64 ((x + y) / 18446744073709551616)])) w := by
  subst hc
  obtain ⟨x, rfl⟩ := Int.eq_ofNat_of_zero_le hx
  obtain ⟨y, rfl⟩ := Int.eq_ofNat_of_zero_le hy
  have e := run_callFunc_extern (P := Try.prog) (f := 15) (args := #[.int .u64 x, .int .u64 y, .int .u64 0]) (w := w) Try.func15 (by kernel_rfl) (by kernel_rfl) (by kernel_rfl) (e := add64Entry) (by kernel_rfl)
  rw [e, run_add64 x y 0 (by omega) (by omega) (by omega) (by omega)]
  simp only [Result.andThen]
  congr 5 <;> omega
set_option maxHeartbeats 400000 in
theorem add_any (a b : Int) (w : World) (ha : 0 ≤ a) (hb : 0 ≤ b) (ha' : a ≤ 18446744073709551615) (hb' : b ≤ 18446744073709551615) :
    Calls Try.prog 12 #[.int .u64 a, .int .u64 b] w fun e w' => e = .returned (if a + b ≤ 18446744073709551615 then .tuple #[.int .u64 (a + b), .bool true] else .tuple #[.int .u64 0, .bool false]) ∧ w = w' := by
  by_cases h : a + b ≤ 18446744073709551615
  · have h1 : ((a + b) / 18446744073709551616 == 0) = true := by rw [beq_iff_eq]; omega
    have h2 : (!((a + b) / 18446744073709551616 == 0)) = false := by rw [h1]; rfl
    have h3 : (a + b) % 18446744073709551616 = a + b := by omega
    rw [if_pos h]
    go_enter Try.func12, Try.ntmps12
    go_wp2_with (simp only [add64 a b 0 ha hb ha' hb' rfl])
    go_ret2
    exact ⟨rfl, rfl⟩
  · have h1 : ((a + b) / 18446744073709551616 == 0) = false := by rw [beq_eq_false_iff_ne]; omega
    rw [if_neg h]
    go_enter Try.func12, Try.ntmps12
    go_wp2_with (simp only [add64 a b 0 ha hb ha' hb' rfl])
    go_ret2
    exact ⟨rfl, rfl⟩

def fits (a b : Int) : Bool := decide (-9223372036854775808 ≤ a + b) && decide (a + b ≤ 9223372036854775807)
set_option maxHeartbeats 400000 in
theorem sum_any (a b : Int) (w : World) (ha : -9223372036854775808 ≤ a) (hb : -9223372036854775808 ≤ b) (ha' : a ≤ 9223372036854775807) (hb' : b ≤ 9223372036854775807) :
    Calls Try.prog 13 #[.int .i64 a, .int .i64 b] w fun e w' => e = .returned (if fits a b then .tuple #[.int .i64 (a + b), .bool true] else .tuple #[.int .i64 0, .bool false]) ∧ w = w' := by
  have e : wrap64 (a + b) = if a + b < -9223372036854775808 then a + b + 18446744073709551616 else if 9223372036854775807 < a + b then a + b - 18446744073709551616 else a + b := by unfold wrap64; split <;> (try split) <;> omega
  cases hf : fits a b
  · simp only [fits, Bool.and_eq_false_iff, decide_eq_false_iff_not] at hf
    have h1 : (!decide (0 ≤ b) == decide (a ≤ wrap64 (a + b))) = true := by
      rw [e]; by_cases h : 0 ≤ b
      · rw [if_neg (by omega), if_pos (by omega)]; simp [h]; omega
      · rw [if_pos (by omega)]; simp [h]; omega
    clear e
    go_enter Try.func13, Try.ntmps13
    go_wp2
    go_ret2
    exact ⟨rfl, rfl⟩
  · simp only [fits, Bool.and_eq_true, decide_eq_true_eq] at hf
    obtain ⟨f1, f2⟩ := hf
    rw [if_neg (by omega), if_neg (by omega)] at e
    have h1 : (!decide (0 ≤ b) == decide (a ≤ a + b)) = false := by
      by_cases h : 0 ≤ b
      · simp [h]; omega
      · simp [h]; omega
    clear e
    go_enter Try.func13, Try.ntmps13
    go_wp2
    go_ret2
    exact ⟨rfl, rfl⟩


end Num
end Go.Proofs.Ytjmejooalmcnfaa
