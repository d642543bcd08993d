/- The contracts of num.Turn and num.Back. -/
import Derived.Test.YtjmejooalmcnfaaNum
namespace Go.Proofs.Ytjmejooalmcnfaa
namespace Num
open Go.RowKit
set_option maxHeartbeats 400000 in
theorem turn_any (a : Int) (w : World) (h1 : -9223372036854775808 ≤ a) (h2 : a ≤ 9223372036854775807) :
    Calls Try.prog 10 #[.int .i64 a] w fun e w' => e = .returned (.int .u64 (turn a)) ∧ w = w' := by
  have e : bits BinOp.xor IntKind.u64 (IntKind.u64.wrap (IntKind.u64.wrap a * 2)) (IntKind.u64.wrap (a / 9223372036854775808)) = turn a := turn_bits a h1 h2
  go_enter Try.func10, Try.ntmps10
  go_wp2
  go_ret
  exact ⟨rfl, rfl⟩

set_option maxHeartbeats 400000 in
theorem back_any (n : Int) (w : World) (h1 : 0 ≤ n) (h2 : n ≤ 18446744073709551615) :
    Calls Try.prog 9 #[.int .u64 n] w fun e w' => e = .returned (.int .i64 (back n)) ∧ w = w' := by
  have e := back_bits n h1 h2
  have e1 := and1 n h1 h2
  have e2 : IntKind.i64.wrap (n / 2) = n / 2 := by rw [wrap_i64]; split <;> omega
  go_enter Try.func9, Try.ntmps9
  go_wp2
  go_ret
  exact ⟨rfl, rfl⟩

end Num
end Go.Proofs.Ytjmejooalmcnfaa
