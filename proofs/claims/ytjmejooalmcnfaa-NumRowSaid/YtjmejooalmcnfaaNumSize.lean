/- The contract of num.Size. -/
import Derived.Test.YtjmejooalmcnfaaNum
import Derived.Test.YtjmejooalmcnfaaShelf
namespace Go.Proofs.Ytjmejooalmcnfaa
namespace Num
open Go.RowKit
set_option maxHeartbeats 400000 in
theorem size_any (n : Nat) (w : World) (h2 : n ≤ 18446744073709551615) :
    Calls Try.prog 11 #[.int .u64 n] w fun e w' => e = .returned (.int .i64 ((upL n).length : Int)) ∧ w = w' := by
  have e1 : bits BinOp.or IntKind.u64 (n : Int) 1 = ((n ||| 1 : Nat) : Int) := u64_or_nat n 1 (by omega) (by decide)
  go_enter Try.func11, Try.ntmps11
  go_wp2_with fail
  refine (Try.bits_Len64 _ _ (by omega) (by have := Nat.or_lt_two_pow (n := 64) (x := n) (y := 1) (by omega) (by decide); omega)).mono ?_
  rintro e w' ⟨rfl, rfl⟩
  rw [Int.toNat_natCast]
  obtain ⟨b, hb⟩ : ∃ b : Nat, b = Lib.bitLen (n ||| 1) := ⟨_, rfl⟩
  have hl := upL_size n (by omega)
  have hle := Lib.bitLen_le (n ||| 1) 64 (by omega) (Nat.or_lt_two_pow (by omega) (by decide))
  rw [← hb] at hl hle ⊢
  have Hl := Lib.hid hl
  clear hl hb
  go_wp2
  go_ret
  exact ⟨congrArg Ending.returned (congrArg (Value.int .i64) (by rw [Hl.out]; omega)), rfl⟩

end Num
end Go.Proofs.Ytjmejooalmcnfaa
