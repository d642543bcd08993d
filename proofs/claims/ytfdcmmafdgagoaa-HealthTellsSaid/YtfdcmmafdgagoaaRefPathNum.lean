
/- The document's num: a number in tens. -/
import Derived.Test.YtfdcmmafdgagoaaPathWrite
import Derived.Test.YtfdcmmafdgagoaaConv
namespace Go.Proofs.Ytfdcmmafdgagoaa
namespace RefPath
open Go.RowKit Go.Proofs.Ytfdcmmafdgagoaa.Path

theorem digits_step {m : Nat} (h : 9 < m) : Lib.decDigits m = Lib.decDigits (m / 10) ++ [UInt8.ofNat (48 + m % 10)] := by
  conv => lhs; rw [Lib.decDigits, dif_neg (by omega)]
theorem digits_last {m : Nat} (h : m ≤ 9) : Lib.decDigits m = [UInt8.ofNat (48 + m)] := by
  rw [Lib.decDigits, dif_pos (by omega)]

set_option maxRecDepth 100000 in
set_option maxHeartbeats 1000000 in
theorem num_any (n : Nat) (w : World) (hn : n ≤ 1099511627776) :
    Calls Try.prog 35 #[.int .i64 n] w fun e w' => e = .returned (.string ⟨(Lib.decDigits n).toArray⟩) ∧ Below w.heap.size w w' := by
  go_enter Try.func35, Try.ntmps35
  go_wp2_with fail
  go_loopw [0, 3] (fun nv sv wr => ∃ (m : Nat) (t : List UInt8), m ≤ n ∧ nv = .int .i64 m ∧ sv = .string ⟨t.toArray⟩ ∧ Hid (Lib.decDigits n = Lib.decDigits m ++ t) ∧ Below w.heap.size w wr) (fun nv _ _ => (intOf nv).toNat)
  case atStart => exact ⟨n, [], Nat.le_refl _, rfl, rfl, Lib.hid (by simp), Below.refl _ _⟩
  case round =>
    obtain ⟨m, t, hm, rfl, rfl, HI, hb⟩ := hrel
    have htl : t.length ≤ 13 := by
      have h1 := congrArg List.length HI.out
      have h2 := digits_len 13 n (by decide) (by omega)
      rw [List.length_append] at h1; omega
    have hst := Str.size_mk t
    by_cases hlt : 9 < m
    · have hd : decide ((9 : Int) < (m : Int)) = true := decide_eq_true (by omega)
      have hu : IntKind.u8.wrap (48 + (m : Int) % 10) = 48 + (m : Int) % 10 := by rw [IntKind.wrap_u8']; omega
      have hst1 := digits_step hlt
      obtain ⟨z, hz⟩ : ∃ z, z = UInt8.ofNat (48 + m % 10) := ⟨_, rfl⟩
      have hcv := fun w => Conv.conv1 (48 + (m : Int) % 10) z (by rw [hz]; simp; omega) w w.heap.size rfl
      rw [← hz] at hst1
      have HS := Lib.hid hst1
      clear hz hst1
      have hdiv : (m : Int) / 10 = ((m / 10 : Nat) : Int) := by omega
      have HD := Lib.hid hdiv
      clear hdiv
      go_wp2
      go_roundw
      case rel => exact ⟨m / 10, z :: t, by omega, by rw [HD.out], congrArg Value.string (Str.mk_append_mk [z] t), Lib.hid (by rw [HI.out, HS.out, List.append_assoc]; rfl), balloc hb _⟩
      case measure => simp [intOf]; omega
    · have hd : decide ((9 : Int) < (m : Int)) = false := decide_eq_false (by omega)
      have hu : IntKind.u8.wrap (48 + (m : Int)) = 48 + (m : Int) := by rw [IntKind.wrap_u8']; omega
      have hst1 := digits_last (m := m) (by omega)
      obtain ⟨z, hz⟩ : ∃ z, z = UInt8.ofNat (48 + m) := ⟨_, rfl⟩
      have hcv := fun w => Conv.conv1 (48 + (m : Int)) z (by rw [hz]; simp; omega) w w.heap.size rfl
      rw [← hz] at hst1
      have HS := Lib.hid hst1
      clear hz hst1
      go_wp2
      go_ret
      exact ⟨by rw [HI.out, HS.out, ← Str.mk_append_mk]; rfl, balloc hb _⟩

end RefPath
end Go.Proofs.Ytfdcmmafdgagoaa
