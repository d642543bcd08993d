/- what is read is canonical. -/
import Derived.Test.YtcfimfoccbaepaaDoorMsgRound3
namespace Go.Proofs.YtcfimfoccbaepaaDoor
namespace Msg
open Go.RowKit Go.Proofs.YtcfimfoccbaepaaDoor.Mark Go.Proofs.YtcfimfoccbaepaaDoor.Num Go.Proofs.YtcfimfoccbaepaaDoor.Wire

theorem rd_back : ∀ (l : List UInt8) (f i s : Nat), i + f = 9 → (rd l i s).2.2 = 0 → ∃ n r, l = up f n ++ r ∧ rd l i s = (s + n * 128 ^ i, i + (up f n).length, 0) ∧ (0 < i → n ≠ 0)
  | [], f, i, s, _, h => by unfold rd at h; split at h <;> simp at h
  | c :: r, f, i, s, hf, h => by
    have hc : c.toNat < 256 := c.toNat_lt
    unfold rd at h ⊢
    rw [if_neg (by omega)] at h ⊢
    by_cases h1 : 128 ≤ c.toNat
    · rw [if_pos h1] at h ⊢
      cases f with
      | zero =>
        obtain rfl : i = 9 := by omega
        cases r <;> (unfold rd at h; simp at h)
      | succ f =>
        obtain ⟨n, t, e1, e2, e3⟩ := rd_back r f (i + 1) _ (by omega) h
        have hn := e3 (by omega)
        refine ⟨(c.toNat - 128) + 128 * n, t, ?_, ?_, fun _ => by omega⟩
        · rw [up, if_neg (by omega), e1, show ((c.toNat - 128) + 128 * n) / 128 = n by omega, show ((c.toNat - 128) + 128 * n) % 128 + 128 = c.toNat by omega]; simp
        · rw [e2, up, if_neg (by omega), show ((c.toNat - 128) + 128 * n) / 128 = n by omega, Nat.pow_succ, List.length_cons, Nat.add_mul, Prod.mk.injEq, Prod.mk.injEq]
          refine ⟨?_, by omega, rfl⟩
          rw [Nat.add_assoc, Nat.mul_comm (128 ^ i) 128, ← Nat.mul_assoc, Nat.mul_comm n 128]
    · rw [if_neg h1] at h ⊢
      split at h
      · simp at h
      rename_i h2
      split at h
      · simp at h
      rename_i h3
      rw [if_neg h2, if_neg h3]
      have hu : up f c.toNat = [c] := by cases f <;> simp [up] <;> omega
      exact ⟨c.toNat, r, by rw [hu]; rfl, by rw [hu]; rfl, fun h0 e => h3 ⟨h0, e⟩⟩

end Msg
end Go.Proofs.YtcfimfoccbaepaaDoor
