/- A number's bytes are a text of one rune just if it is a rune. -/
import Derived.Test.YtpbefdabnjdeaaaTextMore
namespace Go.Proofs.Ytpbefdabnjdeaaa
namespace Text

theorem rune_enc_none (x : Nat) (h : ¬ Scalar x) (hx : x < 2097152) : rune (enc x) = none := by
  have h' := h
  unfold Scalar at h'
  unfold enc
  rw [if_neg (by omega), if_neg (by omega)]
  split
  · obtain ⟨c, e, hc⟩ := name (224 + x / 4096) (by omega)
    obtain ⟨c1, e1, hc1⟩ := name (128 + x / 64 % 64) (by omega)
    obtain ⟨c2, e2, hc2⟩ := name (128 + x % 64) (by omega)
    have k : 64 * (64 * (c.toNat - 224) + (c1.toNat - 128)) + (c2.toNat - 128) = x := by omega
    rw [e, e1, e2]
    simp only [rune]
    rw [if_neg (by omega), if_neg (by omega), if_pos (by omega), k, if_neg (fun g => h g.2.2.2)]
  · obtain ⟨c, e, hc⟩ := name (240 + x / 262144) (by omega)
    obtain ⟨c1, e1, hc1⟩ := name (128 + x / 4096 % 64) (by omega)
    obtain ⟨c2, e2, hc2⟩ := name (128 + x / 64 % 64) (by omega)
    obtain ⟨c3, e3, hc3⟩ := name (128 + x % 64) (by omega)
    have k : 64 * (64 * (64 * (c.toNat - 240) + (c1.toNat - 128)) + (c2.toNat - 128)) + (c3.toNat - 128) = x := by omega
    rw [e, e1, e2, e3]
    simp only [rune]
    rw [if_neg (by omega), if_neg (by omega), if_neg (by omega), if_pos (by omega), k, if_neg (fun g => h g.2.2.2.2)]
theorem enc_ne (x : Nat) : enc x ≠ [] := by
  intro e; have := enc_length x; rw [e] at this; simp at this
theorem runes_enc (x : Nat) (hx : x < 2097152) : runes (enc x) = if Scalar x then some [x] else none := by
  split
  · rename_i h
    have := runes_cat [x] (by simpa using h)
    simpa [cat] using this
  · rename_i h
    exact rune_none (rune_enc_none x h hx) (enc_ne x)
theorem runes_hash (x : Nat) (hx : x < 2097152) : runes (35 :: enc x) = if Scalar x then some [35, x] else none := by
  have h := runes_behind [35] (enc x) (by decide)
  rw [runes_enc x hx] at h
  have e : cat [35] ++ enc x = 35 :: enc x := by rw [show cat [35] = [35] by decide]; rfl
  rw [e] at h
  rw [h]
  split <;> rfl
theorem kind_hash (x : Nat) : kind (some [35, x]) = if ctrl x then 0 else 1 := by
  rw [kind_some]
  cases h : ctrl x
  · have hc : ∀ y ∈ [35, x], ctrl y = false := fun y hy => by
      rcases List.mem_cons.1 hy with rfl | hy
      · decide
      · rw [List.mem_singleton.1 hy, h]
    rw [if_pos ⟨by simp, hc⟩]
    rfl
  · rw [if_neg (fun g => by have := g.2 x (by simp); rw [h] at this; cases this)]
    rfl
theorem key_hash (x : Nat) : (!(kind (some [35, x]) == 0)) = !ctrl x := by
  rw [kind_hash]; cases ctrl x <;> rfl

end Text
end Go.Proofs.Ytpbefdabnjdeaaa
