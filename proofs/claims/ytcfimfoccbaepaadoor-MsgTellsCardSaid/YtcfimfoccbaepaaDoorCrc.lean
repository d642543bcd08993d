/- crc, in plain words: bit by bit over BitVec 32; by four bits off the table; what the sum tells. -/
import Derived.Test.YtcfimfoccbaepaaDoorFrame
namespace Go.Proofs.YtcfimfoccbaepaaDoor
namespace Crc

/-- One bit goes out of the register. -/
def P (x : BitVec 32) : BitVec 32 := (x >>> 1) ^^^ (if x.getLsbD 0 then 0x82f63b78#32 else 0#32)
theorem xor_swap (x y p q : BitVec 32) : (x ^^^ y) ^^^ (p ^^^ q) = (x ^^^ p) ^^^ (y ^^^ q) := by
  apply BitVec.eq_of_getLsbD_eq
  intro i _
  simp only [BitVec.getLsbD_xor]
  cases x.getLsbD i <;> cases y.getLsbD i <;> cases p.getLsbD i <;> cases q.getLsbD i <;> rfl
theorem P_xor (a b : BitVec 32) : P (a ^^^ b) = P a ^^^ P b := by
  unfold P
  rw [BitVec.getLsbD_xor, BitVec.ushiftRight_xor_distrib, ← xor_swap]
  congr 1
  cases a.getLsbD 0 <;> cases b.getLsbD 0 <;> decide
theorem P_zero : P 0#32 = 0#32 := by decide
theorem P_inj {x : BitVec 32} (h : P x = 0#32) : x = 0#32 := by
  unfold P at h
  cases h0 : x.getLsbD 0 with
  | true =>
    rw [h0] at h
    have := congrArg (BitVec.getLsbD · 31) h
    simp at this
  | false =>
    rw [h0] at h
    simp at h
    apply BitVec.eq_of_getLsbD_eq
    intro i hi
    cases i with
    | zero => rw [h0]; simp
    | succ i =>
      have := congrArg (BitVec.getLsbD · i) h
      simp at this
      rw [show i + 1 = 1 + i by omega, this]; simp
def Pn : Nat → BitVec 32 → BitVec 32
  | 0, x => x
  | n + 1, x => Pn n (P x)
theorem Pn_xor : ∀ (n : Nat) (a b : BitVec 32), Pn n (a ^^^ b) = Pn n a ^^^ Pn n b
  | 0, _, _ => rfl
  | n + 1, a, b => by rw [Pn, P_xor, Pn_xor n, Pn, Pn]
theorem Pn_zero : ∀ n : Nat, Pn n 0#32 = 0#32
  | 0 => rfl
  | n + 1 => by rw [Pn, P_zero, Pn_zero n]
theorem Pn_inj : ∀ (n : Nat) {x : BitVec 32}, Pn n x = 0#32 → x = 0#32
  | 0, _, h => h
  | n + 1, _, h => P_inj (Pn_inj n h)
theorem Pn_add : ∀ (m n : Nat) (x : BitVec 32), Pn (m + n) x = Pn n (Pn m x)
  | 0, n, x => by rw [Nat.zero_add]; rfl
  | m + 1, n, x => by rw [show m + 1 + n = m + n + 1 by omega, Pn, Pn_add m n, Pn]
/-- Low bits nought: shifted out. -/
theorem P_shl (x : BitVec 32) (h : x.getLsbD 0 = false) : P x = x >>> 1 := by unfold P; rw [h]; simp
theorem Pn_low : ∀ (n : Nat) (x : BitVec 32), (∀ i, i < n → x.getLsbD i = false) → Pn n x = x >>> n
  | 0, x, _ => by rw [Pn]; simp
  | n + 1, x, h => by
    rw [Pn, P_shl x (h 0 (by omega)), Pn_low n (x >>> 1) (fun i hi => by rw [BitVec.getLsbD_ushiftRight]; exact h (1 + i) (by omega))]
    rw [← BitVec.shiftRight_add, Nat.add_comm]
/-- By the table: four bits. -/
def nib (x : BitVec 32) : BitVec 32 := (x >>> 4) ^^^ Pn 4 (x &&& 15#32)
theorem nib_eq (x : BitVec 32) : nib x = Pn 4 x := by
  have h : x = (x &&& 15#32) ^^^ (x &&& ~~~15#32) := by
    apply BitVec.eq_of_getLsbD_eq
    intro i hi
    simp only [BitVec.getLsbD_xor, BitVec.getLsbD_and, BitVec.getLsbD_not]
    cases x.getLsbD i <;> cases (15#32).getLsbD i <;> simp [hi]
  have hl : Pn 4 (x &&& ~~~15#32) = x >>> 4 := by
    rw [Pn_low 4 _ (fun i hi => by
      rw [BitVec.getLsbD_and, BitVec.getLsbD_not]
      have : i = 0 ∨ i = 1 ∨ i = 2 ∨ i = 3 := by omega
      rcases this with rfl | rfl | rfl | rfl <;> simp)]
    apply BitVec.eq_of_getLsbD_eq
    intro i hi
    rw [BitVec.getLsbD_ushiftRight, BitVec.getLsbD_ushiftRight, BitVec.getLsbD_and, BitVec.getLsbD_not]
    by_cases hx : 4 + i < 32
    · have : (15#32).getLsbD (4 + i) = false := by
        have : ∀ j : Fin 28, (15#32).getLsbD (4 + j.val) = false := by decide
        exact this ⟨i, by omega⟩
      rw [this]; simp [hx]
    · rw [BitVec.getLsbD_of_ge x (4 + i) (by omega)]; simp
  unfold nib
  rw [← hl]
  conv => rhs; rw [h]
  rw [Pn_xor, BitVec.xor_comm]
/-- One byte. -/
def step (x : BitVec 32) (b : UInt8) : BitVec 32 := Pn 8 (x ^^^ BitVec.ofNat 32 b.toNat)
theorem step_nib (x : BitVec 32) (b : UInt8) : nib (nib (x ^^^ BitVec.ofNat 32 b.toNat)) = step x b := by
  rw [nib_eq, nib_eq, ← Pn_add]; rfl
/-- The sum of bytes behind those of a sum. -/
def onB (s : BitVec 32) (l : List UInt8) : BitVec 32 := ~~~ (l.foldl step (~~~ s))
theorem onB_append (s : BitVec 32) (l m : List UInt8) : onB s (l ++ m) = onB (onB s l) m := by
  unfold onB; rw [List.foldl_append, BitVec.not_not]
/-- The sum as a number. -/
def onN (s : Nat) (l : List UInt8) : Nat := (onB (BitVec.ofNat 32 s) l).toNat
theorem onN_lt (s : Nat) (l : List UInt8) : onN s l < 4294967296 := (onB (BitVec.ofNat 32 s) l).isLt
theorem onN_append (s : Nat) (l m : List UInt8) : onN s (l ++ m) = onN (onN s l) m := by
  unfold onN; rw [onB_append, BitVec.ofNat_toNat, BitVec.setWidth_eq]
/-! The bit by bit form of the reference -/
/-- The register behind k bits of a byte, as the reference has it: r with the k-th bit of b. -/
def bitStep (r : BitVec 32) (b : Nat) (k : Nat) : BitVec 32 := (r >>> 1) ^^^ (if (b.testBit k) != r.getLsbD 0 then 0x82f63b78#32 else 0#32)
def bitsOf (b : Nat) : Nat → BitVec 32 → BitVec 32
  | 0, r => r
  | n + 1, r => bitStep (bitsOf b n r) b n
theorem bits_inv (b : Nat) (hb : b < 256) (r : BitVec 32) : ∀ k, bitsOf b k r ^^^ BitVec.ofNat 32 (b >>> k) = Pn k (r ^^^ BitVec.ofNat 32 b)
  | 0 => rfl
  | k + 1 => by
    rw [Pn_add k 1, ← bits_inv b hb r k]
    show bitStep (bitsOf b k r) b k ^^^ _ = P _
    generalize bitsOf b k r = x
    unfold bitStep P
    have h0 : (x ^^^ BitVec.ofNat 32 (b >>> k)).getLsbD 0 = ((b.testBit k) != x.getLsbD 0) := by
      rw [BitVec.getLsbD_xor, BitVec.getLsbD_ofNat]
      have : (b >>> k).testBit 0 = b.testBit k := by rw [Nat.testBit_shiftRight]; simp
      rw [this]
      cases b.testBit k <;> cases x.getLsbD 0 <;> simp
    have h1 : BitVec.ofNat 32 (b >>> (k + 1)) = BitVec.ofNat 32 (b >>> k) >>> 1 := by
      apply BitVec.eq_of_getLsbD_eq
      intro i hi
      rw [BitVec.getLsbD_ushiftRight, BitVec.getLsbD_ofNat, BitVec.getLsbD_ofNat, Nat.testBit_shiftRight, Nat.testBit_shiftRight]
      have hz : ∀ j, 32 ≤ j → b.testBit j = false := fun j hj => Nat.testBit_lt_two_pow (Nat.lt_of_lt_of_le hb (Nat.le_trans (show 256 ≤ 2 ^ 32 by decide) (Nat.pow_le_pow_right (by decide) hj)))
      by_cases h2 : 1 + i < 32
      · simp [hi, h2, Nat.add_assoc]
      · rw [hz (k + 1 + i) (by omega), hz (k + (1 + i)) (by omega)]; simp
    rw [h0, BitVec.ushiftRight_xor_distrib, h1, BitVec.xor_assoc, BitVec.xor_assoc]
    congr 1
    rw [BitVec.xor_comm]
theorem bits_step (b : UInt8) (r : BitVec 32) : bitsOf b.toNat 8 r = step r b := by
  have hb : b.toNat < 256 := b.toNat_lt
  have h := bits_inv b.toNat hb r 8
  rw [show b.toNat >>> 8 = 0 by rw [Nat.shiftRight_eq_div_pow]; exact Nat.div_eq_of_lt hb] at h
  simpa [step] using h

end Crc
end Go.Proofs.YtcfimfoccbaepaaDoor
