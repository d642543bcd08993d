/- bits turned within 32 in a row: the sum tells. -/
import Derived.Test.YtcfimfoccbaepaaDoorMsgUse
namespace Go.Proofs.YtcfimfoccbaepaaDoor
namespace Crc

theorem step_xor (x y : BitVec 32) (b : UInt8) : step (x ^^^ y) b = step x b ^^^ Pn 8 y := by
  unfold step
  rw [BitVec.xor_assoc, BitVec.xor_comm y, ← BitVec.xor_assoc, Pn_xor]
theorem fold_xor : ∀ (l : List UInt8) (x y : BitVec 32), l.foldl step (x ^^^ y) = l.foldl step x ^^^ Pn (8 * l.length) y
  | [], _, _ => rfl
  | b :: l, x, y => by
    rw [List.foldl_cons, List.foldl_cons, step_xor, fold_xor l, List.length_cons, ← Pn_add, show 8 + 8 * l.length = 8 * (l.length + 1) by omega]
/-- A bit that goes out one by one. -/
theorem Pn_bit (k : Nat) (hk : k < 32) : Pn k (1#32 <<< k) = 1#32 := by
  rw [Pn_low k _ (fun i hi => by rw [BitVec.getLsbD_shiftLeft]; simp [hi])]
  apply BitVec.eq_of_getLsbD_eq
  intro i hi
  rw [BitVec.getLsbD_ushiftRight, BitVec.getLsbD_shiftLeft]
  by_cases h : k + i < 32
  · simp [h]
  · have e1 : (1#32).getLsbD i = false := by
      have : i ≠ 0 := by omega
      rw [BitVec.getLsbD_one]; simp [this]
    rw [e1]; simp [h]
/-- A byte's bit, turned. -/
def flipB (b : UInt8) (q : Nat) : UInt8 := b ^^^ UInt8.ofNat (2 ^ q)
theorem step_flip (x : BitVec 32) (b : UInt8) (q : Nat) (hq : q < 8) : step x (flipB b q) = step x b ^^^ Pn (8 - q) 1#32 := by
  have e : BitVec.ofNat 32 (flipB b q).toNat = BitVec.ofNat 32 b.toNat ^^^ (1#32 <<< q) := by
    have : ∀ j : Fin 8, ∀ b : BitVec 8, BitVec.ofNat 32 (b ^^^ BitVec.ofNat 8 (2 ^ j.val)).toNat = BitVec.ofNat 32 b.toNat ^^^ (1#32 <<< j.val) := by decide +kernel
    exact this ⟨q, hq⟩ b.toBitVec
  unfold step
  rw [e, ← BitVec.xor_assoc, Pn_xor, ← Pn_bit q (by omega), ← Pn_add, show q + (8 - q) = 8 by omega, Pn_bit q (by omega)]
/-- Bytes with one bit turned. -/
def flip (l : List UInt8) (p : Nat) : List UInt8 := l.set (p / 8) (flipB (l.getD (p / 8) 0) (p % 8))
theorem flip_length (l : List UInt8) (p : Nat) : (flip l p).length = l.length := by unfold flip; simp
theorem fold_flip (l : List UInt8) (p : Nat) (hp : p < 8 * l.length) (x : BitVec 32) : (flip l p).foldl step x = l.foldl step x ^^^ Pn (8 * l.length - p) 1#32 := by
  have hlt : p / 8 < l.length := by omega
  obtain ⟨A, b, C, e, hA⟩ : ∃ A b C, l = A ++ b :: C ∧ A.length = p / 8 :=
    ⟨l.take (p / 8), l[p / 8], l.drop (p / 8 + 1), by rw [← List.drop_eq_getElem_cons hlt, List.take_append_drop], by rw [List.length_take]; omega⟩
  have e2 : flip l p = A ++ flipB b (p % 8) :: C := by
    unfold flip
    rw [e, ← hA]
    simp [List.getD_eq_getElem?_getD]
  rw [e2, e]
  simp only [List.foldl_append, List.foldl_cons, List.length_append, List.length_cons]
  rw [step_flip _ _ _ (by omega), fold_xor, ← Pn_add, show 8 - p % 8 + 8 * C.length = 8 * (A.length + (C.length + 1)) - p by omega]
/-- What k bits of a run of 32 have done: M bits stand from the run's first one to the end. -/
def Turned (l l' : List UInt8) (M k : Nat) (some_ : Bool) : Prop :=
  l'.length = l.length ∧ (some_ = false → l' = l) ∧ ∃ v : BitVec 32, (∀ j, k ≤ j → v.getLsbD j = false) ∧ (∀ x, l'.foldl step x = l.foldl step x ^^^ Pn M v) ∧ (some_ = true → v ≠ 0#32)
theorem Turned.refl (l : List UInt8) (M : Nat) : Turned l l M 0 false :=
  ⟨rfl, fun _ => rfl, 0#32, fun j _ => by simp, fun x => by rw [Pn_zero]; simp, fun h => by cases h⟩
theorem Turned.skip {l l' : List UInt8} {M k : Nat} {s : Bool} (h : Turned l l' M k s) : Turned l l' M (k + 1) s := by
  obtain ⟨h1, h2, v, h3, h4, h5⟩ := h
  exact ⟨h1, h2, v, fun j hj => h3 j (by omega), h4, h5⟩
theorem Turned.flip {l l' : List UInt8} {M k : Nat} {s : Bool} (h : Turned l l' M k s) (hk : k < 32) (hM : M ≤ 8 * l.length) (hkM : k < M) : Turned l (flip l' (8 * l.length - M + k)) M (k + 1) true := by
  obtain ⟨h1, h2, v, h3, h4, h5⟩ := h
  refine ⟨by rw [flip_length, h1], (fun h => (by cases h)), v ^^^ (1#32 <<< k), fun j hj => ?_, fun x => ?_, fun _ e => ?_⟩
  · rw [BitVec.getLsbD_xor, h3 j (by omega), BitVec.getLsbD_shiftLeft, BitVec.getLsbD_one]
    have : j - k ≠ 0 := by omega
    simp [this]
  · rw [fold_flip l' _ (by omega), h4 x, h1, Pn_xor, BitVec.xor_assoc]
    congr 2
    have e : 8 * l.length - (8 * l.length - M + k) = M - k := by omega
    rw [e, ← Pn_bit k hk, ← Pn_add, show k + (M - k) = M by omega, Pn_bit k hk]
  · have := congrArg (BitVec.getLsbD · k) e
    simp only [BitVec.getLsbD_xor, h3 k (Nat.le_refl _), BitVec.getLsbD_shiftLeft] at this
    simp [hk] at this
theorem Turned.end {l l' : List UInt8} {M k : Nat} (h : Turned l l' M k true) (s : Nat) (p : List UInt8) : onN s (p ++ l') ≠ onN s (p ++ l) := by
  obtain ⟨_, _, v, _, h4, h5⟩ := h
  intro e
  unfold onN at e
  have e2 := BitVec.eq_of_toNat_eq e
  unfold onB at e2
  rw [BitVec.not_inj, List.foldl_append, List.foldl_append, h4] at e2
  have : Pn M v = 0#32 := by
    have h := congrArg (List.foldl step (List.foldl step (~~~BitVec.ofNat 32 s) p) l ^^^ ·) e2
    simp only [← BitVec.xor_assoc, BitVec.xor_self, BitVec.zero_xor] at h
    exact h
  exact h5 rfl (Pn_inj M this)
end Crc
namespace Msg
open Go.RowKit Go.Proofs.YtcfimfoccbaepaaDoor.Mark Go.Proofs.YtcfimfoccbaepaaDoor.Num Go.Proofs.YtcfimfoccbaepaaDoor.Wire
/-- A frame's head. -/
def headF (t : List UInt8) : List UInt8 := Frame.fourL t.length ++ Frame.fourL (Crc.onN 0 (Frame.fourL t.length ++ t))
theorem headF_length (t : List UInt8) : (headF t).length = 8 := rfl
theorem putL_head (t : List UInt8) : Frame.putL t = headF t ++ t := by unfold Frame.putL headF; rw [List.append_assoc]
theorem cut_turned {t t' : List UInt8} {M k : Nat} (h : Crc.Turned t t' M k true) (ht : t.length ≤ 1048576) : Frame.cutL (headF t ++ t') = ([], [], 60) := by
  have hl := h.1
  have e : headF t ++ t' = Frame.fourL t.length ++ (Frame.fourL (Crc.onN 0 (Frame.fourL t.length ++ t)) ++ t') := by unfold headF; rw [List.append_assoc]
  have n1 : Frame.num4 (headF t ++ t') = t.length := by rw [e]; exact Frame.num4_four _ (by omega) _
  have n2 : (headF t ++ t').drop 4 = Frame.fourL (Crc.onN 0 (Frame.fourL t.length ++ t)) ++ t' := by rw [e]; rfl
  have n3 : (headF t ++ t').take 4 = Frame.fourL t.length := by rw [e]; rfl
  have n4 : (headF t ++ t').drop 8 = t' := by rw [e]; rfl
  have n5 : Frame.num4 (Frame.fourL (Crc.onN 0 (Frame.fourL t.length ++ t)) ++ t') = Crc.onN 0 (Frame.fourL t.length ++ t) := Frame.num4_four _ (Crc.onN_lt _ _) _
  unfold Frame.cutL
  rw [if_neg (by rw [List.length_append, headF_length]; omega), n1, if_neg (by omega), if_neg (by rw [List.length_append, headF_length]; omega), n2, n3, n4, n5]
  rw [if_pos]
  rw [List.take_of_length_le (by omega)]
  exact fun h2 => h.end 0 _ h2.symm
end Msg
end Go.Proofs.YtcfimfoccbaepaaDoor
