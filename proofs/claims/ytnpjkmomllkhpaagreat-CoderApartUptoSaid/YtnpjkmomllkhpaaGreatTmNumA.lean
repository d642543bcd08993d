/- Merged texts: NumPlain, Num, NumTurn. -/
import Derived.WalkKit
import Derived.Lib.BitFns
import Derived.Test.YtnpjkmomllkhpaaGreatTmStr
import Derived.Test.YtnpjkmomllkhpaaGreatProg
import Derived.WalkSpells
import Derived.WalkLawsBesides
import Derived.Deep.LoopGhost
import Derived.Lib.Hide
import Derived.Laws.Externs
namespace Go.Proofs.YtnpjkmomllkhpaaGreat
namespace Num

/-- A byte as a value. -/
def bv (b : UInt8) : Value := .int .u8 (b.toNat : Int)
/-- The bytes of a number, at most f + 1 of them. -/
def up : Nat → Nat → List UInt8
  | 0, n => [UInt8.ofNat n]
  | f + 1, n => if n < 128 then [UInt8.ofNat n] else UInt8.ofNat (n % 128 + 128) :: up f (n / 128)
/-- The bytes of a number below 2^64. -/
def upL (n : Nat) : List UInt8 := up 9 n

/-- The first k bytes of a number of more than k bytes. -/
def pre (n k : Nat) : List UInt8 := (List.range k).map fun j => UInt8.ofNat (n / 128 ^ j % 128 + 128)

theorem pre_length (n k : Nat) : (pre n k).length = k := by simp [pre]
theorem pre_succ (n k : Nat) : pre n (k + 1) = pre n k ++ [UInt8.ofNat (n / 128 ^ k % 128 + 128)] := by
  simp [pre, List.range_succ]
theorem pre_shift (n k : Nat) : pre n (k + 1) = UInt8.ofNat (n % 128 + 128) :: pre (n / 128) k := by
  simp only [pre, List.range_succ_eq_map, List.map_cons, List.map_map, Nat.pow_zero, Nat.div_one]
  congr 1
  refine List.map_congr_left fun j _ => ?_
  simp only [Function.comp, Nat.succ_eq_add_one]
  rw [Nat.pow_succ, Nat.mul_comm, Nat.div_div_eq_div_mul]

theorem up_pre : ∀ (f k n : Nat), k ≤ f → n / 128 ^ k < 128 → (k = 0 ∨ n / 128 ^ k ≠ 0) → up f n = pre n k ++ [UInt8.ofNat (n / 128 ^ k)] := by
  intro f
  induction f with
  | zero =>
    intro k n hk h _
    obtain rfl : k = 0 := by omega
    simp [up, pre]
  | succ f ih =>
    intro k n hk h h0
    cases k with
    | zero => simp at h; simp [up, pre, h]
    | succ k =>
      have hn : ¬ n < 128 := by
        intro hlt
        have e : n / 128 ^ (k + 1) = n / 128 / 128 ^ k := by rw [Nat.pow_succ, Nat.mul_comm, Nat.div_div_eq_div_mul]
        rw [e, Nat.div_eq_of_lt hlt] at h0
        simp at h0
      have e : n / 128 ^ (k + 1) = n / 128 / 128 ^ k := by rw [Nat.pow_succ, Nat.mul_comm, Nat.div_div_eq_div_mul]
      rw [e] at h h0 ⊢
      rw [pre_shift, up, if_neg hn, ih k (n / 128) (by omega) h (by right; rcases h0 with h0 | h0; omega; exact h0)]
      rfl

/-- What num.Read makes of bytes: i bytes have been taken, s is what they come to. -/
def rd : List UInt8 → Nat → Nat → Nat × Nat × Int
  | [], i, _ => if i = 10 then (0, 0, 9) else (0, 0, 20)
  | c :: r, i, s =>
    if i = 10 then (0, 0, 9)
    else if 128 ≤ c.toNat then rd r (i + 1) (s + (c.toNat - 128) * 128 ^ i)
    else if i = 9 ∧ 1 < c.toNat then (0, 0, 9)
    else if 0 < i ∧ c.toNat = 0 then (0, 0, 8)
    else (s + c.toNat * 128 ^ i, i + 1, 0)
def rdL (l : List UInt8) : Nat × Nat × Int := rd l 0 0

theorem ofNat_low (n : Nat) (h : n < 256) : (UInt8.ofNat n).toNat = n := by simp; omega

theorem rd_up (t : List UInt8) : ∀ (f n i s : Nat), i + f = 9 → n < 128 ^ (f + 1) → n * 128 ^ i < 18446744073709551616 → (i = 0 ∨ n ≠ 0) →
    rd (up f n ++ t) i s = (s + n * 128 ^ i, i + (up f n).length, 0) := by
  intro f
  induction f with
  | zero =>
    intro n i s hi hn hb h0
    obtain rfl : i = 9 := by omega
    have h1 : n ≤ 1 := by omega
    have h2 := ofNat_low n (by omega)
    simp only [up, List.cons_append, List.nil_append, rd, h2, List.length_cons, List.length_nil]
    rw [if_neg (by omega), if_neg (by omega), if_neg (by omega), if_neg (by omega)]
  | succ f ih =>
    intro n i s hi hn hb h0
    by_cases hlt : n < 128
    · have h2 := ofNat_low n (by omega)
      simp only [up, if_pos hlt, List.cons_append, List.nil_append, rd, h2, List.length_cons, List.length_nil]
      rw [if_neg (by omega), if_neg (by omega), if_neg (by omega), if_neg (by omega)]
    · have h2 := ofNat_low (n % 128 + 128) (by omega)
      simp only [up, if_neg hlt, List.cons_append, rd, h2, List.length_cons]
      have e : n % 128 * 128 ^ i + n / 128 * 128 ^ (i + 1) = n * 128 ^ i := by
        rw [Nat.pow_succ, Nat.mul_comm (128 ^ i) 128, ← Nat.mul_assoc, ← Nat.add_mul]
        congr 1; omega
      rw [if_neg (by omega), if_pos (by omega), ih (n / 128) (i + 1) _ (by omega) (by rw [Nat.div_lt_iff_lt_mul (by decide)]; rwa [Nat.pow_succ] at hn) (by omega) (by right; omega)]
      simp only [Prod.mk.injEq]
      refine ⟨?_, by omega, trivial⟩
      rw [show n % 128 + 128 - 128 = n % 128 by omega]; omega

theorem rd_upL (n : Nat) (h : n < 18446744073709551616) (t : List UInt8) : rdL (upL n ++ t) = (n, (upL n).length, 0) := by
  have := rd_up t 9 n 0 0 rfl (Nat.lt_of_lt_of_le h (by decide)) (by simpa using h) (.inl rfl)
  simpa [rdL, upL] using this

theorem rd_cut : ∀ (f n k i s : Nat), i + f = 9 → k < (up f n).length → rd ((up f n).take k) i s = (0, 0, 20) := by
  intro f
  induction f with
  | zero =>
    intro n k i s hi hk
    obtain rfl : k = 0 := by simpa [up] using hk
    simp only [List.take_zero, rd]; rw [if_neg (by omega)]
  | succ f ih =>
    intro n k i s hi hk
    cases k with
    | zero => simp only [List.take_zero, rd]; rw [if_neg (by omega)]
    | succ k =>
      by_cases hlt : n < 128
      · simp [up, hlt] at hk
      · have h2 := ofNat_low (n % 128 + 128) (by omega)
        simp only [up, if_neg hlt, List.length_cons, Nat.add_lt_add_iff_right] at hk
        simp only [up, if_neg hlt, List.take_succ_cons, rd, h2]
        rw [if_neg (by omega), if_pos (by omega)]
        exact ih _ _ _ _ (by omega) hk

theorem rdL_cut (n k : Nat) (hk : k < (upL n).length) : rdL ((upL n).take k) = (0, 0, 20) := rd_cut 9 n k 0 0 rfl hk

theorem up_length : ∀ (f n : Nat), 1 ≤ (up f n).length ∧ (up f n).length ≤ f + 1 := by
  intro f
  induction f with
  | zero => intro n; simp [up]
  | succ f ih =>
    intro n
    by_cases hlt : n < 128
    · simp [up, hlt]
    · have := ih (n / 128); simp [up, hlt]; omega
theorem upL_length (n : Nat) : 1 ≤ (upL n).length ∧ (upL n).length ≤ 10 := up_length 9 n

theorem up_mono : ∀ (f a b : Nat), a ≤ b → (up f a).length ≤ (up f b).length := by
  intro f
  induction f with
  | zero => intro a b _; simp [up]
  | succ f ih =>
    intro a b h
    by_cases ha : a < 128
    · have := up_length (f + 1) b; simp only [up, if_pos ha, List.length_cons, List.length_nil] at *; omega
    · have hb : ¬ b < 128 := by omega
      simp only [up, if_neg ha, if_neg hb, List.length_cons]
      have := ih (a / 128) (b / 128) (Nat.div_le_div_right h); omega

theorem upL_inj (a b : Nat) (ha : a < 18446744073709551616) (hb : b < 18446744073709551616) (h : upL a = upL b) : a = b := by
  have h1 := rd_upL a ha []; have h2 := rd_upL b hb []
  rw [h] at h1; rw [h1] at h2; simpa using h2

/-- num.Turn, num.Back. -/
def turn (i : Int) : Int := if 0 ≤ i then 2 * i else -2 * i - 1
def back (n : Int) : Int := if n % 2 = 0 then n / 2 else -(n / 2) - 1
theorem back_turn (i : Int) : back (turn i) = i := by unfold back turn; split <;> split <;> omega
theorem turn_back (n : Int) (h : 0 ≤ n) : turn (back n) = n := by unfold back turn; split <;> split <;> omega
theorem turn_bound (i : Int) (h1 : -9223372036854775808 ≤ i) (h2 : i ≤ 9223372036854775807) : 0 ≤ turn i ∧ turn i ≤ 18446744073709551615 := by unfold turn; split <;> omega
theorem back_bound (n : Int) (h1 : 0 ≤ n) (h2 : n ≤ 18446744073709551615) : -9223372036854775808 ≤ back n ∧ back n ≤ 9223372036854775807 := by unfold back; split <;> omega

/-- The length, as num.Size reckons it. -/
theorem up_size : ∀ (f n : Nat), n < 128 ^ (f + 1) → n < 18446744073709551616 → (up f n).length = (max 1 (Lib.bitLen n) + 6) / 7 := by
  intro f
  induction f with
  | zero =>
    intro n h hb
    have := Lib.bitLen_le n 7 (by omega) (by simpa using h)
    simp only [up, List.length_cons, List.length_nil]; omega
  | succ f ih =>
    intro n h hb
    by_cases hlt : n < 128
    · have := Lib.bitLen_le n 7 (by omega) (by simpa using hlt)
      simp only [up, if_pos hlt, List.length_cons, List.length_nil]; omega
    · have h1 := Lib.bitLen_shift 7 n (by simpa using Nat.le_of_not_lt hlt) (by simpa using hb)
      have h2 := ih (n / 128) (by rw [Nat.div_lt_iff_lt_mul (by decide)]; rwa [Nat.pow_succ] at h) (by omega)
      have h3 : 1 ≤ Lib.bitLen (n / 128) := by
        rw [Lib.bitLen_half (n / 128) (by omega) (by simp; omega)]; omega
      simp only [up, if_neg hlt, List.length_cons, h2, h1]
      rw [show (2 : Nat) ^ 7 = 128 by decide] at *
      omega
theorem bitLen_or1 (n : Nat) (hb : n < 18446744073709551616) : Lib.bitLen (n ||| 1) = max 1 (Lib.bitLen n) := by
  have hlt : n ||| 1 < 2 ^ 64 := Nat.or_lt_two_pow (by simpa using hb) (by decide)
  have hne : n ||| 1 ≠ 0 := by
    intro e
    have : (n ||| 1) % 2 = 1 := by rw [Nat.or_mod_two_eq_one]; simp
    omega
  have hh : (n ||| 1) / 2 = n / 2 := by
    rw [Nat.or_div_two]; simp
  rw [Lib.bitLen_half _ hne hlt, hh]
  by_cases h0 : n = 0
  · subst h0; decide
  · rw [Lib.bitLen_half n h0 (by simpa using hb)]; omega
theorem upL_size (n : Nat) (hb : n < 18446744073709551616) : (upL n).length = (Lib.bitLen (n ||| 1) + 6) / 7 := by
  rw [bitLen_or1 n hb]; exact up_size 9 n (Nat.lt_of_lt_of_le hb (by decide)) hb

theorem rd_step (c : UInt8) (r : List UInt8) (i s : Nat) (hi : i < 10) : rd (c :: r) i s =
    if 128 ≤ c.toNat then rd r (i + 1) (s + (c.toNat - 128) * 128 ^ i) else if i = 9 ∧ 1 < c.toNat then (0, 0, 9) else if 0 < i ∧ c.toNat = 0 then (0, 0, 8) else (s + c.toNat * 128 ^ i, i + 1, 0) := by
  simp only [rd]; rw [if_neg (by omega)]
theorem or_shift (sm k g : Nat) (hlt : sm < 128 ^ k) (hk : k < 10) (hg : g < 128) (h9 : k = 9 → g ≤ 1) :
    bits BinOp.or IntKind.u64 (sm : Int) (IntKind.u64.wrap ((g : Int) * 2 ^ (7 * k))) = ((sm + g * 128 ^ k : Nat) : Int) := by
  have e2 : (128 : Nat) ^ k = 2 ^ (7 * k) := by rw [Nat.pow_mul]
  have hb : g * 128 ^ k < 18446744073709551616 := by
    by_cases h : k = 9
    · have := h9 h; subst h; omega
    · have h1 : (128 : Nat) ^ k ≤ 128 ^ 8 := Nat.pow_le_pow_right (by decide) (by omega)
      have h2 : g * 128 ^ k ≤ 127 * 128 ^ 8 := Nat.mul_le_mul (by omega) h1
      omega
  have hs : sm < 18446744073709551616 := by
    have h1 : (128 : Nat) ^ k ≤ 128 ^ 9 := Nat.pow_le_pow_right (by decide) (by omega)
    omega
  have e3 : (g : Int) * 2 ^ (7 * k) = ((g * 128 ^ k : Nat) : Int) := by rw [e2]; push_cast; rfl
  rw [e3, IntKind.wrap_u64, Int.emod_eq_of_lt (by omega) (by omega), u64_or_nat sm (g * 128 ^ k) hs hb]
  congr 1
  rw [Nat.or_comm, e2, nat_join (7 * k) (g * 2 ^ (7 * k)) sm (by simp) (by rw [← e2]; exact hlt), Nat.add_comm]
theorem ret3 {a a' b b' c c' : Int} (h1 : a = a') (h2 : b = b') (h3 : c = c') : Ending.returned (.tuple #[.int .u64 a, .int .i64 b, .int .i64 c]) = Ending.returned (.tuple #[.int .u64 a', .int .i64 b', .int .i64 c']) := by rw [h1, h2, h3]

theorem read_go (s : ByteArray) (k sm g : Nat) (hsz : k < s.size) (h10 : k < 10) (hg : g = s[k].toNat % 128) (hrd : rdL s.data.toList = rd (s.data.toList.drop k) k sm) (hlt : sm < 128 ^ k)
    (hc : (128 : Int) ≤ (s[k].toNat : Int)) : ∃ (k1 sm1 : Nat) (x : Int), k1 ≤ 10 ∧ k1 ≤ s.size ∧ Value.int .i64 ((k : Int) + 1) = .int .i64 k1 ∧
      Value.int .u64 (bits BinOp.or IntKind.u64 (sm : Int) (IntKind.u64.wrap ((g : Int) * 2 ^ (7 * k)))) = .int .u64 x ∧ (k1 < 10 → x = sm1 ∧ sm1 < 128 ^ k1) ∧ rdL s.data.toList = rd (s.data.toList.drop k1) k1 sm1 := by
  have := s[k].toNat_lt
  refine ⟨k + 1, sm + g * 128 ^ k, _, by omega, by omega, rfl, rfl, fun h => ⟨or_shift sm k g hlt h10 (by omega) (by omega), ?_⟩, ?_⟩
  · rw [Nat.pow_succ]
    have : g * 128 ^ k ≤ 127 * 128 ^ k := Nat.mul_le_mul_right _ (by omega)
    omega
  · rw [hrd, Str.drop_at s k hsz, rd_step _ _ _ _ h10, if_pos (by omega), show s[k].toNat - 128 = g by omega]
theorem read_over (s : ByteArray) (k sm g : Nat) (hsz : k < s.size) (h10 : k < 10) (hg : g = s[k].toNat % 128) (hrd : rdL s.data.toList = rd (s.data.toList.drop k) k sm)
    (hc : (s[k].toNat : Int) < 128) (h9 : (k : Int) = 9) (h1 : (1 : Int) < g) : rdL s.data.toList = (0, 0, 9) := by
  rw [hrd, Str.drop_at s k hsz, rd_step _ _ _ _ h10, if_neg (by omega), if_pos (by omega)]
theorem read_form (s : ByteArray) (k sm g : Nat) (hsz : k < s.size) (h10 : k < 10) (hg : g = s[k].toNat % 128) (hrd : rdL s.data.toList = rd (s.data.toList.drop k) k sm)
    (hc : (s[k].toNat : Int) < 128) (h0 : 0 < k) (h1 : ((g : Int) == 0) = true) : rdL s.data.toList = (0, 0, 8) := by
  have : g = 0 := by simpa using h1
  rw [hrd, Str.drop_at s k hsz, rd_step _ _ _ _ h10, if_neg (by omega), if_neg (by omega), if_pos (by omega)]
theorem read_val (s : ByteArray) (k sm g : Nat) (hsz : k < s.size) (h10 : k < 10) (hg : g = s[k].toNat % 128) (hrd : rdL s.data.toList = rd (s.data.toList.drop k) k sm) (hlt : sm < 128 ^ k)
    (hc : (s[k].toNat : Int) < 128) (h9 : k = 9 → (g : Int) ≤ 1) (h0 : 0 < k → ((g : Int) == 0) = false) :
    bits BinOp.or IntKind.u64 (sm : Int) (IntKind.u64.wrap ((g : Int) * 2 ^ (7 * k))) = ((rdL s.data.toList).1 : Int) ∧ (k : Int) + 1 = ((rdL s.data.toList).2.1 : Int) ∧ (0 : Int) = (rdL s.data.toList).2.2 := by
  have h0' : 0 < k → g ≠ 0 := fun h => by simpa using h0 h
  rw [hrd, Str.drop_at s k hsz, rd_step _ _ _ _ h10, if_neg (by omega), if_neg (by omega), if_neg (by intro h; have := h0' h.1; omega)]
  rw [or_shift sm k g hlt h10 (by omega) (by omega), show s[k].toNat = g by omega]
  simp

theorem wrap9 (g : Nat) (h : (g : Int) ≤ 1) : IntKind.u64.wrap ((g : Int) * 2 ^ (7 * 9)) = (g : Int) * 9223372036854775808 := by
  rw [IntKind.wrap_u64, show (2 : Int) ^ (7 * 9) = 9223372036854775808 by decide]; omega

theorem bits_xor_top (a : Int) (h1 : 0 ≤ a) (h2 : a < 18446744073709551616) : bits BinOp.xor IntKind.u64 a 18446744073709551615 = 18446744073709551615 - a := by
  obtain ⟨n, rfl⟩ := Int.eq_ofNat_of_zero_le h1
  have hx : n ^^^ 18446744073709551615 = 18446744073709551615 - n := by
    have : (BitVec.ofNat 64 n ^^^ BitVec.allOnes 64).toNat = (~~~ BitVec.ofNat 64 n).toNat := by rw [BitVec.xor_allOnes]
    rw [BitVec.toNat_xor, BitVec.toNat_not] at this
    simpa [Nat.mod_eq_of_lt (show n < 2 ^ 64 by omega)] using this
  have := u64_xor_nat n 18446744073709551615 (by omega) (by decide)
  rw [hx] at this
  refine this.trans ?_
  omega
theorem turn_bits (a : Int) (h1 : -9223372036854775808 ≤ a) (h2 : a ≤ 9223372036854775807) :
    bits BinOp.xor IntKind.u64 (IntKind.u64.wrap (IntKind.u64.wrap a * 2)) (IntKind.u64.wrap (a / 9223372036854775808)) = turn a := by
  simp only [IntKind.wrap_u64]
  unfold turn
  split
  · rw [show a / 9223372036854775808 = 0 by omega]
    obtain ⟨n, hn⟩ := Int.eq_ofNat_of_zero_le (show 0 ≤ a % 18446744073709551616 * 2 % 18446744073709551616 by omega)
    have := u64_xor_nat n 0 (by omega) (by decide)
    rw [hn]
    refine this.trans ?_
    rw [Nat.xor_zero]; omega
  · rw [show a / 9223372036854775808 % 18446744073709551616 = 18446744073709551615 by omega, bits_xor_top _ (by omega) (by omega)]
    omega
theorem and1 (n : Int) (h1 : 0 ≤ n) (h2 : n ≤ 18446744073709551615) : bits BinOp.and IntKind.u64 n 1 = n % 2 := by
  obtain ⟨m, rfl⟩ := Int.eq_ofNat_of_zero_le h1
  refine (u64_and_nat m 1 (by omega) (by decide)).trans ?_
  rw [nat_mask1]; omega
theorem toNat_ofInt64 (a : Int) : ((BitVec.ofInt 64 a).toNat : Int) = a % 18446744073709551616 := by
  rw [BitVec.toNat_ofInt]; simp only [Nat.reducePow]; omega
theorem wrap_i64 (m : Int) : IntKind.i64.wrap m = if 9223372036854775808 ≤ m % 18446744073709551616 then m % 18446744073709551616 - 18446744073709551616 else m % 18446744073709551616 := by
  simp [IntKind.wrap, IntKind.bits, IntKind.signed]
theorem xor_i64_zero (a : Int) (h1 : -9223372036854775808 ≤ a) (h2 : a ≤ 9223372036854775807) : bits BinOp.xor IntKind.i64 a 0 = a := by
  have e : bits BinOp.xor IntKind.i64 a 0 = IntKind.i64.wrap ((BitVec.ofInt 64 a ^^^ BitVec.ofInt 64 0).toNat : Int) := rfl
  have e0 : BitVec.ofInt 64 0 = 0#64 := by decide
  rw [e, e0, BitVec.xor_zero, toNat_ofInt64, wrap_i64]
  split <;> omega
theorem xor_i64_neg1 (a : Int) (h1 : -9223372036854775808 ≤ a) (h2 : a ≤ 9223372036854775807) : bits BinOp.xor IntKind.i64 a (-1) = -1 - a := by
  have e : bits BinOp.xor IntKind.i64 a (-1) = IntKind.i64.wrap ((BitVec.ofInt 64 a ^^^ BitVec.ofInt 64 (-1)).toNat : Int) := rfl
  have e0 : BitVec.ofInt 64 (-1) = BitVec.allOnes 64 := by decide
  have h3 := toNat_ofInt64 a
  have h4 := (BitVec.ofInt 64 a).isLt
  rw [e, e0, BitVec.xor_allOnes, BitVec.toNat_not, wrap_i64]
  split <;> omega
theorem back_bits (n : Int) (h1 : 0 ≤ n) (h2 : n ≤ 18446744073709551615) :
    bits BinOp.xor IntKind.i64 (n / 2) (-(n % 2)) = back n := by
  unfold back
  rcases Int.emod_two_eq n with h | h
  · rw [if_pos h, h]; exact xor_i64_zero _ (by omega) (by omega)
  · rw [if_neg (by omega), h, xor_i64_neg1 _ (by omega) (by omega)]; omega

theorem up_round (n k m : Nat) (cs : List Value) (v : Value) (hm : m = n / 128 ^ k) (h2 : n ≤ 18446744073709551615) (hz : ¬ m < 128) (hl : cs.length = 10) (hpre : cs.take k = (pre n k).map bv)
    (hv : v = .int .u8 ((m : Int) % 128 + 128)) (w : World) (T : TypeId) : ∃ k1 : Nat, k1 ≤ 9 ∧ Value.int .i64 ((k : Int) + 1) = .int .i64 k1 ∧ Value.int .u64 ((m : Int) / 128) = .int .u64 ((n / 128 ^ k1 : Nat) : Int) ∧
      (k1 = 0 ∨ n / 128 ^ k1 ≠ 0) ∧ ∃ cs1 : List Value, cs1.length = 10 ∧ cs1.take k1 = (pre n k1).map bv ∧ w.alloc (.cells (cs.set k v).toArray T) = w.alloc (.cells cs1.toArray T) := by
  have e : n / 128 ^ (k + 1) = m / 128 := by rw [Nat.pow_succ, ← Nat.div_div_eq_div_mul, ← hm]
  have hk9 : k + 1 ≤ 9 := by
    rcases Nat.lt_or_ge k 9 with h | h
    · exact h
    · exfalso
      have h1 : (128 : Nat) ^ 9 ≤ 128 ^ k := Nat.pow_le_pow_right (by decide) h
      have h3 : n / 128 ^ k ≤ n / 128 ^ 9 := Nat.div_le_div_left h1 (by decide)
      omega
  refine ⟨k + 1, hk9, rfl, ?_, ?_, cs.set k v, by simpa using hl, ?_, rfl⟩
  · rw [e]; rfl
  · right; rw [e]; omega
  · rw [pre_succ, List.map_append, ← hpre, List.take_succ_eq_append_getElem (by simp; omega), List.getElem_set_self, ← hm, hv]
    rw [List.take_set_of_le (Nat.le_refl k)]
    congr 1
    simp [bv]; omega
theorem up_last (n k m : Nat) (cs : List Value) (hk : k ≤ 9) (hm : m = n / 128 ^ k) (h0 : k = 0 ∨ n / 128 ^ k ≠ 0) (hz : m < 128) (hl : cs.length = 10) (hpre : cs.take k = (pre n k).map bv) :
    (upL n).length = k + 1 ∧ ∀ j (_ : j < (upL n).length), (cs.set k (.int .u8 ((m : Int) % 128)))[j]? = some (.int .u8 ((upL n)[j].toNat : Int)) := by
  have e : upL n = pre n k ++ [UInt8.ofNat m] := by rw [hm]; exact up_pre 9 k n hk (by omega) h0
  have el : (upL n).length = k + 1 := by rw [e, List.length_append, pre_length]; rfl
  refine ⟨el, fun j hj => ?_⟩
  have ht : (cs.set k (Value.int .u8 ((m : Int) % 128))).take (k + 1) = (upL n).map bv := by
    rw [e, List.map_append, ← hpre, List.take_succ_eq_append_getElem (by simp; omega), List.getElem_set_self, List.take_set_of_le (Nat.le_refl k)]
    congr 1
    simp [bv]; omega
  have := congrArg (fun l => l[j]?) ht
  simp only [List.getElem?_take_of_lt (show j < k + 1 by omega), List.getElem?_map, List.getElem?_eq_getElem hj] at this
  exact this

/-- Numbers' bytes, one behind the other. -/
def cat (l : List Nat) : List UInt8 := l.flatMap upL
theorem cat_nil : cat [] = [] := rfl
theorem cat_cons (n : Nat) (l : List Nat) : cat (n :: l) = upL n ++ cat l := by simp [cat]
theorem cat_append (l m : List Nat) : cat (l ++ m) = cat l ++ cat m := by simp [cat]
theorem cat_length : ∀ l : List Nat, (cat l).length ≤ 10 * l.length
  | [] => by simp [cat]
  | n :: l => by have := cat_length l; have := upL_length n; rw [cat_cons, List.length_append, List.length_cons]; omega
theorem cat_take (l : List Nat) (k : Nat) (h : k < l.length) : cat (l.take (k + 1)) = cat (l.take k) ++ upL l[k] := by
  rw [List.take_succ_eq_append_getElem h, cat_append]; simp [cat]
theorem cat_drop (l : List Nat) (k : Nat) (h : k < l.length) : cat (l.drop k) = upL l[k] ++ cat (l.drop (k + 1)) := by
  rw [List.drop_eq_getElem_cons h, cat_cons]

end Num
end Go.Proofs.YtnpjkmomllkhpaaGreat

namespace Go.Proofs.YtnpjkmomllkhpaaGreat
namespace Num
open Go.RowKit

set_option maxRecDepth 100000 in
set_option maxHeartbeats 400000 in
theorem read_any (s : ByteArray) (w : World) (hs : s.size ≤ maxLen) :
    Calls Tryz.prog 106 #[.string s] w fun e w' => e = .returned (.tuple #[.int .u64 ((rdL s.data.toList).1 : Int), .int .i64 ((rdL s.data.toList).2.1 : Int), .int .i64 (rdL s.data.toList).2.2]) ∧ w = w' := by
  unfold maxLen at hs
  go_enter Tryz.func106, Tryz.ntmps106
  go_wp2
  go_step3
  go_wp2
  go_step3
  go_wp2
  go_loop [5, 8] (fun sum c => ∃ (k sm : Nat) (x : Int), k ≤ 10 ∧ k ≤ s.size ∧ c = .int .i64 k ∧ sum = .int .u64 x ∧ (k < 10 → x = sm ∧ sm < 128 ^ k) ∧ rdL s.data.toList = rd (s.data.toList.drop k) k sm) (fun _ c => 10 - (intOf c).toNat)
  case atStart => exact ⟨0, 0, 0, by omega, by omega, rfl, rfl, fun _ => ⟨rfl, by decide⟩, rfl⟩
  case round =>
    obtain ⟨k, sm, x, hk, hks, rfl, rfl, hsm, hrd⟩ := hrel
    have Hrd := Lib.hid hrd
    have Hsm := Lib.hid hsm
    clear hrd hsm
    by_cases h10 : k < 10
    · obtain ⟨hx, hlt⟩ := Hsm.out h10
      subst hx
      clear Hsm
      by_cases hsz : k < s.size
      · have hne : ((k : Int) == (s.size : Int)) = false := by rw [beq_eq_false_iff_ne]; omega
        obtain ⟨g, hg⟩ : ∃ g : Nat, g = s[k].toNat % 128 := ⟨_, rfl⟩
        have e1 : IntKind.u64.wrap (bits BinOp.and IntKind.u8 (↑s[k].toNat) 127) = (g : Int) := by
          have := s[k].toNat_lt
          rw [u8_and _ _ (by omega) (by omega) (by omega) (by omega), IntKind.wrap_u64, hg]
          simp only [Int.toNat_natCast, Int.reduceToNat, nat_mask7]; omega
        have Hg := Lib.hid hg
        clear hg
        go_wp2
        · exact ⟨read_go s k sm g hsz h10 Hg.out Hrd.out hlt (by assumption), by simp [intOf]; omega⟩
        all_goals go_ret3
        · rw [read_over s k sm g hsz h10 Hg.out Hrd.out (by assumption) (by assumption) (by assumption)]
          exact ⟨rfl, rfl⟩
        · rw [read_form s k sm g hsz h10 Hg.out Hrd.out (by assumption) (by omega) (by assumption)]
          exact ⟨rfl, rfl⟩
        · have hv := read_val s k sm g hsz h10 Hg.out Hrd.out hlt (by assumption) (fun _ => by assumption) (fun _ => by assumption)
          obtain rfl : k = 9 := by omega
          exact ⟨ret3 (by rw [← wrap9 g (by assumption)]; exact hv.1) hv.2.1 hv.2.2, rfl⟩
        · rw [read_form s k sm g hsz h10 Hg.out Hrd.out (by assumption) (by assumption) (by assumption)]
          exact ⟨rfl, rfl⟩
        · have hv := read_val s k sm g hsz h10 Hg.out Hrd.out hlt (by assumption) (fun _ => by omega) (fun _ => by assumption)
          exact ⟨ret3 hv.1 hv.2.1 hv.2.2, rfl⟩
        · have hv := read_val s k sm g hsz h10 Hg.out Hrd.out hlt (by assumption) (fun _ => by omega) (fun h => absurd h (by assumption))
          exact ⟨ret3 hv.1 hv.2.1 hv.2.2, rfl⟩
      · obtain rfl : k = s.size := by omega
        go_wp2
        go_ret3
        refine ⟨?_, rfl⟩
        rw [Hrd.out, List.drop_eq_nil_of_le (by simp), rd, if_neg (by omega)]
        rfl
    · obtain rfl : k = 10 := by omega
      go_wp2
      go_ret3
      refine ⟨?_, rfl⟩
      have e : rd (List.drop 10 s.data.toList) 10 sm = (0, 0, 9) := by cases List.drop 10 s.data.toList <;> simp [rd]
      rw [Hrd.out, e]
      rfl

set_option maxHeartbeats 400000 in
theorem up_any (n : Nat) (w : World) (h2 : n ≤ 18446744073709551615) :
    Calls Tryz.prog 78 #[.int .u64 n] w fun e w' => e = .returned (.string ⟨(upL n).toArray⟩) ∧ Below w.heap.size w w' := by
  go_enter Tryz.func78, Tryz.ntmps78
  go_wp2
  go_step3
  go_wp2
  go_step3
  go_wp2
  go_loopw [0, 4] (fun m sz wr => ∃ k : Nat, k ≤ 9 ∧ sz = .int .i64 k ∧ m = .int .u64 ((n / 128 ^ k : Nat) : Int) ∧ ((k = 0 ∨ n / 128 ^ k ≠ 0)) ∧ ∃ cs : List Value, cs.length = 10 ∧ cs.take k = (pre n k).map bv ∧ wr = w.alloc (.cells cs.toArray 159)) (fun _ sz _ => 10 - (intOf sz).toNat)
  case atStart => exact ⟨0, by omega, rfl, by simp, .inl rfl, List.replicate 10 (.int .u8 0), rfl, rfl, rfl⟩
  case round =>
    obtain ⟨k, hk, rfl, rfl, h0, cs, hl, hpre, rfl⟩ := hrel
    have Hpre := Lib.hid hpre
    have H0 := Lib.hid h0
    clear hpre h0
    obtain ⟨m, hm⟩ : ∃ m : Nat, m = n / 128 ^ k := ⟨_, rfl⟩
    rw [← hm]
    have Hm := Lib.hid hm
    have hmb : m ≤ 18446744073709551615 := by rw [hm]; exact Nat.le_trans (Nat.div_le_self _ _) h2
    clear hm
    obtain ⟨c0, g1⟩ : ∃ c0, cs[k]? = some c0 := ⟨_, List.getElem?_eq_getElem (by omega)⟩
    have g2 : (cs.set k (Value.int .u8 ((m : Int) % 128)))[k]? = some (Value.int .u8 ((m : Int) % 128)) := List.getElem?_set_self (by omega)
    have Hl := Lib.hid hl
    clear hl
    have e1 : bits BinOp.and IntKind.u64 (m : Int) 127 % 256 = ((m % 128 : Nat) : Int) := by
      rw [show (127 : Int) = ((127 : Nat) : Int) from rfl, u64_and_nat m 127 (by omega) (by decide), nat_mask7]; omega
    have e2 : bits BinOp.or IntKind.u8 ((m : Int) % 128) 128 = ((m % 128 + 128 : Nat) : Int) := by
      rw [show (128 : Int) = ((128 : Nat) : Int) from rfl, show ((m : Int) % (128 : Nat)) = ((m % 128 : Nat) : Int) by omega, u8_or_nat (m % 128) 128 (by omega) (by decide)]
      congr 1
      rw [Nat.or_comm, nat_join 7 128 (m % 128) (by decide) (by omega), Nat.add_comm]
    by_cases hz : m < 128
    · have hz' : ((m : Int) / 128 == 0) = true := by rw [beq_iff_eq]; omega
      have hsl : ∀ W, (Instr.sliceAt 159 (.pointer (some ⟨w.heap.size, 0, none⟩)) none (some (.int .i64 ((k : Int) + 1))) none).run Tryz.prog W = .ok (.slice (some ⟨w.heap.size, 0, none⟩) (k + 1) 10) W := fun W => by
        rw [run_sliceAt_array_h W 159 ⟨w.heap.size, 0, none⟩ (by simp [Program.arrayLen, Program.elem, Tryz.underlying159]) .i64 ((k : Int) + 1) (by omega) (by simp [Program.arrayLen, Tryz.underlying159]; omega)]
        go_simp
      obtain ⟨el, ec⟩ := up_last n k m cs hk Hm.out H0.out hz Hl.out Hpre.out
      have hcv : (convert 128 9 (.slice (some ⟨w.heap.size, 0, none⟩) (k + 1) 10)).run Tryz.prog (w.alloc (.cells (cs.set k (.int .u8 ((m : Int) % 128))).toArray 159)) = .ok (.string ⟨(upL n).toArray⟩) (w.alloc (.cells (cs.set k (.int .u8 ((m : Int) % 128))).toArray 159)) := by
        have h := run_convert_bytes_back (P := Tryz.prog) (w.alloc (.cells (cs.set k (.int .u8 ((m : Int) % 128))).toArray 159)) 128 9 5 ⟨w.heap.size, 0, none⟩ 10 (upL n) Tryz.underlying128 Tryz.underlying5 Tryz.underlying9 (fun j hj => by
          rw [show ({ block := w.heap.size, off := 0 } : Addr).add j = ⟨w.heap.size, 0 + j, none⟩ from by simp [Addr.add]; intro h; exact h.symm]
          rw [World.cell?_alloc_new, Nat.zero_add, List.getElem?_toArray]
          exact ec j hj)
        rw [el] at h
        exact h
      clear el ec
      go_wp2
      rw [Exit.noGoto_ret]
      go_ret
      exact ⟨rfl, (Below.refl _ _).alloc (Nat.le_refl _) _⟩
    · have hz' : ((m : Int) / 128 == 0) = false := by rw [beq_eq_false_iff_ne]; omega
      go_wp2
      exact ⟨up_round n k m cs _ Hm.out h2 hz Hl.out Hpre.out rfl w _, by simp [intOf]; omega⟩

end Num
end Go.Proofs.YtnpjkmomllkhpaaGreat

namespace Go.Proofs.YtnpjkmomllkhpaaGreat
namespace Num
open Go.RowKit
set_option maxHeartbeats 400000 in
theorem turn_any (a : Int) (w : World) (h1 : -9223372036854775808 ≤ a) (h2 : a ≤ 9223372036854775807) :
    Calls Tryz.prog 56 #[.int .i64 a] w fun e w' => e = .returned (.int .u64 (turn a)) ∧ w = w' := by
  have e : bits BinOp.xor IntKind.u64 (IntKind.u64.wrap (IntKind.u64.wrap a * 2)) (IntKind.u64.wrap (a / 9223372036854775808)) = turn a := turn_bits a h1 h2
  go_enter Tryz.func56, Tryz.ntmps56
  go_wp2
  go_ret
  exact ⟨rfl, rfl⟩

set_option maxHeartbeats 400000 in
theorem back_any (n : Int) (w : World) (h1 : 0 ≤ n) (h2 : n ≤ 18446744073709551615) :
    Calls Tryz.prog 69 #[.int .u64 n] w fun e w' => e = .returned (.int .i64 (back n)) ∧ w = w' := by
  have e := back_bits n h1 h2
  have e1 := and1 n h1 h2
  have e2 : IntKind.i64.wrap (n / 2) = n / 2 := by rw [wrap_i64]; split <;> omega
  go_enter Tryz.func69, Tryz.ntmps69
  go_wp2
  go_ret
  exact ⟨rfl, rfl⟩

end Num
end Go.Proofs.YtnpjkmomllkhpaaGreat
