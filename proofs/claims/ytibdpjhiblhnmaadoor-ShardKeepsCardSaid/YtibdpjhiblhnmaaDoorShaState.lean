
/- sha, in plain words: the state behind bytes; the bytes behind them; the digest. -/
import Derived.Test.YtibdpjhiblhnmaaDoorShaPlain
namespace Go.Proofs.YtibdpjhiblhnmaaDoor
namespace Sha
open Go.RowKit
def K0 : List Int := [0x428a2f98, 0x71374491, 0xb5c0fbcf, 0xe9b5dba5, 0x3956c25b, 0x59f111f1, 0x923f82a4, 0xab1c5ed5,
  0xd807aa98, 0x12835b01, 0x243185be, 0x550c7dc3, 0x72be5d74, 0x80deb1fe, 0x9bdc06a7, 0xc19bf174,
  0xe49b69c1, 0xefbe4786, 0x0fc19dc6, 0x240ca1cc, 0x2de92c6f, 0x4a7484aa, 0x5cb0a9dc, 0x76f988da,
  0x983e5152, 0xa831c66d, 0xb00327c8, 0xbf597fc7, 0xc6e00bf3, 0xd5a79147, 0x06ca6351, 0x14292967,
  0x27b70a85, 0x2e1b2138, 0x4d2c6dfc, 0x53380d13, 0x650a7354, 0x766a0abb, 0x81c2c92e, 0x92722c85,
  0xa2bfe8a1, 0xa81a664b, 0xc24b8b70, 0xc76c51a3, 0xd192e819, 0xd6990624, 0xf40e3585, 0x106aa070,
  0x19a4c116, 0x1e376c08, 0x2748774c, 0x34b0bcb5, 0x391c0cb3, 0x4ed8aa4a, 0x5b9cca4f, 0x682e6ff3,
  0x748f82ee, 0x78a5636f, 0x84c87814, 0x8cc70208, 0x90befffa, 0xa4506ceb, 0xbef9a3f7, 0xc67178f2]
def H0 : St := ⟨0x6a09e667, 0xbb67ae85, 0x3c6ef372, 0xa54ff53a, 0x510e527f, 0x9b05688c, 0x1f83d9ab, 0x5be0cd19⟩
/-- The state behind the first q blocks of bytes. -/
def state (l : List UInt8) : Nat → St
  | 0 => H0
  | q + 1 => block K0 (state l q) ((l.drop (64 * q)).take 64)
theorem state_zero (l : List UInt8) : state l 0 = H0 := rfl
theorem state_succ (l : List UInt8) (q : Nat) : state l (q + 1) = block K0 (state l q) ((l.drop (64 * q)).take 64) := rfl
theorem state_append (l m : List UInt8) : ∀ q, 64 * q ≤ l.length → state (l ++ m) q = state l q
  | 0, _ => rfl
  | q + 1, h => by
    rw [state_succ, state_succ, state_append l m q (by omega), List.drop_append_of_le_length (by omega), List.take_append_of_le_length (by rw [List.length_drop]; omega)]
/-- The state behind all whole blocks. -/
def full (l : List UInt8) : St := state l (l.length / 64)
theorem plus_ok (s r : St) : ∀ x ∈ (s.plus r).list, 0 ≤ x := by
  intro x hx
  simp only [St.list, St.plus, List.mem_cons, List.not_mem_nil, or_false] at hx
  rcases hx with rfl | rfl | rfl | rfl | rfl | rfl | rfl | rfl <;> (unfold add; omega)
theorem state_ok (l : List UInt8) : ∀ q, ∀ x ∈ (state l q).list, 0 ≤ x
  | 0 => show ∀ x ∈ H0.list, 0 ≤ x by decide
  | q + 1 => plus_ok _ _
theorem full_ok (l : List UInt8) : ∀ x ∈ (full l).list, 0 ≤ x := state_ok _ _
/-- What fills no block yet. -/
def rest (l : List UInt8) : List UInt8 := l.drop (64 * (l.length / 64))
theorem rest_length (l : List UInt8) : (rest l).length = l.length % 64 := by unfold rest; rw [List.length_drop]; omega
theorem full_short (l m : List UInt8) (h : l.length % 64 + m.length < 64) : full (l ++ m) = full l ∧ rest (l ++ m) = rest l ++ m := by
  have e : (l ++ m).length / 64 = l.length / 64 := by rw [List.length_append]; omega
  unfold full rest
  rw [e]
  exact ⟨state_append l m _ (by omega), List.drop_append_of_le_length (by omega)⟩
theorem full_whole (l m : List UInt8) (h : l.length % 64 + m.length = 64) : full (l ++ m) = block K0 (full l) (rest l ++ m) ∧ rest (l ++ m) = [] := by
  have e : (l ++ m).length / 64 = l.length / 64 + 1 := by rw [List.length_append]; omega
  unfold full rest
  rw [e]
  refine ⟨?_, List.drop_of_length_le (by rw [List.length_append]; omega)⟩
  rw [state_succ, state_append l m _ (by omega), List.drop_append_of_le_length (by omega), List.take_of_length_le]
  rw [List.length_append, List.length_drop]; omega
/-- A number's eight bytes, the highest first. -/
def be8 (n : Nat) : List UInt8 := [UInt8.ofNat (n / 72057594037927936), UInt8.ofNat (n / 281474976710656), UInt8.ofNat (n / 1099511627776), UInt8.ofNat (n / 4294967296), UInt8.ofNat (n / 16777216), UInt8.ofNat (n / 65536), UInt8.ofNat (n / 256), UInt8.ofNat n]
/-- What stands behind the bytes at the end. -/
def tail (n : Nat) : List UInt8 := 128 :: (List.replicate ((119 - n % 64) % 64) 0 ++ be8 (8 * n))
theorem tail_length (n : Nat) : (n + (tail n).length) % 64 = 0 := by
  unfold tail be8
  simp only [List.length_cons, List.length_append, List.length_replicate, List.length_nil]
  omega
/-- A word's four bytes. -/
def w4 (x : Int) : List UInt8 := [UInt8.ofNat (x / 16777216).toNat, UInt8.ofNat (x / 65536).toNat, UInt8.ofNat (x / 256).toNat, UInt8.ofNat x.toNat]
def out (s : St) : List UInt8 := s.list.flatMap w4
theorem out_length (s : St) : (out s).length = 32 := rfl
/-- The digest of bytes. -/
def of (l : List UInt8) : List UInt8 := out (full (l ++ tail l.length))
theorem of_length (l : List UInt8) : (of l).length = 32 := rfl
end Sha
end Go.Proofs.YtibdpjhiblhnmaaDoor
