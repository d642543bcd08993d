
/- the reference's sha: its numbers. -/
import Derived.Test.YtibdpjhiblhnmaaDoorShaState
import Derived.LoopTactic
namespace Go.Proofs.YtibdpjhiblhnmaaDoor
namespace RefSha
open Go.RowKit Sha
def lo32 (x : Int) : Int := bits .and .u64 x 4294967295
def mLow (a b : Int) : Int := IntKind.u64.wrap (lo32 a * lo32 b)
def mMid (a b : Int) : Int := IntKind.u64.wrap (IntKind.u64.wrap (a / 4294967296 * lo32 b) + mLow a b / 4294967296)
def mMore (a b : Int) : Int := IntKind.u64.wrap (IntKind.u64.wrap (lo32 a * (b / 4294967296)) + lo32 (mMid a b))
def mHi (a b : Int) : Int := IntKind.u64.wrap (IntKind.u64.wrap (IntKind.u64.wrap (a / 4294967296 * (b / 4294967296)) + mMid a b / 4294967296) + mMore a b / 4294967296)
def mLo (a b : Int) : Int := bits .or .u64 (IntKind.u64.wrap (mMore a b * 4294967296)) (lo32 (mLow a b))
set_option maxRecDepth 100000 in
theorem mul_any (a b : Int) (w : World) :
    Calls Tryd.prog 59 #[.int .u64 a, .int .u64 b] w fun e w' => e = .returned (.tuple #[.int .u64 (mHi a b), .int .u64 (mLo a b)]) ∧ w = w' := by
  go_enter Tryd.func59, Tryd.ntmps59
  go_wp2
  go_ret2
  exact ⟨rfl, rfl⟩
def sqF (x p : Int) : Bool := decide (mHi x x < p) || (mHi x x == p && mLo x x == 0)
set_option maxRecDepth 100000 in
theorem square_any (x p : Int) (w : World) :
    Calls Tryd.prog 41 #[.int .u64 x, .int .u64 p] w fun e w' => e = .returned (.bool (sqF x p)) ∧ w = w' := by
  have M := Lib.hid (mul_any x x w)
  have HV : Hid (sqF x p = (decide (mHi x x < p) || (mHi x x == p && mLo x x == 0))) := Lib.hid rfl
  generalize mHi x x = u at M HV
  generalize mLo x x = r at M HV
  by_cases h1 : u < p
  · have d1 : decide (u < p) = true := decide_eq_true h1
    rw [d1, Bool.true_or] at HV
    go_enter Tryd.func41, Tryd.ntmps41
    go_wp2_with fail
    refine M.out.mono ?_
    rintro e w' ⟨rfl, rfl⟩
    go_wp2
    go_ret
    exact ⟨by rw [HV.out]; rfl, rfl⟩
  · have d1 : decide (u < p) = false := decide_eq_false h1
    rw [d1, Bool.false_or] at HV
    by_cases h2 : u = p
    · have d2 : (u == p) = true := beq_iff_eq.2 h2
      rw [d2, Bool.true_and] at HV
      have HH := Lib.hid h2
      clear h2
      cases h3 : r == 0
      all_goals
        rw [h3] at HV
        go_enter Tryd.func41, Tryd.ntmps41
        go_wp2_with fail
        refine M.out.mono ?_
        rintro e w' ⟨rfl, rfl⟩
        go_wp2
        go_ret
        exact ⟨by rw [HV.out]; rfl, rfl⟩
    · have d2 : (u == p) = false := beq_eq_false_iff_ne.2 h2
      rw [d2, Bool.false_and] at HV
      go_enter Tryd.func41, Tryd.ntmps41
      go_wp2_with fail
      refine M.out.mono ?_
      rintro e w' ⟨rfl, rfl⟩
      go_wp2
      go_ret
      exact ⟨by rw [HV.out]; rfl, rfl⟩
def topF (x : Int) : Int := IntKind.u64.wrap (IntKind.u64.wrap (mHi x x * x) + mHi (mLo x x) x)
def cuF (x p : Int) : Bool := decide (topF x < IntKind.u64.wrap (p * 4294967296)) || (topF x == IntKind.u64.wrap (p * 4294967296) && mLo (mLo x x) x == 0)
set_option maxRecDepth 100000 in
theorem cube_any (x p : Int) (w : World) :
    Calls Tryd.prog 40 #[.int .u64 x, .int .u64 p] w fun e w' => e = .returned (.bool (cuF x p)) ∧ w = w' := by
  have M := Lib.hid (mul_any x x w)
  have N := Lib.hid (mul_any (mLo x x) x w)
  have HV : Hid (cuF x p = (decide (IntKind.u64.wrap (IntKind.u64.wrap (mHi x x * x) + mHi (mLo x x) x) < IntKind.u64.wrap (p * 4294967296)) || (IntKind.u64.wrap (IntKind.u64.wrap (mHi x x * x) + mHi (mLo x x) x) == IntKind.u64.wrap (p * 4294967296) && mLo (mLo x x) x == 0))) := Lib.hid rfl
  generalize mHi (mLo x x) x = v at N HV
  generalize mLo (mLo x x) x = r at N HV
  generalize mHi x x = u at M HV
  generalize mLo x x = s at M N
  by_cases h1 : IntKind.u64.wrap (IntKind.u64.wrap (u * x) + v) < IntKind.u64.wrap (p * 4294967296)
  · have d1 := decide_eq_true h1
    rw [d1, Bool.true_or] at HV
    go_enter Tryd.func40, Tryd.ntmps40
    go_wp2_with fail
    refine M.out.mono ?_
    rintro e w' ⟨rfl, rfl⟩
    go_wp2_with fail
    refine N.out.mono ?_
    rintro e w' ⟨rfl, rfl⟩
    go_wp2
    go_ret
    exact ⟨by rw [HV.out]; rfl, rfl⟩
  · have d1 := decide_eq_false h1
    rw [d1, Bool.false_or] at HV
    by_cases h2 : IntKind.u64.wrap (IntKind.u64.wrap (u * x) + v) = IntKind.u64.wrap (p * 4294967296)
    · have d2 : (IntKind.u64.wrap (IntKind.u64.wrap (u * x) + v) == IntKind.u64.wrap (p * 4294967296)) = true := beq_iff_eq.2 h2
      rw [d2, Bool.true_and] at HV
      have HH := Lib.hid h2
      clear h2
      cases h3 : r == 0
      all_goals
        rw [h3] at HV
        go_enter Tryd.func40, Tryd.ntmps40
        go_wp2_with fail
        refine M.out.mono ?_
        rintro e w' ⟨rfl, rfl⟩
        go_wp2_with fail
        refine N.out.mono ?_
        rintro e w' ⟨rfl, rfl⟩
        go_wp2
        go_ret
        exact ⟨by rw [HV.out]; rfl, rfl⟩
    · have d2 : (IntKind.u64.wrap (IntKind.u64.wrap (u * x) + v) == IntKind.u64.wrap (p * 4294967296)) = false := beq_eq_false_iff_ne.2 h2
      rw [d2, Bool.false_and] at HV
      go_enter Tryd.func40, Tryd.ntmps40
      go_wp2_with fail
      refine M.out.mono ?_
      rintro e w' ⟨rfl, rfl⟩
      go_wp2_with fail
      refine N.out.mono ?_
      rintro e w' ⟨rfl, rfl⟩
      go_wp2
      go_ret
      exact ⟨by rw [HV.out]; rfl, rfl⟩
def testF (three : Bool) (y p : Int) : Bool := if three then cuF y p else sqF y p
def bitF (k : Nat) : Int := IntKind.u64.wrap (2 ^ (35 - k))
def fracN (p : Int) (three : Bool) : Nat → Int
  | 0 => 0
  | k + 1 => if testF three (bits .or .u64 (fracN p three k) (bitF k)) p then bits .or .u64 (fracN p three k) (bitF k) else fracN p three k
def fracF (p : Int) (three : Bool) : Int := fracN p three 36 % 4294967296
/-- The primes among the first k numbers from 2 on. -/
def pl : Nat → List Int
  | 0 => []
  | k + 1 => if (pl k).all (fun q => (2 + (k : Int)) % q != 0) then pl k ++ [2 + (k : Int)] else pl k
theorem pl_succ (k : Nat) : pl (k + 1) = if (pl k).all (fun q => (2 + (k : Int)) % q != 0) then pl k ++ [2 + (k : Int)] else pl k := rfl
theorem pl_pos : ∀ k, ∀ q ∈ pl k, 2 ≤ q ∧ q < 2 + (k : Int)
  | 0, q, h => by cases h
  | k + 1, q, h => by
    rw [pl_succ] at h
    split at h
    · rcases List.mem_append.1 h with h | h
      · have := pl_pos k q h; omega
      · simp only [List.mem_singleton] at h; omega
    · have := pl_pos k q h; omega
def PR : List Int := [2, 3, 5, 7, 11, 13, 17, 19, 23, 29, 31, 37, 41, 43, 47, 53, 59, 61, 67, 71, 73, 79, 83, 89, 97, 101, 103, 107, 109, 113, 127, 131, 137, 139, 149, 151, 157, 163, 167, 173, 179, 181, 191, 193, 197, 199, 211, 223, 227, 229, 233, 239, 241, 251, 257, 263, 269, 271, 277, 281, 283, 293, 307, 311]
theorem pl_309 : pl 309 = PR.take 63 := by decide +kernel
theorem pl_310 : pl 310 = PR := by decide +kernel
theorem pl_le (k : Nat) : ∀ m, (pl k).length ≤ (pl (k + m)).length
  | 0 => Nat.le_refl _
  | m + 1 => by
    refine Nat.le_trans (pl_le k m) ?_
    rw [show k + (m + 1) = (k + m) + 1 by omega, pl_succ]
    split
    · rw [List.length_append]; omega
    · exact Nat.le_refl _
theorem pl_short (k : Nat) (h : k ≤ 309) : (pl k).length ≤ 63 := by
  have := pl_le k (309 - k)
  rw [show k + (309 - k) = 309 by omega, pl_309] at this
  simpa [PR] using this
theorem k_all : PR.map (fun p => fracF p true) = K0 := by decide +kernel
theorem h_all : (PR.take 8).map (fun p => fracF p false) = H0.list := by decide +kernel
end RefSha
end Go.Proofs.YtibdpjhiblhnmaaDoor
