/- Merged texts: ShaRot, ShaPlain, ShaState. -/
import Derived.Test.YtjnlooccddnbkaaGreatDoorProg
import Derived.Test.YtjnlooccddnbkaaGreatDoorTmStr
import Derived.Test.YtjnlooccddnbkaaGreatDoorTmBase
import Derived.WalkKit
import Derived.WalkSpells
import Derived.WalkLawsBesides
import Derived.Lib.Hide
import Derived.Deep.QuietTactic
namespace Go.Proofs.YtjnlooccddnbkaaGreatDoor
namespace Sha
open Go.RowKit
/-- A word turned right. -/
def rr (n : Int) (x : Int) : Int := bits .or .u32 (x / 2 ^ n.toNat) (x * 2 ^ (32 - n.toNat) % 4294967296)
/-- A quiet call behind draws. -/
theorem quiet_more {P : Program} {f : FuncId} {args : Array Value} {w : World} {a n : Nat} {v : Value}
    (h : Calls P f args (w.drewN (a + n)) fun e w' => e = .returned v ∧ w' = w.drewN (a + n)) :
    Calls P f args (w.drewN (a + n)) fun e w' => e = .returned v ∧ ∃ m, w' = w.drewN (a + m) :=
  h.mono fun _ _ hh => ⟨hh.1, n, hh.2⟩
theorem or_comm (a b : Int) : bits .or .u32 a b = bits .or .u32 b a := by
  show IntKind.u32.wrap ((BitVec.ofInt 32 a ||| BitVec.ofInt 32 b).toNat : Int) = IntKind.u32.wrap ((BitVec.ofInt 32 b ||| BitVec.ofInt 32 a).toNat : Int)
  rw [BitVec.or_comm]
theorem rr_2 (x : Int) : rr 2 x = bits .or .u32 (x / 4) (x * 1073741824 % 4294967296) := rfl
set_option maxRecDepth 100000 in
theorem rot_2 (x : Int) (w : World) :
    Calls Tryz.prog 115 #[.int .u32 x, .int .i64 (-2)] w fun e w' => e = .returned (.int .u32 (rr 2 x)) ∧ w = w' := by
  have h : bits .and .u64 (IntKind.u64.wrap (-2)) 31 = 30 := by decide
  have HV := Lib.hid ((rr_2 x).trans (or_comm _ _))
  go_enter Tryz.func115, Tryz.ntmps115
  go_wp2
  go_ret
  exact ⟨by rw [HV.out]; rfl, rfl⟩
set_option maxRecDepth 100000 in
theorem right_2 (x : Int) (w : World) :
    Calls Tryz.prog 96 #[.int .u32 x, .int .i64 2] w fun e w' => e = .returned (.int .u32 (rr 2 x)) ∧ w = w' := by
  go_enter Tryz.func96, Tryz.ntmps96
  go_wp2_with fail
  refine (rot_2 _ _).mono ?_
  rintro e w' ⟨rfl, rfl⟩
  go_wp2
  go_ret
  exact ⟨rfl, rfl⟩
set_option maxRecDepth 100000 in
theorem ref_right_2 (x : Int) (w : World) :
    Calls Tryz.prog 78 #[.int .u32 x, .int .u64 2] w fun e w' => e = .returned (.int .u32 (rr 2 x)) ∧ w = w' := by
  have HV := Lib.hid (rr_2 x)
  go_enter Tryz.func78, Tryz.ntmps78
  go_wp2
  go_ret
  exact ⟨by rw [HV.out]; rfl, rfl⟩
theorem rr_6 (x : Int) : rr 6 x = bits .or .u32 (x / 64) (x * 67108864 % 4294967296) := rfl
set_option maxRecDepth 100000 in
theorem rot_6 (x : Int) (w : World) :
    Calls Tryz.prog 115 #[.int .u32 x, .int .i64 (-6)] w fun e w' => e = .returned (.int .u32 (rr 6 x)) ∧ w = w' := by
  have h : bits .and .u64 (IntKind.u64.wrap (-6)) 31 = 26 := by decide
  have HV := Lib.hid ((rr_6 x).trans (or_comm _ _))
  go_enter Tryz.func115, Tryz.ntmps115
  go_wp2
  go_ret
  exact ⟨by rw [HV.out]; rfl, rfl⟩
set_option maxRecDepth 100000 in
theorem right_6 (x : Int) (w : World) :
    Calls Tryz.prog 96 #[.int .u32 x, .int .i64 6] w fun e w' => e = .returned (.int .u32 (rr 6 x)) ∧ w = w' := by
  go_enter Tryz.func96, Tryz.ntmps96
  go_wp2_with fail
  refine (rot_6 _ _).mono ?_
  rintro e w' ⟨rfl, rfl⟩
  go_wp2
  go_ret
  exact ⟨rfl, rfl⟩
set_option maxRecDepth 100000 in
theorem ref_right_6 (x : Int) (w : World) :
    Calls Tryz.prog 78 #[.int .u32 x, .int .u64 6] w fun e w' => e = .returned (.int .u32 (rr 6 x)) ∧ w = w' := by
  have HV := Lib.hid (rr_6 x)
  go_enter Tryz.func78, Tryz.ntmps78
  go_wp2
  go_ret
  exact ⟨by rw [HV.out]; rfl, rfl⟩
theorem rr_7 (x : Int) : rr 7 x = bits .or .u32 (x / 128) (x * 33554432 % 4294967296) := rfl
set_option maxRecDepth 100000 in
theorem rot_7 (x : Int) (w : World) :
    Calls Tryz.prog 115 #[.int .u32 x, .int .i64 (-7)] w fun e w' => e = .returned (.int .u32 (rr 7 x)) ∧ w = w' := by
  have h : bits .and .u64 (IntKind.u64.wrap (-7)) 31 = 25 := by decide
  have HV := Lib.hid ((rr_7 x).trans (or_comm _ _))
  go_enter Tryz.func115, Tryz.ntmps115
  go_wp2
  go_ret
  exact ⟨by rw [HV.out]; rfl, rfl⟩
set_option maxRecDepth 100000 in
theorem right_7 (x : Int) (w : World) :
    Calls Tryz.prog 96 #[.int .u32 x, .int .i64 7] w fun e w' => e = .returned (.int .u32 (rr 7 x)) ∧ w = w' := by
  go_enter Tryz.func96, Tryz.ntmps96
  go_wp2_with fail
  refine (rot_7 _ _).mono ?_
  rintro e w' ⟨rfl, rfl⟩
  go_wp2
  go_ret
  exact ⟨rfl, rfl⟩
set_option maxRecDepth 100000 in
theorem ref_right_7 (x : Int) (w : World) :
    Calls Tryz.prog 78 #[.int .u32 x, .int .u64 7] w fun e w' => e = .returned (.int .u32 (rr 7 x)) ∧ w = w' := by
  have HV := Lib.hid (rr_7 x)
  go_enter Tryz.func78, Tryz.ntmps78
  go_wp2
  go_ret
  exact ⟨by rw [HV.out]; rfl, rfl⟩
theorem rr_11 (x : Int) : rr 11 x = bits .or .u32 (x / 2048) (x * 2097152 % 4294967296) := rfl
set_option maxRecDepth 100000 in
theorem rot_11 (x : Int) (w : World) :
    Calls Tryz.prog 115 #[.int .u32 x, .int .i64 (-11)] w fun e w' => e = .returned (.int .u32 (rr 11 x)) ∧ w = w' := by
  have h : bits .and .u64 (IntKind.u64.wrap (-11)) 31 = 21 := by decide
  have HV := Lib.hid ((rr_11 x).trans (or_comm _ _))
  go_enter Tryz.func115, Tryz.ntmps115
  go_wp2
  go_ret
  exact ⟨by rw [HV.out]; rfl, rfl⟩
set_option maxRecDepth 100000 in
theorem right_11 (x : Int) (w : World) :
    Calls Tryz.prog 96 #[.int .u32 x, .int .i64 11] w fun e w' => e = .returned (.int .u32 (rr 11 x)) ∧ w = w' := by
  go_enter Tryz.func96, Tryz.ntmps96
  go_wp2_with fail
  refine (rot_11 _ _).mono ?_
  rintro e w' ⟨rfl, rfl⟩
  go_wp2
  go_ret
  exact ⟨rfl, rfl⟩
set_option maxRecDepth 100000 in
theorem ref_right_11 (x : Int) (w : World) :
    Calls Tryz.prog 78 #[.int .u32 x, .int .u64 11] w fun e w' => e = .returned (.int .u32 (rr 11 x)) ∧ w = w' := by
  have HV := Lib.hid (rr_11 x)
  go_enter Tryz.func78, Tryz.ntmps78
  go_wp2
  go_ret
  exact ⟨by rw [HV.out]; rfl, rfl⟩
theorem rr_13 (x : Int) : rr 13 x = bits .or .u32 (x / 8192) (x * 524288 % 4294967296) := rfl
set_option maxRecDepth 100000 in
theorem rot_13 (x : Int) (w : World) :
    Calls Tryz.prog 115 #[.int .u32 x, .int .i64 (-13)] w fun e w' => e = .returned (.int .u32 (rr 13 x)) ∧ w = w' := by
  have h : bits .and .u64 (IntKind.u64.wrap (-13)) 31 = 19 := by decide
  have HV := Lib.hid ((rr_13 x).trans (or_comm _ _))
  go_enter Tryz.func115, Tryz.ntmps115
  go_wp2
  go_ret
  exact ⟨by rw [HV.out]; rfl, rfl⟩
set_option maxRecDepth 100000 in
theorem right_13 (x : Int) (w : World) :
    Calls Tryz.prog 96 #[.int .u32 x, .int .i64 13] w fun e w' => e = .returned (.int .u32 (rr 13 x)) ∧ w = w' := by
  go_enter Tryz.func96, Tryz.ntmps96
  go_wp2_with fail
  refine (rot_13 _ _).mono ?_
  rintro e w' ⟨rfl, rfl⟩
  go_wp2
  go_ret
  exact ⟨rfl, rfl⟩
set_option maxRecDepth 100000 in
theorem ref_right_13 (x : Int) (w : World) :
    Calls Tryz.prog 78 #[.int .u32 x, .int .u64 13] w fun e w' => e = .returned (.int .u32 (rr 13 x)) ∧ w = w' := by
  have HV := Lib.hid (rr_13 x)
  go_enter Tryz.func78, Tryz.ntmps78
  go_wp2
  go_ret
  exact ⟨by rw [HV.out]; rfl, rfl⟩
theorem rr_17 (x : Int) : rr 17 x = bits .or .u32 (x / 131072) (x * 32768 % 4294967296) := rfl
set_option maxRecDepth 100000 in
theorem rot_17 (x : Int) (w : World) :
    Calls Tryz.prog 115 #[.int .u32 x, .int .i64 (-17)] w fun e w' => e = .returned (.int .u32 (rr 17 x)) ∧ w = w' := by
  have h : bits .and .u64 (IntKind.u64.wrap (-17)) 31 = 15 := by decide
  have HV := Lib.hid ((rr_17 x).trans (or_comm _ _))
  go_enter Tryz.func115, Tryz.ntmps115
  go_wp2
  go_ret
  exact ⟨by rw [HV.out]; rfl, rfl⟩
set_option maxRecDepth 100000 in
theorem right_17 (x : Int) (w : World) :
    Calls Tryz.prog 96 #[.int .u32 x, .int .i64 17] w fun e w' => e = .returned (.int .u32 (rr 17 x)) ∧ w = w' := by
  go_enter Tryz.func96, Tryz.ntmps96
  go_wp2_with fail
  refine (rot_17 _ _).mono ?_
  rintro e w' ⟨rfl, rfl⟩
  go_wp2
  go_ret
  exact ⟨rfl, rfl⟩
set_option maxRecDepth 100000 in
theorem ref_right_17 (x : Int) (w : World) :
    Calls Tryz.prog 78 #[.int .u32 x, .int .u64 17] w fun e w' => e = .returned (.int .u32 (rr 17 x)) ∧ w = w' := by
  have HV := Lib.hid (rr_17 x)
  go_enter Tryz.func78, Tryz.ntmps78
  go_wp2
  go_ret
  exact ⟨by rw [HV.out]; rfl, rfl⟩
theorem rr_18 (x : Int) : rr 18 x = bits .or .u32 (x / 262144) (x * 16384 % 4294967296) := rfl
set_option maxRecDepth 100000 in
theorem rot_18 (x : Int) (w : World) :
    Calls Tryz.prog 115 #[.int .u32 x, .int .i64 (-18)] w fun e w' => e = .returned (.int .u32 (rr 18 x)) ∧ w = w' := by
  have h : bits .and .u64 (IntKind.u64.wrap (-18)) 31 = 14 := by decide
  have HV := Lib.hid ((rr_18 x).trans (or_comm _ _))
  go_enter Tryz.func115, Tryz.ntmps115
  go_wp2
  go_ret
  exact ⟨by rw [HV.out]; rfl, rfl⟩
set_option maxRecDepth 100000 in
theorem right_18 (x : Int) (w : World) :
    Calls Tryz.prog 96 #[.int .u32 x, .int .i64 18] w fun e w' => e = .returned (.int .u32 (rr 18 x)) ∧ w = w' := by
  go_enter Tryz.func96, Tryz.ntmps96
  go_wp2_with fail
  refine (rot_18 _ _).mono ?_
  rintro e w' ⟨rfl, rfl⟩
  go_wp2
  go_ret
  exact ⟨rfl, rfl⟩
set_option maxRecDepth 100000 in
theorem ref_right_18 (x : Int) (w : World) :
    Calls Tryz.prog 78 #[.int .u32 x, .int .u64 18] w fun e w' => e = .returned (.int .u32 (rr 18 x)) ∧ w = w' := by
  have HV := Lib.hid (rr_18 x)
  go_enter Tryz.func78, Tryz.ntmps78
  go_wp2
  go_ret
  exact ⟨by rw [HV.out]; rfl, rfl⟩
theorem rr_19 (x : Int) : rr 19 x = bits .or .u32 (x / 524288) (x * 8192 % 4294967296) := rfl
set_option maxRecDepth 100000 in
theorem rot_19 (x : Int) (w : World) :
    Calls Tryz.prog 115 #[.int .u32 x, .int .i64 (-19)] w fun e w' => e = .returned (.int .u32 (rr 19 x)) ∧ w = w' := by
  have h : bits .and .u64 (IntKind.u64.wrap (-19)) 31 = 13 := by decide
  have HV := Lib.hid ((rr_19 x).trans (or_comm _ _))
  go_enter Tryz.func115, Tryz.ntmps115
  go_wp2
  go_ret
  exact ⟨by rw [HV.out]; rfl, rfl⟩
set_option maxRecDepth 100000 in
theorem right_19 (x : Int) (w : World) :
    Calls Tryz.prog 96 #[.int .u32 x, .int .i64 19] w fun e w' => e = .returned (.int .u32 (rr 19 x)) ∧ w = w' := by
  go_enter Tryz.func96, Tryz.ntmps96
  go_wp2_with fail
  refine (rot_19 _ _).mono ?_
  rintro e w' ⟨rfl, rfl⟩
  go_wp2
  go_ret
  exact ⟨rfl, rfl⟩
set_option maxRecDepth 100000 in
theorem ref_right_19 (x : Int) (w : World) :
    Calls Tryz.prog 78 #[.int .u32 x, .int .u64 19] w fun e w' => e = .returned (.int .u32 (rr 19 x)) ∧ w = w' := by
  have HV := Lib.hid (rr_19 x)
  go_enter Tryz.func78, Tryz.ntmps78
  go_wp2
  go_ret
  exact ⟨by rw [HV.out]; rfl, rfl⟩
theorem rr_22 (x : Int) : rr 22 x = bits .or .u32 (x / 4194304) (x * 1024 % 4294967296) := rfl
set_option maxRecDepth 100000 in
theorem rot_22 (x : Int) (w : World) :
    Calls Tryz.prog 115 #[.int .u32 x, .int .i64 (-22)] w fun e w' => e = .returned (.int .u32 (rr 22 x)) ∧ w = w' := by
  have h : bits .and .u64 (IntKind.u64.wrap (-22)) 31 = 10 := by decide
  have HV := Lib.hid ((rr_22 x).trans (or_comm _ _))
  go_enter Tryz.func115, Tryz.ntmps115
  go_wp2
  go_ret
  exact ⟨by rw [HV.out]; rfl, rfl⟩
set_option maxRecDepth 100000 in
theorem right_22 (x : Int) (w : World) :
    Calls Tryz.prog 96 #[.int .u32 x, .int .i64 22] w fun e w' => e = .returned (.int .u32 (rr 22 x)) ∧ w = w' := by
  go_enter Tryz.func96, Tryz.ntmps96
  go_wp2_with fail
  refine (rot_22 _ _).mono ?_
  rintro e w' ⟨rfl, rfl⟩
  go_wp2
  go_ret
  exact ⟨rfl, rfl⟩
set_option maxRecDepth 100000 in
theorem ref_right_22 (x : Int) (w : World) :
    Calls Tryz.prog 78 #[.int .u32 x, .int .u64 22] w fun e w' => e = .returned (.int .u32 (rr 22 x)) ∧ w = w' := by
  have HV := Lib.hid (rr_22 x)
  go_enter Tryz.func78, Tryz.ntmps78
  go_wp2
  go_ret
  exact ⟨by rw [HV.out]; rfl, rfl⟩
theorem rr_25 (x : Int) : rr 25 x = bits .or .u32 (x / 33554432) (x * 128 % 4294967296) := rfl
set_option maxRecDepth 100000 in
theorem rot_25 (x : Int) (w : World) :
    Calls Tryz.prog 115 #[.int .u32 x, .int .i64 (-25)] w fun e w' => e = .returned (.int .u32 (rr 25 x)) ∧ w = w' := by
  have h : bits .and .u64 (IntKind.u64.wrap (-25)) 31 = 7 := by decide
  have HV := Lib.hid ((rr_25 x).trans (or_comm _ _))
  go_enter Tryz.func115, Tryz.ntmps115
  go_wp2
  go_ret
  exact ⟨by rw [HV.out]; rfl, rfl⟩
set_option maxRecDepth 100000 in
theorem right_25 (x : Int) (w : World) :
    Calls Tryz.prog 96 #[.int .u32 x, .int .i64 25] w fun e w' => e = .returned (.int .u32 (rr 25 x)) ∧ w = w' := by
  go_enter Tryz.func96, Tryz.ntmps96
  go_wp2_with fail
  refine (rot_25 _ _).mono ?_
  rintro e w' ⟨rfl, rfl⟩
  go_wp2
  go_ret
  exact ⟨rfl, rfl⟩
set_option maxRecDepth 100000 in
theorem ref_right_25 (x : Int) (w : World) :
    Calls Tryz.prog 78 #[.int .u32 x, .int .u64 25] w fun e w' => e = .returned (.int .u32 (rr 25 x)) ∧ w = w' := by
  have HV := Lib.hid (rr_25 x)
  go_enter Tryz.func78, Tryz.ntmps78
  go_wp2
  go_ret
  exact ⟨by rw [HV.out]; rfl, rfl⟩
def turns : List Int := [2, 6, 7, 11, 13, 17, 18, 19, 22, 25]
theorem right_q (n x : Int) (hn : n ∈ turns) (w : World) :
    Calls Tryz.prog 96 #[.int .u32 x, .int .i64 n] w fun e w' => e = .returned (.int .u32 (rr n x)) ∧ w' = w := by
  simp only [turns, List.mem_cons, List.not_mem_nil, or_false] at hn
  rcases hn with rfl | rfl | rfl | rfl | rfl | rfl | rfl | rfl | rfl | rfl
  · exact (right_2 x w).mono fun _ _ h => ⟨h.1, h.2.symm⟩
  · exact (right_6 x w).mono fun _ _ h => ⟨h.1, h.2.symm⟩
  · exact (right_7 x w).mono fun _ _ h => ⟨h.1, h.2.symm⟩
  · exact (right_11 x w).mono fun _ _ h => ⟨h.1, h.2.symm⟩
  · exact (right_13 x w).mono fun _ _ h => ⟨h.1, h.2.symm⟩
  · exact (right_17 x w).mono fun _ _ h => ⟨h.1, h.2.symm⟩
  · exact (right_18 x w).mono fun _ _ h => ⟨h.1, h.2.symm⟩
  · exact (right_19 x w).mono fun _ _ h => ⟨h.1, h.2.symm⟩
  · exact (right_22 x w).mono fun _ _ h => ⟨h.1, h.2.symm⟩
  · exact (right_25 x w).mono fun _ _ h => ⟨h.1, h.2.symm⟩
theorem right_any (n x : Int) (hn : n ∈ turns) (w : World) :
    Calls Tryz.prog 96 #[.int .u32 x, .int .i64 n] w fun e w' => e = .returned (.int .u32 (rr n x)) ∧ w = w' := (right_q n x hn w).mono fun _ _ h => ⟨h.1, h.2.symm⟩
theorem ref_right_any (n x : Int) (hn : n ∈ turns) (w : World) :
    Calls Tryz.prog 78 #[.int .u32 x, .int .u64 n] w fun e w' => e = .returned (.int .u32 (rr n x)) ∧ w = w' := by
  simp only [turns, List.mem_cons, List.not_mem_nil, or_false] at hn
  rcases hn with rfl | rfl | rfl | rfl | rfl | rfl | rfl | rfl | rfl | rfl
  · exact ref_right_2 x w
  · exact ref_right_6 x w
  · exact ref_right_7 x w
  · exact ref_right_11 x w
  · exact ref_right_13 x w
  · exact ref_right_17 x w
  · exact ref_right_18 x w
  · exact ref_right_19 x w
  · exact ref_right_22 x w
  · exact ref_right_25 x w
end Sha
end Go.Proofs.YtjnlooccddnbkaaGreatDoor

namespace Go.Proofs.YtjnlooccddnbkaaGreatDoor
namespace Sha
open Go.RowKit
def add (a b : Int) : Int := (a + b) % 4294967296
def xor (a b : Int) : Int := bits .xor .u32 a b
def and (a b : Int) : Int := bits .and .u32 a b
theorem add_comm (a b : Int) : add a b = add b a := by unfold add; rw [Int.add_comm]
theorem add_3 (a b c : Int) : add (add a b) c = (a + b + c) % 4294967296 := by unfold add; omega
theorem add_4 (a b c d : Int) : add (add (add a b) c) d = (a + b + c + d) % 4294967296 := by unfold add; omega
theorem add_5 (a b c d e : Int) : add (add (add (add a b) c) d) e = (a + b + c + d + e) % 4294967296 := by unfold add; omega
theorem add_w (a b c d : Int) : add (add (add a b) c) d = IntKind.u32.wrap (IntKind.u32.wrap (IntKind.u32.wrap (a + b) + c) + d) := by rw [add_4, IntKind.wrap_u32, IntKind.wrap_u32, IntKind.wrap_u32]; omega
theorem add_6 (z a b c d e : Int) : add z (add (add (add (add a b) c) d) e) = (z + (a + b + c + d + e)) % 4294967296 := by unfold add; omega
theorem add_7 (a b c d e f g : Int) : add (add (add (add (add a b) c) d) e) (add f g) = (a + b + c + d + e + (f + g)) % 4294967296 := by unfold add; omega
/-- Four bytes, the highest first. -/
def be4 (a b c d : UInt8) : Int :=
  bits .or .u32 (bits .or .u32 (bits .or .u32 ((a.toNat : Int) * 16777216) ((b.toNat : Int) * 65536)) ((c.toNat : Int) * 256)) (d.toNat : Int)
def word (b : List UInt8) (t : Nat) : Int := be4 (b.getD (4 * t) 0) (b.getD (4 * t + 1) 0) (b.getD (4 * t + 2) 0) (b.getD (4 * t + 3) 0)
def words (b : List UInt8) : Nat → List Int
  | 0 => []
  | t + 1 => words b t ++ [word b t]
theorem words_length (b : List UInt8) : ∀ t, (words b t).length = t
  | 0 => rfl
  | t + 1 => by rw [words, List.length_append, words_length b t]; rfl
def sig0 (x : Int) : Int := xor (xor (rr 7 x) (rr 18 x)) (x / 8)
def sig1 (x : Int) : Int := xor (xor (rr 17 x) (rr 19 x)) (x / 1024)
def next (l : List Int) : Int := add (add (add (sig1 (l.getD (l.length - 2) 0)) (l.getD (l.length - 7) 0)) (sig0 (l.getD (l.length - 15) 0))) (l.getD (l.length - 16) 0)
def sched (l : List Int) : Nat → List Int
  | 0 => l
  | k + 1 => sched l k ++ [next (sched l k)]
theorem sched_length (l : List Int) : ∀ k, (sched l k).length = l.length + k
  | 0 => rfl
  | k + 1 => by rw [sched, List.length_append, sched_length l k]; rfl
structure St where
  (a b c d e f g h : Int)
def St.list (s : St) : List Int := [s.a, s.b, s.c, s.d, s.e, s.f, s.g, s.h]
def tx (s : St) (k w : Int) : Int := add (add (add (add s.h (xor (xor (rr 6 s.e) (rr 11 s.e)) (rr 25 s.e))) (xor (and s.e s.f) (and (xor IntKind.u32.max s.e) s.g))) k) w
def ty (s : St) : Int := add (xor (xor (rr 2 s.a) (rr 13 s.a)) (rr 22 s.a)) (xor (xor (and s.a s.b) (and s.a s.c)) (and s.b s.c))
def rnd (s : St) (k w : Int) : St := ⟨add (tx s k w) (ty s), s.a, s.b, s.c, add s.d (tx s k w), s.e, s.f, s.g⟩
theorem rnd_a (a b c d e f g h k w : Int) : (rnd ⟨a, b, c, d, e, f, g, h⟩ k w).a = (h + bits .xor .u32 (bits .xor .u32 (rr 6 e) (rr 11 e)) (rr 25 e) + bits .xor .u32 (bits .and .u32 e f) (bits .and .u32 (bits .xor .u32 IntKind.u32.max e) g) + k + w + (bits .xor .u32 (bits .xor .u32 (rr 2 a) (rr 13 a)) (rr 22 a) + bits .xor .u32 (bits .xor .u32 (bits .and .u32 a b) (bits .and .u32 a c)) (bits .and .u32 b c))) % 4294967296 := by
  show add (tx _ _ _) (ty _) = _
  exact add_7 _ _ _ _ _ _ _
theorem rnd_e (a b c d e f g h k w : Int) : (rnd ⟨a, b, c, d, e, f, g, h⟩ k w).e = (d + (h + bits .xor .u32 (bits .xor .u32 (rr 6 e) (rr 11 e)) (rr 25 e) + bits .xor .u32 (bits .and .u32 e f) (bits .and .u32 (bits .xor .u32 IntKind.u32.max e) g) + k + w)) % 4294967296 := by
  show add _ (tx _ _ _) = _
  exact add_6 _ _ _ _ _ _
theorem rnd_list (a b c d e f g h k w : Int) : (rnd ⟨a, b, c, d, e, f, g, h⟩ k w).list =
    (((((((((St.mk a b c d e f g h).list.set 0 (rnd ⟨a, b, c, d, e, f, g, h⟩ k w).a).set 1 a).set 2 b).set 3 c).set 4 (rnd ⟨a, b, c, d, e, f, g, h⟩ k w).e).set 5 e).set 6 f).set 7 g) := rfl
def rounds (K W : List Int) (s : St) : Nat → St
  | 0 => s
  | t + 1 => rnd (rounds K W s t) (K.getD t 0) (W.getD t 0)
theorem rounds_zero (K W : List Int) (s : St) : rounds K W s 0 = s := rfl
theorem rounds_succ (K W : List Int) (s : St) (t : Nat) : rounds K W s (t + 1) = rnd (rounds K W s t) (K.getD t 0) (W.getD t 0) := rfl
def St.plus (s r : St) : St := ⟨add s.a r.a, add s.b r.b, add s.c r.c, add s.d r.d, add s.e r.e, add s.f r.f, add s.g r.g, add s.h r.h⟩
theorem plus_comm (s r : St) : s.plus r = r.plus s := by
  unfold St.plus
  rw [add_comm s.a, add_comm s.b, add_comm s.c, add_comm s.d, add_comm s.e, add_comm s.f, add_comm s.g, add_comm s.h]
theorem plus_at (s r : St) (t : Nat) (ht : t < 8) : ((s.plus r).list.take t ++ s.list.drop t).getD t 0 = s.list.getD t 0 ∧
    ((s.plus r).list.take t ++ s.list.drop t).set t (add (s.list.getD t 0) (r.list.getD t 0)) = (s.plus r).list.take (t + 1) ++ s.list.drop (t + 1) := by
  have h : t = 0 ∨ t = 1 ∨ t = 2 ∨ t = 3 ∨ t = 4 ∨ t = 5 ∨ t = 6 ∨ t = 7 := by omega
  rcases h with rfl | rfl | rfl | rfl | rfl | rfl | rfl | rfl <;> exact ⟨rfl, rfl⟩
theorem plus_len (s r : St) (t : Nat) (ht : t ≤ 8) : ((s.plus r).list.take t ++ s.list.drop t).length = 8 := by
  rw [List.length_append, List.length_take, List.length_drop, show (s.plus r).list.length = 8 from rfl, show s.list.length = 8 from rfl]; omega
/-- The state behind a block. -/
def block (K : List Int) (s : St) (b : List UInt8) : St := s.plus (rounds K (sched (words b 16) 48) s 64)
theorem set_fill (l : List Int) (m : Nat) (v : Int) (hm : 0 < m) : (l ++ List.replicate m 0).set l.length v = (l ++ [v]) ++ List.replicate (m - 1) 0 := by
  rw [List.set_append_right _ _ (Nat.le_refl _), Nat.sub_self]
  obtain ⟨m, rfl⟩ : ∃ q, m = q + 1 := ⟨m - 1, by omega⟩
  rw [List.replicate_succ, List.set_cons_zero, Nat.add_sub_cancel, List.append_assoc]
  rfl
theorem next_at (l : List Int) (t : Nat) (r : List Int) (hl : l.length = t) (ht : 16 ≤ t) :
    next l = add (add (add (sig1 ((l ++ r).getD (t - 2) 0)) ((l ++ r).getD (t - 7) 0)) (sig0 ((l ++ r).getD (t - 15) 0))) ((l ++ r).getD (t - 16) 0) := by
  have h : ∀ i, i < t → (l ++ r).getD i 0 = l.getD i 0 := fun i hi => by
    rw [List.getD_eq_getElem?_getD, List.getD_eq_getElem?_getD, List.getElem?_append_left (by omega)]
  rw [h _ (by omega), h _ (by omega), h _ (by omega), h _ (by omega)]
  unfold next
  rw [hl]
theorem fill_words (b : List UInt8) (k : Nat) (hk : k < 64) : (words b k ++ List.replicate (64 - k) 0).set k (word b k) = words b (k + 1) ++ List.replicate (64 - (k + 1)) 0 := by
  have := set_fill (words b k) (64 - k) (word b k) (by omega)
  rw [words_length] at this
  exact this
theorem fill_sched (l : List Int) (t : Nat) (hl : l.length = 16) (h0 : 16 ≤ t) (h1 : t < 64) :
    (sched l (t - 16) ++ List.replicate (64 - t) 0).set t (next (sched l (t - 16))) = sched l (t + 1 - 16) ++ List.replicate (64 - (t + 1)) 0 := by
  have := set_fill (sched l (t - 16)) (64 - t) (next (sched l (t - 16))) (by omega)
  rw [sched_length, hl, show 16 + (t - 16) = t by omega] at this
  rw [this, show t + 1 - 16 = (t - 16) + 1 by omega]
  rfl
end Sha
end Go.Proofs.YtjnlooccddnbkaaGreatDoor

namespace Go.Proofs.YtjnlooccddnbkaaGreatDoor
namespace Sha
open Go.RowKit
def K0 : List Int := [0x428a2f98, 0x71374491, 0xb5c0fbcf, 0xe9b5dba5, 0x3956c25b, 0x59f111f1, 0x923f82a4, 0xab1c5ed5,
  0xd807aa98, 0x12835b01, 0x243185be, 0x550c7dc3, 0x72be5d74, 0x80deb1fe, 0x9bdc06a7, 0xc19bf174,
  0xe49b69c1, 0xefbe4786, 0x0fc19dc6, 0x240ca1cc, 0x2de92c6f, 0x4a7484aa, 0x5cb0a9dc, 0x76f988da,
  0x983e5152, 0xa831c66d, 0xb00327c8, 0xbf597fc7, 0xc6e00bf3, 0xd5a79147, 0x06ca6351, 0x14292967,
  0x27b70a85, 0x2e1b2138, 0x4d2c6dfc, 0x53380d13, 0x650a7354, 0x766a0abb, 0x81c2c92e, 0x92722c85,
  0xa2bfe8a1, 0xa81a664b, 0xc24b8b70, 0xc76c51a3, 0xd192e819, 0xd6990624, 0xf40e3585, 0x106aa070,
  0x19a4c116, 0x1e376c08, 0x2748774c, 0x34b0bcb5, 0x391c0cb3, 0x4ed8aa4a, 0x5b9cca4f, 0x682e6ff3,
  0x748f82ee, 0x78a5636f, 0x84c87814, 0x8cc70208, 0x90befffa, 0xa4506ceb, 0xbef9a3f7, 0xc67178f2]
def H0 : St := ⟨0x6a09e667, 0xbb67ae85, 0x3c6ef372, 0xa54ff53a, 0x510e527f, 0x9b05688c, 0x1f83d9ab, 0x5be0cd19⟩
/-- The state behind the first q blocks of bytes. -/
def state (l : List UInt8) : Nat → St
  | 0 => H0
  | q + 1 => block K0 (state l q) ((l.drop (64 * q)).take 64)
theorem state_zero (l : List UInt8) : state l 0 = H0 := rfl
theorem state_succ (l : List UInt8) (q : Nat) : state l (q + 1) = block K0 (state l q) ((l.drop (64 * q)).take 64) := rfl
theorem state_append (l m : List UInt8) : ∀ q, 64 * q ≤ l.length → state (l ++ m) q = state l q
  | 0, _ => rfl
  | q + 1, h => by
    rw [state_succ, state_succ, state_append l m q (by omega), List.drop_append_of_le_length (by omega), List.take_append_of_le_length (by rw [List.length_drop]; omega)]
/-- The state behind all whole blocks. -/
def full (l : List UInt8) : St := state l (l.length / 64)
theorem plus_ok (s r : St) : ∀ x ∈ (s.plus r).list, 0 ≤ x := by
  intro x hx
  simp only [St.list, St.plus, List.mem_cons, List.not_mem_nil, or_false] at hx
  rcases hx with rfl | rfl | rfl | rfl | rfl | rfl | rfl | rfl <;> (unfold add; omega)
theorem state_ok (l : List UInt8) : ∀ q, ∀ x ∈ (state l q).list, 0 ≤ x
  | 0 => show ∀ x ∈ H0.list, 0 ≤ x by decide
  | q + 1 => plus_ok _ _
theorem full_ok (l : List UInt8) : ∀ x ∈ (full l).list, 0 ≤ x := state_ok _ _
/-- What fills no block yet. -/
def rest (l : List UInt8) : List UInt8 := l.drop (64 * (l.length / 64))
theorem rest_length (l : List UInt8) : (rest l).length = l.length % 64 := by unfold rest; rw [List.length_drop]; omega
theorem full_short (l m : List UInt8) (h : l.length % 64 + m.length < 64) : full (l ++ m) = full l ∧ rest (l ++ m) = rest l ++ m := by
  have e : (l ++ m).length / 64 = l.length / 64 := by rw [List.length_append]; omega
  unfold full rest
  rw [e]
  exact ⟨state_append l m _ (by omega), List.drop_append_of_le_length (by omega)⟩
theorem full_whole (l m : List UInt8) (h : l.length % 64 + m.length = 64) : full (l ++ m) = block K0 (full l) (rest l ++ m) ∧ rest (l ++ m) = [] := by
  have e : (l ++ m).length / 64 = l.length / 64 + 1 := by rw [List.length_append]; omega
  unfold full rest
  rw [e]
  refine ⟨?_, List.drop_of_length_le (by rw [List.length_append]; omega)⟩
  rw [state_succ, state_append l m _ (by omega), List.drop_append_of_le_length (by omega), List.take_of_length_le]
  rw [List.length_append, List.length_drop]; omega
/-- A number's eight bytes, the highest first. -/
def be8 (n : Nat) : List UInt8 := [UInt8.ofNat (n / 72057594037927936), UInt8.ofNat (n / 281474976710656), UInt8.ofNat (n / 1099511627776), UInt8.ofNat (n / 4294967296), UInt8.ofNat (n / 16777216), UInt8.ofNat (n / 65536), UInt8.ofNat (n / 256), UInt8.ofNat n]
/-- What stands behind the bytes at the end. -/
def tail (n : Nat) : List UInt8 := 128 :: (List.replicate ((119 - n % 64) % 64) 0 ++ be8 (8 * n))
theorem tail_length (n : Nat) : (n + (tail n).length) % 64 = 0 := by
  unfold tail be8
  simp only [List.length_cons, List.length_append, List.length_replicate, List.length_nil]
  omega
/-- A word's four bytes. -/
def w4 (x : Int) : List UInt8 := [UInt8.ofNat (x / 16777216).toNat, UInt8.ofNat (x / 65536).toNat, UInt8.ofNat (x / 256).toNat, UInt8.ofNat x.toNat]
def out (s : St) : List UInt8 := s.list.flatMap w4
theorem out_length (s : St) : (out s).length = 32 := rfl
/-- The digest of bytes. -/
def of (l : List UInt8) : List UInt8 := out (full (l ++ tail l.length))
theorem of_length (l : List UInt8) : (of l).length = 32 := rfl
end Sha
end Go.Proofs.YtjnlooccddnbkaaGreatDoor
