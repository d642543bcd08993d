
/- sha: turning right, by the numbers that are asked for. -/
import Derived.Test.YtibdpjhiblhnmaaDoorProg
import Derived.Test.YtibdpjhiblhnmaaDoorStr
import Derived.Test.YtibdpjhiblhnmaaDoorFrame
import Derived.WalkKit
import Derived.WalkSpells
import Derived.WalkLawsBesides
import Derived.Lib.Hide
import Derived.Deep.QuietTactic
namespace Go.Proofs.YtibdpjhiblhnmaaDoor
namespace Sha
open Go.RowKit
/-- A word turned right. -/
def rr (n : Int) (x : Int) : Int := bits .or .u32 (x / 2 ^ n.toNat) (x * 2 ^ (32 - n.toNat) % 4294967296)
/-- A quiet call behind draws. -/
theorem quiet_more {P : Program} {f : FuncId} {args : Array Value} {w : World} {a n : Nat} {v : Value}
    (h : Calls P f args (w.drewN (a + n)) fun e w' => e = .returned v ∧ w' = w.drewN (a + n)) :
    Calls P f args (w.drewN (a + n)) fun e w' => e = .returned v ∧ ∃ m, w' = w.drewN (a + m) :=
  h.mono fun _ _ hh => ⟨hh.1, n, hh.2⟩
theorem or_comm (a b : Int) : bits .or .u32 a b = bits .or .u32 b a := by
  show IntKind.u32.wrap ((BitVec.ofInt 32 a ||| BitVec.ofInt 32 b).toNat : Int) = IntKind.u32.wrap ((BitVec.ofInt 32 b ||| BitVec.ofInt 32 a).toNat : Int)
  rw [BitVec.or_comm]
theorem rr_2 (x : Int) : rr 2 x = bits .or .u32 (x / 4) (x * 1073741824 % 4294967296) := rfl
set_option maxRecDepth 100000 in
theorem rot_2 (x : Int) (w : World) :
    Calls Tryd.prog 53 #[.int .u32 x, .int .i64 (-2)] w fun e w' => e = .returned (.int .u32 (rr 2 x)) ∧ w = w' := by
  have h : bits .and .u64 (IntKind.u64.wrap (-2)) 31 = 30 := by decide
  have HV := Lib.hid ((rr_2 x).trans (or_comm _ _))
  go_enter Tryd.func53, Tryd.ntmps53
  go_wp2
  go_ret
  exact ⟨by rw [HV.out]; rfl, rfl⟩
set_option maxRecDepth 100000 in
theorem right_2 (x : Int) (w : World) :
    Calls Tryd.prog 33 #[.int .u32 x, .int .i64 2] w fun e w' => e = .returned (.int .u32 (rr 2 x)) ∧ w = w' := by
  go_enter Tryd.func33, Tryd.ntmps33
  go_wp2_with fail
  refine (rot_2 _ _).mono ?_
  rintro e w' ⟨rfl, rfl⟩
  go_wp2
  go_ret
  exact ⟨rfl, rfl⟩
set_option maxRecDepth 100000 in
theorem ref_right_2 (x : Int) (w : World) :
    Calls Tryd.prog 29 #[.int .u32 x, .int .u64 2] w fun e w' => e = .returned (.int .u32 (rr 2 x)) ∧ w = w' := by
  have HV := Lib.hid (rr_2 x)
  go_enter Tryd.func29, Tryd.ntmps29
  go_wp2
  go_ret
  exact ⟨by rw [HV.out]; rfl, rfl⟩
theorem rr_6 (x : Int) : rr 6 x = bits .or .u32 (x / 64) (x * 67108864 % 4294967296) := rfl
set_option maxRecDepth 100000 in
theorem rot_6 (x : Int) (w : World) :
    Calls Tryd.prog 53 #[.int .u32 x, .int .i64 (-6)] w fun e w' => e = .returned (.int .u32 (rr 6 x)) ∧ w = w' := by
  have h : bits .and .u64 (IntKind.u64.wrap (-6)) 31 = 26 := by decide
  have HV := Lib.hid ((rr_6 x).trans (or_comm _ _))
  go_enter Tryd.func53, Tryd.ntmps53
  go_wp2
  go_ret
  exact ⟨by rw [HV.out]; rfl, rfl⟩
set_option maxRecDepth 100000 in
theorem right_6 (x : Int) (w : World) :
    Calls Tryd.prog 33 #[.int .u32 x, .int .i64 6] w fun e w' => e = .returned (.int .u32 (rr 6 x)) ∧ w = w' := by
  go_enter Tryd.func33, Tryd.ntmps33
  go_wp2_with fail
  refine (rot_6 _ _).mono ?_
  rintro e w' ⟨rfl, rfl⟩
  go_wp2
  go_ret
  exact ⟨rfl, rfl⟩
set_option maxRecDepth 100000 in
theorem ref_right_6 (x : Int) (w : World) :
    Calls Tryd.prog 29 #[.int .u32 x, .int .u64 6] w fun e w' => e = .returned (.int .u32 (rr 6 x)) ∧ w = w' := by
  have HV := Lib.hid (rr_6 x)
  go_enter Tryd.func29, Tryd.ntmps29
  go_wp2
  go_ret
  exact ⟨by rw [HV.out]; rfl, rfl⟩
theorem rr_7 (x : Int) : rr 7 x = bits .or .u32 (x / 128) (x * 33554432 % 4294967296) := rfl
set_option maxRecDepth 100000 in
theorem rot_7 (x : Int) (w : World) :
    Calls Tryd.prog 53 #[.int .u32 x, .int .i64 (-7)] w fun e w' => e = .returned (.int .u32 (rr 7 x)) ∧ w = w' := by
  have h : bits .and .u64 (IntKind.u64.wrap (-7)) 31 = 25 := by decide
  have HV := Lib.hid ((rr_7 x).trans (or_comm _ _))
  go_enter Tryd.func53, Tryd.ntmps53
  go_wp2
  go_ret
  exact ⟨by rw [HV.out]; rfl, rfl⟩
set_option maxRecDepth 100000 in
theorem right_7 (x : Int) (w : World) :
    Calls Tryd.prog 33 #[.int .u32 x, .int .i64 7] w fun e w' => e = .returned (.int .u32 (rr 7 x)) ∧ w = w' := by
  go_enter Tryd.func33, Tryd.ntmps33
  go_wp2_with fail
  refine (rot_7 _ _).mono ?_
  rintro e w' ⟨rfl, rfl⟩
  go_wp2
  go_ret
  exact ⟨rfl, rfl⟩
set_option maxRecDepth 100000 in
theorem ref_right_7 (x : Int) (w : World) :
    Calls Tryd.prog 29 #[.int .u32 x, .int .u64 7] w fun e w' => e = .returned (.int .u32 (rr 7 x)) ∧ w = w' := by
  have HV := Lib.hid (rr_7 x)
  go_enter Tryd.func29, Tryd.ntmps29
  go_wp2
  go_ret
  exact ⟨by rw [HV.out]; rfl, rfl⟩
theorem rr_11 (x : Int) : rr 11 x = bits .or .u32 (x / 2048) (x * 2097152 % 4294967296) := rfl
set_option maxRecDepth 100000 in
theorem rot_11 (x : Int) (w : World) :
    Calls Tryd.prog 53 #[.int .u32 x, .int .i64 (-11)] w fun e w' => e = .returned (.int .u32 (rr 11 x)) ∧ w = w' := by
  have h : bits .and .u64 (IntKind.u64.wrap (-11)) 31 = 21 := by decide
  have HV := Lib.hid ((rr_11 x).trans (or_comm _ _))
  go_enter Tryd.func53, Tryd.ntmps53
  go_wp2
  go_ret
  exact ⟨by rw [HV.out]; rfl, rfl⟩
set_option maxRecDepth 100000 in
theorem right_11 (x : Int) (w : World) :
    Calls Tryd.prog 33 #[.int .u32 x, .int .i64 11] w fun e w' => e = .returned (.int .u32 (rr 11 x)) ∧ w = w' := by
  go_enter Tryd.func33, Tryd.ntmps33
  go_wp2_with fail
  refine (rot_11 _ _).mono ?_
  rintro e w' ⟨rfl, rfl⟩
  go_wp2
  go_ret
  exact ⟨rfl, rfl⟩
set_option maxRecDepth 100000 in
theorem ref_right_11 (x : Int) (w : World) :
    Calls Tryd.prog 29 #[.int .u32 x, .int .u64 11] w fun e w' => e = .returned (.int .u32 (rr 11 x)) ∧ w = w' := by
  have HV := Lib.hid (rr_11 x)
  go_enter Tryd.func29, Tryd.ntmps29
  go_wp2
  go_ret
  exact ⟨by rw [HV.out]; rfl, rfl⟩
theorem rr_13 (x : Int) : rr 13 x = bits .or .u32 (x / 8192) (x * 524288 % 4294967296) := rfl
set_option maxRecDepth 100000 in
theorem rot_13 (x : Int) (w : World) :
    Calls Tryd.prog 53 #[.int .u32 x, .int .i64 (-13)] w fun e w' => e = .returned (.int .u32 (rr 13 x)) ∧ w = w' := by
  have h : bits .and .u64 (IntKind.u64.wrap (-13)) 31 = 19 := by decide
  have HV := Lib.hid ((rr_13 x).trans (or_comm _ _))
  go_enter Tryd.func53, Tryd.ntmps53
  go_wp2
  go_ret
  exact ⟨by rw [HV.out]; rfl, rfl⟩
set_option maxRecDepth 100000 in
theorem right_13 (x : Int) (w : World) :
    Calls Tryd.prog 33 #[.int .u32 x, .int .i64 13] w fun e w' => e = .returned (.int .u32 (rr 13 x)) ∧ w = w' := by
  go_enter Tryd.func33, Tryd.ntmps33
  go_wp2_with fail
  refine (rot_13 _ _).mono ?_
  rintro e w' ⟨rfl, rfl⟩
  go_wp2
  go_ret
  exact ⟨rfl, rfl⟩
set_option maxRecDepth 100000 in
theorem ref_right_13 (x : Int) (w : World) :
    Calls Tryd.prog 29 #[.int .u32 x, .int .u64 13] w fun e w' => e = .returned (.int .u32 (rr 13 x)) ∧ w = w' := by
  have HV := Lib.hid (rr_13 x)
  go_enter Tryd.func29, Tryd.ntmps29
  go_wp2
  go_ret
  exact ⟨by rw [HV.out]; rfl, rfl⟩
theorem rr_17 (x : Int) : rr 17 x = bits .or .u32 (x / 131072) (x * 32768 % 4294967296) := rfl
set_option maxRecDepth 100000 in
theorem rot_17 (x : Int) (w : World) :
    Calls Tryd.prog 53 #[.int .u32 x, .int .i64 (-17)] w fun e w' => e = .returned (.int .u32 (rr 17 x)) ∧ w = w' := by
  have h : bits .and .u64 (IntKind.u64.wrap (-17)) 31 = 15 := by decide
  have HV := Lib.hid ((rr_17 x).trans (or_comm _ _))
  go_enter Tryd.func53, Tryd.ntmps53
  go_wp2
  go_ret
  exact ⟨by rw [HV.out]; rfl, rfl⟩
set_option maxRecDepth 100000 in
theorem right_17 (x : Int) (w : World) :
    Calls Tryd.prog 33 #[.int .u32 x, .int .i64 17] w fun e w' => e = .returned (.int .u32 (rr 17 x)) ∧ w = w' := by
  go_enter Tryd.func33, Tryd.ntmps33
  go_wp2_with fail
  refine (rot_17 _ _).mono ?_
  rintro e w' ⟨rfl, rfl⟩
  go_wp2
  go_ret
  exact ⟨rfl, rfl⟩
set_option maxRecDepth 100000 in
theorem ref_right_17 (x : Int) (w : World) :
    Calls Tryd.prog 29 #[.int .u32 x, .int .u64 17] w fun e w' => e = .returned (.int .u32 (rr 17 x)) ∧ w = w' := by
  have HV := Lib.hid (rr_17 x)
  go_enter Tryd.func29, Tryd.ntmps29
  go_wp2
  go_ret
  exact ⟨by rw [HV.out]; rfl, rfl⟩
theorem rr_18 (x : Int) : rr 18 x = bits .or .u32 (x / 262144) (x * 16384 % 4294967296) := rfl
set_option maxRecDepth 100000 in
theorem rot_18 (x : Int) (w : World) :
    Calls Tryd.prog 53 #[.int .u32 x, .int .i64 (-18)] w fun e w' => e = .returned (.int .u32 (rr 18 x)) ∧ w = w' := by
  have h : bits .and .u64 (IntKind.u64.wrap (-18)) 31 = 14 := by decide
  have HV := Lib.hid ((rr_18 x).trans (or_comm _ _))
  go_enter Tryd.func53, Tryd.ntmps53
  go_wp2
  go_ret
  exact ⟨by rw [HV.out]; rfl, rfl⟩
set_option maxRecDepth 100000 in
theorem right_18 (x : Int) (w : World) :
    Calls Tryd.prog 33 #[.int .u32 x, .int .i64 18] w fun e w' => e = .returned (.int .u32 (rr 18 x)) ∧ w = w' := by
  go_enter Tryd.func33, Tryd.ntmps33
  go_wp2_with fail
  refine (rot_18 _ _).mono ?_
  rintro e w' ⟨rfl, rfl⟩
  go_wp2
  go_ret
  exact ⟨rfl, rfl⟩
set_option maxRecDepth 100000 in
theorem ref_right_18 (x : Int) (w : World) :
    Calls Tryd.prog 29 #[.int .u32 x, .int .u64 18] w fun e w' => e = .returned (.int .u32 (rr 18 x)) ∧ w = w' := by
  have HV := Lib.hid (rr_18 x)
  go_enter Tryd.func29, Tryd.ntmps29
  go_wp2
  go_ret
  exact ⟨by rw [HV.out]; rfl, rfl⟩
theorem rr_19 (x : Int) : rr 19 x = bits .or .u32 (x / 524288) (x * 8192 % 4294967296) := rfl
set_option maxRecDepth 100000 in
theorem rot_19 (x : Int) (w : World) :
    Calls Tryd.prog 53 #[.int .u32 x, .int .i64 (-19)] w fun e w' => e = .returned (.int .u32 (rr 19 x)) ∧ w = w' := by
  have h : bits .and .u64 (IntKind.u64.wrap (-19)) 31 = 13 := by decide
  have HV := Lib.hid ((rr_19 x).trans (or_comm _ _))
  go_enter Tryd.func53, Tryd.ntmps53
  go_wp2
  go_ret
  exact ⟨by rw [HV.out]; rfl, rfl⟩
set_option maxRecDepth 100000 in
theorem right_19 (x : Int) (w : World) :
    Calls Tryd.prog 33 #[.int .u32 x, .int .i64 19] w fun e w' => e = .returned (.int .u32 (rr 19 x)) ∧ w = w' := by
  go_enter Tryd.func33, Tryd.ntmps33
  go_wp2_with fail
  refine (rot_19 _ _).mono ?_
  rintro e w' ⟨rfl, rfl⟩
  go_wp2
  go_ret
  exact ⟨rfl, rfl⟩
set_option maxRecDepth 100000 in
theorem ref_right_19 (x : Int) (w : World) :
    Calls Tryd.prog 29 #[.int .u32 x, .int .u64 19] w fun e w' => e = .returned (.int .u32 (rr 19 x)) ∧ w = w' := by
  have HV := Lib.hid (rr_19 x)
  go_enter Tryd.func29, Tryd.ntmps29
  go_wp2
  go_ret
  exact ⟨by rw [HV.out]; rfl, rfl⟩
theorem rr_22 (x : Int) : rr 22 x = bits .or .u32 (x / 4194304) (x * 1024 % 4294967296) := rfl
set_option maxRecDepth 100000 in
theorem rot_22 (x : Int) (w : World) :
    Calls Tryd.prog 53 #[.int .u32 x, .int .i64 (-22)] w fun e w' => e = .returned (.int .u32 (rr 22 x)) ∧ w = w' := by
  have h : bits .and .u64 (IntKind.u64.wrap (-22)) 31 = 10 := by decide
  have HV := Lib.hid ((rr_22 x).trans (or_comm _ _))
  go_enter Tryd.func53, Tryd.ntmps53
  go_wp2
  go_ret
  exact ⟨by rw [HV.out]; rfl, rfl⟩
set_option maxRecDepth 100000 in
theorem right_22 (x : Int) (w : World) :
    Calls Tryd.prog 33 #[.int .u32 x, .int .i64 22] w fun e w' => e = .returned (.int .u32 (rr 22 x)) ∧ w = w' := by
  go_enter Tryd.func33, Tryd.ntmps33
  go_wp2_with fail
  refine (rot_22 _ _).mono ?_
  rintro e w' ⟨rfl, rfl⟩
  go_wp2
  go_ret
  exact ⟨rfl, rfl⟩
set_option maxRecDepth 100000 in
theorem ref_right_22 (x : Int) (w : World) :
    Calls Tryd.prog 29 #[.int .u32 x, .int .u64 22] w fun e w' => e = .returned (.int .u32 (rr 22 x)) ∧ w = w' := by
  have HV := Lib.hid (rr_22 x)
  go_enter Tryd.func29, Tryd.ntmps29
  go_wp2
  go_ret
  exact ⟨by rw [HV.out]; rfl, rfl⟩
theorem rr_25 (x : Int) : rr 25 x = bits .or .u32 (x / 33554432) (x * 128 % 4294967296) := rfl
set_option maxRecDepth 100000 in
theorem rot_25 (x : Int) (w : World) :
    Calls Tryd.prog 53 #[.int .u32 x, .int .i64 (-25)] w fun e w' => e = .returned (.int .u32 (rr 25 x)) ∧ w = w' := by
  have h : bits .and .u64 (IntKind.u64.wrap (-25)) 31 = 7 := by decide
  have HV := Lib.hid ((rr_25 x).trans (or_comm _ _))
  go_enter Tryd.func53, Tryd.ntmps53
  go_wp2
  go_ret
  exact ⟨by rw [HV.out]; rfl, rfl⟩
set_option maxRecDepth 100000 in
theorem right_25 (x : Int) (w : World) :
    Calls Tryd.prog 33 #[.int .u32 x, .int .i64 25] w fun e w' => e = .returned (.int .u32 (rr 25 x)) ∧ w = w' := by
  go_enter Tryd.func33, Tryd.ntmps33
  go_wp2_with fail
  refine (rot_25 _ _).mono ?_
  rintro e w' ⟨rfl, rfl⟩
  go_wp2
  go_ret
  exact ⟨rfl, rfl⟩
set_option maxRecDepth 100000 in
theorem ref_right_25 (x : Int) (w : World) :
    Calls Tryd.prog 29 #[.int .u32 x, .int .u64 25] w fun e w' => e = .returned (.int .u32 (rr 25 x)) ∧ w = w' := by
  have HV := Lib.hid (rr_25 x)
  go_enter Tryd.func29, Tryd.ntmps29
  go_wp2
  go_ret
  exact ⟨by rw [HV.out]; rfl, rfl⟩
def turns : List Int := [2, 6, 7, 11, 13, 17, 18, 19, 22, 25]
theorem right_q (n x : Int) (hn : n ∈ turns) (w : World) :
    Calls Tryd.prog 33 #[.int .u32 x, .int .i64 n] w fun e w' => e = .returned (.int .u32 (rr n x)) ∧ w' = w := by
  simp only [turns, List.mem_cons, List.not_mem_nil, or_false] at hn
  rcases hn with rfl | rfl | rfl | rfl | rfl | rfl | rfl | rfl | rfl | rfl
  · exact (right_2 x w).mono fun _ _ h => ⟨h.1, h.2.symm⟩
  · exact (right_6 x w).mono fun _ _ h => ⟨h.1, h.2.symm⟩
  · exact (right_7 x w).mono fun _ _ h => ⟨h.1, h.2.symm⟩
  · exact (right_11 x w).mono fun _ _ h => ⟨h.1, h.2.symm⟩
  · exact (right_13 x w).mono fun _ _ h => ⟨h.1, h.2.symm⟩
  · exact (right_17 x w).mono fun _ _ h => ⟨h.1, h.2.symm⟩
  · exact (right_18 x w).mono fun _ _ h => ⟨h.1, h.2.symm⟩
  · exact (right_19 x w).mono fun _ _ h => ⟨h.1, h.2.symm⟩
  · exact (right_22 x w).mono fun _ _ h => ⟨h.1, h.2.symm⟩
  · exact (right_25 x w).mono fun _ _ h => ⟨h.1, h.2.symm⟩
theorem right_any (n x : Int) (hn : n ∈ turns) (w : World) :
    Calls Tryd.prog 33 #[.int .u32 x, .int .i64 n] w fun e w' => e = .returned (.int .u32 (rr n x)) ∧ w = w' := (right_q n x hn w).mono fun _ _ h => ⟨h.1, h.2.symm⟩
theorem ref_right_any (n x : Int) (hn : n ∈ turns) (w : World) :
    Calls Tryd.prog 29 #[.int .u32 x, .int .u64 n] w fun e w' => e = .returned (.int .u32 (rr n x)) ∧ w = w' := by
  simp only [turns, List.mem_cons, List.not_mem_nil, or_false] at hn
  rcases hn with rfl | rfl | rfl | rfl | rfl | rfl | rfl | rfl | rfl | rfl
  · exact ref_right_2 x w
  · exact ref_right_6 x w
  · exact ref_right_7 x w
  · exact ref_right_11 x w
  · exact ref_right_13 x w
  · exact ref_right_17 x w
  · exact ref_right_18 x w
  · exact ref_right_19 x w
  · exact ref_right_22 x w
  · exact ref_right_25 x w
end Sha
end Go.Proofs.YtibdpjhiblhnmaaDoor
