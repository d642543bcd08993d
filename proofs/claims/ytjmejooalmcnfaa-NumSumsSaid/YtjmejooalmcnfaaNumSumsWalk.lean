/- The walk of NumSums: it answers true. -/
import Derived.Test.YtjmejooalmcnfaaNumAdd
import Derived.Test.YtjmejooalmcnfaaNumWorks
import Derived.OpenShut
namespace Go.Proofs.Ytjmejooalmcnfaa.NumSums
open Go.RowKit Num

set_option maxRecDepth 100000 in
set_option maxHeartbeats 1000000 in
theorem walk (a0 : Int) (a1 : Int) (a2 : Int) (a3 : Int) (w : World) (w0 : (Lit.int .u64 a0).wf = true) (w1 : (Lit.int .u64 a1).wf = true) (w2 : (Lit.int .i64 a2).wf = true) (w3 : (Lit.int .i64 a3).wf = true) :
    Calls Try.prog 5 #[.int .u64 a0, .int .u64 a1, .int .i64 a2, .int .i64 a3] w fun e w' => e = .returned (.bool true) ∧ Below w.heap.size w w' := by
  obtain ⟨l0, u0⟩ := bounds_u64 w0
  obtain ⟨l1, u1⟩ := bounds_u64 w1
  obtain ⟨l2, u2⟩ := bounds_i64 w2
  obtain ⟨l3, u3⟩ := bounds_i64 w3
  clear w0 w1 w2 w3
  have A := add_any a0 a1 w l0 l1 u0 u1
  have B := sum_any a2 a3 w l2 l3 u2 u3
  have HA := Lib.hid A; have HB := Lib.hid B
  clear A B
  by_cases hs : a0 + a1 ≤ 18446744073709551615
  · rw [if_pos hs] at HA
    cases hf : fits a2 a3
    all_goals
      rw [hf] at HB
      simp only [fits, Bool.and_eq_false_iff, decide_eq_false_iff_not, Bool.and_eq_true, decide_eq_true_eq] at hf
      by_cases h3 : 0 ≤ a3
      all_goals
        try have hx : (!decide (-9223372036854775808 - a3 ≤ a2)) = false := by simp; omega
        go_enter Try.func5, Try.ntmps5
        go_wp2_with fail
        refine HA.out.mono ?_
        rintro e w' ⟨rfl, rfl⟩
        go_wp2_with fail
        refine HB.out.mono ?_
        rintro e w' ⟨rfl, rfl⟩
        go_wp2_with fail
        refine (works_any _).mono ?_
        rintro e w' ⟨rfl, hb⟩
        go_wp2
        go_ret
        exact ⟨rfl, hb⟩
  · rw [if_neg hs] at HA
    cases hf : fits a2 a3
    all_goals
      rw [hf] at HB
      simp only [fits, Bool.and_eq_false_iff, decide_eq_false_iff_not, Bool.and_eq_true, decide_eq_true_eq] at hf
      by_cases h3 : 0 ≤ a3
      all_goals
        try have hx : (!decide (-9223372036854775808 - a3 ≤ a2)) = false := by simp; omega
        go_enter Try.func5, Try.ntmps5
        go_wp2_with fail
        refine HA.out.mono ?_
        rintro e w' ⟨rfl, rfl⟩
        go_wp2_with fail
        refine HB.out.mono ?_
        rintro e w' ⟨rfl, rfl⟩
        go_wp2_with fail
        refine (works_any _).mono ?_
        rintro e w' ⟨rfl, hb⟩
        go_wp2
        go_ret
        exact ⟨rfl, hb⟩

end Go.Proofs.Ytjmejooalmcnfaa.NumSums
