/- The walk of WireNil: it answers true. -/
import Derived.Test.YteladdjdmgjagaaWireAlive
namespace Go.Proofs.Yteladdjdmgjagaa.WireNil
open Go.RowKit Go.Proofs.Yteladdjdmgjagaa.Wire

theorem err_nil (w : World) : Calls Try.prog 19 #[.pointer none] w fun e w' => e = .returned (.int .i64 1) ∧ w = w' := by
  go_enter Try.func19, Try.ntmps19
  go_wp2
  go_ret
  exact ⟨rfl, rfl⟩
theorem take_nil (f : Value) (w : World) : Calls Try.prog 27 #[.pointer none, f] w fun e w' => e = .returned (.tuple #[]) ∧ w = w' := by
  go_enter Try.func27, Try.ntmps27
  go_wp2_with fail
  refine (err_nil _).mono ?_
  rintro e w' ⟨rfl, rfl⟩
  go_wp2
  refine bodyPost_ret (results_none rfl _ _ _) rfl ?_
  exact ⟨rfl, rfl⟩

theorem num_nil (most : Int) (w : World) : Calls Try.prog 16 #[.pointer none, .int .u64 most] w fun e w' => e = .returned (.int .u64 0) ∧ Below w.heap.size w w' := by
  have hmf : ∀ (fn : Fn) (first cap : Array Value) (w : World), (Instr.makeFunc fn first cap).run Try.prog w = .ok (.func fn first cap) w := fun _ _ _ _ => rfl
  have h0 := Below.refl w.heap.size w
  go_enter Try.func16, Try.ntmps16
  go_wp2_with fail
  refine (take_nil _ _).mono ?_
  rintro e w' ⟨rfl, rfl⟩
  go_wp2
  go_ret
  exact ⟨rfl, balloc (balloc h0 _) _⟩

theorem text_nil (most : Int) (w : World) : Calls Try.prog 17 #[.pointer none, .int .i64 most] w fun e w' => e = .returned (.string ⟨#[]⟩) ∧ Below w.heap.size w w' := by
  have hmf : ∀ (fn : Fn) (first cap : Array Value) (w : World), (Instr.makeFunc fn first cap).run Try.prog w = .ok (.func fn first cap) w := fun _ _ _ _ => rfl
  have h0 := Below.refl w.heap.size w
  go_enter Try.func17, Try.ntmps17
  go_wp2_with fail
  refine (take_nil _ _).mono ?_
  rintro e w' ⟨rfl, rfl⟩
  go_wp2
  go_ret
  exact ⟨rfl, balloc (balloc h0 _) _⟩

theorem bool_nil (w : World) : Calls Try.prog 18 #[.pointer none] w fun e w' => e = .returned (.bool false) ∧ Below w.heap.size w w' := by
  have hmf : ∀ (fn : Fn) (first cap : Array Value) (w : World), (Instr.makeFunc fn first cap).run Try.prog w = .ok (.func fn first cap) w := fun _ _ _ _ => rfl
  have h0 := Below.refl w.heap.size w
  go_enter Try.func18, Try.ntmps18
  go_wp2_with fail
  refine (take_nil _ _).mono ?_
  rintro e w' ⟨rfl, rfl⟩
  go_wp2
  go_ret
  exact ⟨rfl, balloc h0 _⟩

theorem fail_nil (n : Int) (w : World) : Calls Try.prog 21 #[.pointer none, .int .i64 n] w fun e w' => e = .returned (.tuple #[]) ∧ Below w.heap.size w w' := by
  have hmf : ∀ (fn : Fn) (first cap : Array Value) (w : World), (Instr.makeFunc fn first cap).run Try.prog w = .ok (.func fn first cap) w := fun _ _ _ _ => rfl
  have h0 := Below.refl w.heap.size w
  go_enter Try.func21, Try.ntmps21
  go_wp2_with fail
  refine (take_nil _ _).mono ?_
  rintro e w' ⟨rfl, rfl⟩
  go_wp2
  go_end0
  exact ⟨rfl, balloc h0 _⟩
theorem end_nil (w : World) : Calls Try.prog 20 #[.pointer none] w fun e w' => e = .returned (.int .i64 1) ∧ w = w' := by
  go_enter Try.func20, Try.ntmps20
  go_wp2_with fail
  refine (take_nil _ _).mono ?_
  rintro e w' ⟨rfl, rfl⟩
  go_wp2_with fail
  refine (err_nil _).mono ?_
  rintro e w' ⟨rfl, rfl⟩
  go_wp2
  go_ret
  exact ⟨rfl, rfl⟩
theorem int_nil (n : Int) (w : World) : Calls Try.prog 22 #[.pointer none, .int .i64 n] w fun e w' => e = .returned (.int .i64 0) ∧ Below w.heap.size w w' := by
  have h0 := Below.refl w.heap.size w
  by_cases hm : n < 0
  · have hd : decide (n < 0) = true := decide_eq_true hm
    go_enter Try.func22, Try.ntmps22
    go_wp2_with fail
    refine (fail_nil _ _).mono ?_
    rintro e w' ⟨rfl, k⟩
    go_wp2
    go_ret
    exact ⟨rfl, k⟩
  · have hd : decide (n < 0) = false := decide_eq_false hm
    go_enter Try.func22, Try.ntmps22
    go_wp2_with fail
    refine (num_nil _ _).mono ?_
    rintro e w' ⟨rfl, k⟩
    go_wp2
    go_ret
    exact ⟨rfl, k⟩

set_option maxRecDepth 100000 in
set_option maxHeartbeats 1000000 in
theorem walk (a0 : Int) (w : World) (_w0 : (Lit.int .i64 a0).wf = true) :
    Calls Try.prog 6 #[.int .i64 a0] w fun e w' => e = .returned (.bool true) ∧ Below w.heap.size w w' := by
  have h0 := Below.refl w.heap.size w
  go_enter Try.func6, Try.ntmps6
  go_wp2_with fail
  refine (fail_nil _ _).mono ?_
  rintro e w1 ⟨rfl, k1⟩
  have h1 := bstep h0 k1
  clear k1
  go_wp2_with fail
  refine (num_nil _ _).mono ?_
  rintro e w2 ⟨rfl, k2⟩
  have h2 := bstep h1 k2
  clear k2
  go_wp2_with fail
  refine (int_nil _ _).mono ?_
  rintro e w3 ⟨rfl, k3⟩
  have h3 := bstep h2 k3
  clear k3
  go_wp2_with fail
  refine (text_nil _ _).mono ?_
  rintro e w4 ⟨rfl, k4⟩
  have h4 := bstep h3 k4
  clear k4
  go_wp2_with fail
  refine (bool_nil _).mono ?_
  rintro e w5 ⟨rfl, k5⟩
  have h5 := bstep h4 k5
  clear k5
  go_wp2_with fail
  refine (err_nil _).mono ?_
  rintro e w' ⟨rfl, rfl⟩
  go_wp2_with fail
  refine (end_nil _).mono ?_
  rintro e w' ⟨rfl, rfl⟩
  go_wp2_with fail
  refine (alive_any _).mono ?_
  rintro e w6 ⟨rfl, k6⟩
  have h6 := bstep h5 k6
  go_wp2
  go_ret
  exact ⟨rfl, h6⟩

end Go.Proofs.Yteladdjdmgjagaa.WireNil
