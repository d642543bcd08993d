/- The walk of TextOrder: it answers true. -/
import Derived.Test.YtpbefdabnjdeaaaTextAlive
import Derived.Test.YtpbefdabnjdeaaaTextRef3
import Derived.Test.YtpbefdabnjdeaaaFrame
namespace Go.Proofs.Ytpbefdabnjdeaaa.TextOrder
open Go.RowKit Go.Proofs.Ytpbefdabnjdeaaa.Text

set_option maxRecDepth 100000 in
set_option maxHeartbeats 1000000 in
theorem walk (a0 : ByteArray) (a1 : ByteArray) (a2 : Int) (w : World) (w0 : a0.size ≤ maxLen) (w1 : a1.size ≤ maxLen) (w2 : (Lit.int .i64 a2).wf = true) :
    Calls Try.prog 4 #[.string a0, .string a1, .int .i64 a2] w fun e w' => e = .returned (.bool true) ∧ Below w.heap.size w w' := by
  have W0 := Lib.hid w0
  have W1 := Lib.hid w1
  obtain ⟨l2, u2⟩ := bounds_i64 w2
  unfold maxLen at w0 w1
  have h0 := Below.refl w.heap.size w
  by_cases hs : 4096 < a0.size
  · go_enter Try.func4, Try.ntmps4
    go_wp2_with fail
    refine (alive_any _).mono ?_
    rintro e w1 ⟨rfl, k1⟩
    have h1 := bstep h0 k1
    clear k1
    go_wp2
    go_ret
    exact ⟨rfl, h1⟩
  by_cases hs1 : 4096 < a1.size
  · go_enter Try.func4, Try.ntmps4
    go_wp2_with fail
    refine (alive_any _).mono ?_
    rintro e w2 ⟨rfl, k2⟩
    have h2 := bstep h0 k2
    clear k2
    go_wp2
    go_ret
    exact ⟨rfl, h2⟩
  have hs' : a0.size ≤ 65536 := by omega
  have H1 := Lib.hid (fun w => compare_any a0 a1 w)
  have H2 := Lib.hid (fun w => refcompare_any a0 a1 w W0.out W1.out)
  have H3 := Lib.hid (fun w => cut_any a0 a2 w W0.out l2 u2)
  have H4 := Lib.hid (fun w => refcut_any a0 a2 w hs' l2 u2)
  obtain ⟨c, hc⟩ : ∃ c, c = Lib.compareBytes a0.data.toList a1.data.toList := ⟨_, rfl⟩
  rw [← hc] at H1 H2
  clear hc
  obtain ⟨o, ho⟩ : ∃ o, o = cutL (runes a0.data.toList) a2 := ⟨_, rfl⟩
  rw [← ho] at H3 H4
  clear ho
  go_enter Try.func4, Try.ntmps4
  go_wp2_with fail
  refine (H1.out _).mono ?_
  rintro e w' ⟨rfl, rfl⟩
  go_wp2_with fail
  refine (H2.out _).mono ?_
  rintro e w3 ⟨rfl, k3⟩
  have h3 := bstep h0 k3
  clear k3
  go_wp2_with fail
  refine (H3.out _).mono ?_
  rintro e w4 ⟨rfl, k4⟩
  have h4 := bstep h3 k4
  clear k4
  go_wp2_with fail
  refine (H4.out _).mono ?_
  rintro e w5 ⟨rfl, k5⟩
  have h5 := bstep h4 k5
  clear k5
  go_wp2_with fail
  refine (alive_any _).mono ?_
  rintro e w6 ⟨rfl, k6⟩
  have h6 := bstep h5 k6
  clear k6
  go_wp2
  go_ret
  exact ⟨rfl, h6⟩

end Go.Proofs.Ytpbefdabnjdeaaa.TextOrder
