/- The walk of TextTells: it answers true. -/
import Derived.Test.YtpbefdabnjdeaaaTextAlive
import Derived.Test.YtpbefdabnjdeaaaTextRef3
import Derived.Test.YtpbefdabnjdeaaaFrame
namespace Go.Proofs.Ytpbefdabnjdeaaa.TextTells
open Go.RowKit Go.Proofs.Ytpbefdabnjdeaaa.Text

set_option maxRecDepth 100000 in
set_option maxHeartbeats 1000000 in
theorem walk (a0 : ByteArray) (w : World) (w0 : a0.size ≤ maxLen) :
    Calls Try.prog 3 #[.string a0] w fun e w' => e = .returned (.bool true) ∧ Below w.heap.size w w' := by
  have W0 := Lib.hid w0
  unfold maxLen at w0
  have h0 := Below.refl w.heap.size w
  by_cases hs : 8192 < a0.size
  · go_enter Try.func3, Try.ntmps3
    go_wp2_with fail
    refine (alive_any _).mono ?_
    rintro e w1 ⟨rfl, k1⟩
    have h1 := bstep h0 k1
    clear k1
    go_wp2
    go_ret
    exact ⟨rfl, h1⟩
  have hs' : a0.size ≤ 65536 := by omega
  have H1 := Lib.hid (fun w => count_any a0 w hs')
  have H2 := Lib.hid (fun w => refkind_any a0 w hs')
  have H3 := Lib.hid (fun w => valid_any a0 w W0.out)
  have H4 := Lib.hid (fun w => runes_any a0 w W0.out)
  have H5 := Lib.hid (fun w => key_any a0 w W0.out)
  have H6 := Lib.hid (fun w => kind_any a0 w W0.out)
  obtain ⟨k, hk⟩ : ∃ k, k = kind (runes a0.data.toList) := ⟨_, rfl⟩
  rw [← hk] at H2 H5 H6
  clear hk
  obtain ⟨o, ho⟩ : ∃ o, o = runes a0.data.toList := ⟨_, rfl⟩
  rw [← ho] at H1 H3 H4
  clear ho
  have e1 : (!(k == 0)) = ((k : Int) != 0) := by
    rw [Bool.eq_iff_iff]; simp
  rw [e1] at H5
  clear e1
  cases o with
  | none =>
    rw [count_none] at H1 H4
    go_enter Try.func3, Try.ntmps3
    go_wp2_with fail
    refine (H1.out _).mono ?_
    rintro e w2 ⟨rfl, k2⟩
    have h2 := bstep h0 k2
    clear k2
    go_wp2_with fail
    refine (H2.out _).mono ?_
    rintro e w3 ⟨rfl, k3⟩
    have h3 := bstep h2 k3
    clear k3
    go_wp2_with fail
    refine (H3.out _).mono ?_
    rintro e w4 ⟨rfl, k4⟩
    have h4 := bstep h3 k4
    clear k4
    go_wp2_with fail
    refine (H4.out _).mono ?_
    rintro e w5 ⟨rfl, k5⟩
    have h5 := bstep h4 k5
    clear k5
    go_wp2_with fail
    refine (H5.out _).mono ?_
    rintro e w6 ⟨rfl, k6⟩
    have h6 := bstep h5 k6
    clear k6
    go_wp2_with fail
    refine (H6.out _).mono ?_
    rintro e w7 ⟨rfl, k7⟩
    have h7 := bstep h6 k7
    clear k7
    go_wp2_with fail
    refine (alive_any _).mono ?_
    rintro e w8 ⟨rfl, k8⟩
    have h8 := bstep h7 k8
    clear k8
    go_wp2
    go_ret
    exact ⟨rfl, h8⟩
  | some xs =>
    rw [count_some] at H1 H4
    go_enter Try.func3, Try.ntmps3
    go_wp2_with fail
    refine (H1.out _).mono ?_
    rintro e w9 ⟨rfl, k9⟩
    have h9 := bstep h0 k9
    clear k9
    go_wp2_with fail
    refine (H2.out _).mono ?_
    rintro e w10 ⟨rfl, k10⟩
    have h10 := bstep h9 k10
    clear k10
    go_wp2_with fail
    refine (H3.out _).mono ?_
    rintro e w11 ⟨rfl, k11⟩
    have h11 := bstep h10 k11
    clear k11
    go_wp2_with fail
    refine (H4.out _).mono ?_
    rintro e w12 ⟨rfl, k12⟩
    have h12 := bstep h11 k12
    clear k12
    go_wp2_with fail
    refine (H5.out _).mono ?_
    rintro e w13 ⟨rfl, k13⟩
    have h13 := bstep h12 k13
    clear k13
    go_wp2_with fail
    refine (H6.out _).mono ?_
    rintro e w14 ⟨rfl, k14⟩
    have h14 := bstep h13 k14
    clear k14
    go_wp2_with fail
    refine (alive_any _).mono ?_
    rintro e w15 ⟨rfl, k15⟩
    have h15 := bstep h14 k15
    clear k15
    go_wp2
    go_ret
    exact ⟨rfl, h15⟩

end Go.Proofs.Ytpbefdabnjdeaaa.TextTells
