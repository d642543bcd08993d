/- The walk of TextCuts: it answers true. -/
import Derived.Test.YtpbefdabnjdeaaaTextAlive
import Derived.Test.YtpbefdabnjdeaaaTextMore
import Derived.Test.YtpbefdabnjdeaaaFrame
namespace Go.Proofs.Ytpbefdabnjdeaaa.TextCuts
open Go.RowKit Go.Proofs.Ytpbefdabnjdeaaa.Text

set_option maxRecDepth 100000 in
set_option maxHeartbeats 2000000 in
theorem walk (a0 : ByteArray) (a1 : Int) (a2 : Int) (w : World) (w0 : a0.size ≤ maxLen) (w1 : (Lit.int .i16 a1).wf = true) (w2 : (Lit.int .i16 a2).wf = true) :
    Calls Try.prog 8 #[.string a0, .int .i16 a1, .int .i16 a2] w fun e w' => e = .returned (.bool true) ∧ Below w.heap.size w w' := by
  have W0 := Lib.hid w0
  obtain ⟨l1, u1⟩ := bounds_i16 w1
  obtain ⟨l2, u2⟩ := bounds_i16 w2
  clear w1 w2
  unfold maxLen at w0
  have h0 := Below.refl w.heap.size w
  by_cases hs : 4096 < a0.size
  · go_enter Try.func8, Try.ntmps8
    go_wp2_with fail
    refine (alive_any _).mono ?_
    rintro e w1 ⟨rfl, k1⟩
    have h1 := bstep h0 k1
    clear k1
    go_wp2
    go_ret
    exact ⟨rfl, h1⟩
  have H1 := Lib.hid (fun w => valid_any a0 w W0.out)
  have H3 := Lib.hid (fun w => runes_any a0 w W0.out)
  have H2 := Lib.hid (fun n w h1 h2 => cut_any a0 n w W0.out h1 h2)
  cases ho : runes a0.data.toList with
  | none =>
    rw [ho] at H1
    clear H2 H3
    go_enter Try.func8, Try.ntmps8
    go_wp2_with fail
    refine (H1.out _).mono ?_
    rintro e w2 ⟨rfl, k2⟩
    have h2 := bstep h0 k2
    clear k2
    go_wp2_with fail
    refine (alive_any _).mono ?_
    rintro e w3 ⟨rfl, k3⟩
    have h3 := bstep h2 k3
    clear k3
    go_wp2
    go_ret
    exact ⟨rfl, h3⟩
  | some xs =>
    simp only [ho] at H1 H2 H3
    rw [count_some] at H3
    obtain ⟨ha, hx⟩ := runes_some ho
    have hal : a0.size = (cat xs).length := by rw [← ha, ← Str.size_eq]
    have hcl := cat_len xs
    have hkl : xs.length ≤ 4096 := by omega
    obtain rfl : a0 = ⟨(cat xs).toArray⟩ := Str.ext (by rw [List.toList_toArray]; exact ha)
    clear ha hal W0 ho
    obtain ⟨k, hk⟩ : ∃ k, k = xs.length := ⟨_, rfl⟩
    have C1 := Lib.hid (fun w => H2.out a1 w (by omega) (by omega))
    have C2 := H3
    have hlt : (cat (xs.take a1.toNat)).length ≤ 65536 := by
      have h1 := congrArg List.length (cat_take_drop xs a1.toNat)
      rw [List.length_append] at h1
      rw [Str.size_mk] at hs
      omega
    have C3 := Lib.hid (fun w => cut_const (cat (xs.take a1.toNat)) _ (runes_cut hx a1.toNat) hlt a2 (by omega) (by omega) _ (cut_cut xs a1 a2) w)
    have C4 := Lib.hid (fun w => H2.out (min a1 a2) w (by omega) (by omega))
    have C5 := Lib.hid (fun w => H2.out (xs.length : Int) w (by omega) (by omega))
    have C6 := Lib.hid (fun w => runes_const (cat (xs.take a1.toNat)) _ (runes_cut hx a1.toNat) hlt w)
    have C7 := Lib.hid (fun w => H2.out ((xs.length : Int) - 1) w (by omega) (by omega))
    have C8 := Lib.hid (fun h w => compare_const (cat (xs.take (xs.length - 1))) (cat xs) _ (cmp_cut_last h) w)
    have C9 := Lib.hid (fun w => compare_const (cat (xs.take a1.toNat)) (cat xs) _ rfl w)
    have hc9 := cmp_cut_le xs a1.toNat
    simp only [cutL_some, Int.toNat_natCast, List.take_length] at C5
    simp only [count_some, cutL_some, List.length_take, ← hk] at C1 C2 C4 C5 C6 C7
    rw [show ((k : Int) - 1).toNat = k - 1 by omega] at C7
    rw [← hk] at C8 hkl
    obtain ⟨L, hL⟩ : ∃ L, L = cat xs := ⟨_, rfl⟩
    obtain ⟨A, hA⟩ : ∃ A, A = cat (xs.take a1.toNat) := ⟨_, rfl⟩
    obtain ⟨B, hB⟩ : ∃ B, B = cat (xs.take (k - 1)) := ⟨_, rfl⟩
    obtain ⟨C, hC⟩ : ∃ C, C = cat (xs.take (min a1 a2).toNat) := ⟨_, rfl⟩
    rw [cutL_some, ← hC, ← hA] at C3
    rw [← hC, ← hL] at C4
    rw [← hA, ← hL] at C1 C9 hc9
    rw [← hL] at C2 H1 C5 hs w0 ⊢
    rw [← hA] at C6
    rw [← hB, ← hL] at C7 C8
    obtain ⟨c, hc⟩ : ∃ c, c = Lib.compareBytes A L := ⟨_, rfl⟩
    rw [← hc] at C9 hc9
    clear hc hL hA hB hC hlt hcl H2 H3
    obtain ⟨r, hr⟩ : ∃ r, r = min a1.toNat k := ⟨_, rfl⟩
    rw [← hr] at C6
    have hne : xs = [] ↔ k = 0 := by rw [hk, List.length_eq_zero_iff]
    clear hk
    rw [Str.size_mk] at w0 hs
    go_enter Try.func8, Try.ntmps8
    go_wp2_with fail
    refine (H1.out _).mono ?_
    rintro e w4 ⟨rfl, k4⟩
    have h4 := bstep h0 k4
    clear k4
    go_wp2_with fail
    refine (C1.out _).mono ?_
    rintro e w5 ⟨rfl, k5⟩
    have h5 := bstep h4 k5
    clear k5
    go_wp2_with fail
    refine (C2.out _).mono ?_
    rintro e w6 ⟨rfl, k6⟩
    have h6 := bstep h5 k6
    clear k6
    go_wp2_with fail
    refine (C3.out _).mono ?_
    rintro e w7 ⟨rfl, k7⟩
    have h7 := bstep h6 k7
    clear k7
    go_wp2_with fail
    refine (C4.out _).mono ?_
    rintro e w8 ⟨rfl, k8⟩
    have h8 := bstep h7 k8
    clear k8
    go_wp2_with fail
    refine (C5.out _).mono ?_
    rintro e w9 ⟨rfl, k9⟩
    have h9 := bstep h8 k9
    clear k9
    go_wp2_with fail
    refine (C6.out _).mono ?_
    rintro e w10 ⟨rfl, k10⟩
    have h10 := bstep h9 k10
    clear k10
    go_wp2_with fail
    · go_wp2_with fail
      refine (C9.out _).mono ?_
      rintro e w' ⟨rfl, rfl⟩
      go_wp2_with fail
      refine (alive_any _).mono ?_
      rintro e w11 ⟨rfl, k11⟩
      have h11 := bstep h10 k11
      clear k11
      go_wp2
      go_ret
      exact ⟨rfl, h11⟩
    · go_wp2_with fail
      refine (C7.out _).mono ?_
      rintro e w12 ⟨rfl, k12⟩
      have h12 := bstep h10 k12
      clear k12
      go_wp2_with fail
      refine (C8.out (fun h => absurd (hne.1 h) (by assumption)) _).mono ?_
      rintro e w' ⟨rfl, rfl⟩
      go_wp2_with fail
      refine (C9.out _).mono ?_
      rintro e w' ⟨rfl, rfl⟩
      go_wp2_with fail
      refine (alive_any _).mono ?_
      rintro e w13 ⟨rfl, k13⟩
      have h13 := bstep h12 k13
      clear k13
      go_wp2
      go_ret
      exact ⟨rfl, h13⟩

end Go.Proofs.Ytpbefdabnjdeaaa.TextCuts
