/- The walk of TextBytes: it answers true. -/
import Derived.Test.YtpbefdabnjdeaaaTextAlive
import Derived.Test.YtpbefdabnjdeaaaTextEnc
import Derived.Test.YtpbefdabnjdeaaaConv
import Derived.Test.YtpbefdabnjdeaaaFrame
namespace Go.Proofs.Ytpbefdabnjdeaaa.TextBytes
open Go.RowKit Go.Proofs.Ytpbefdabnjdeaaa.Text

set_option maxRecDepth 100000 in
set_option maxHeartbeats 2000000 in
theorem walk (a0 : Int) (w : World) (w0 : (Lit.int .u32 a0).wf = true) :
    Calls Try.prog 6 #[.int .u32 a0] w fun e w' => e = .returned (.bool true) ∧ Below w.heap.size w w' := by
  obtain ⟨l0, u0⟩ := bounds_u32 w0
  clear w0
  obtain ⟨n, hn⟩ : ∃ n : Nat, a0 % 2097152 = (n : Int) := ⟨(a0 % 2097152).toNat, by omega⟩
  have hn2 : n < 2097152 := by omega
  have h0 := Below.refl w.heap.size w
  have H1 := Lib.hid (valid_const (enc n) _ (runes_enc n hn2) (by have := enc_length n; omega))
  have H2 := Lib.hid (runes_const (enc n) _ (runes_enc n hn2) (by have := enc_length n; omega))
  have H3 := Lib.hid (key_const (35 :: enc n) _ (runes_hash n hn2) (by have := enc_length n; simp; omega))
  rw [show (35 :: enc n) = [35] ++ enc n from rfl, ← Str.mk_append_mk [35] (enc n)] at H3
  by_cases g1 : n < 128
  · obtain ⟨b1, eb1, hb1⟩ := name n (by omega)
    have he : enc n = [b1] := by rw [enc, if_pos (by omega), eb1]
    rw [he] at H1 H2 H3
    have cv1 := fun w => Conv.conv1 n b1 (by omega) w w.heap.size rfl
    clear he eb1 hb1 hn2
    by_cases q32 : n < 32
    · rw [if_pos (show Scalar n by unfold Scalar; omega)] at H1 H2 H3
      rw [show (some [n]).isSome = true from rfl] at H1
      rw [count_some, show (([n].length : Nat) : Int) = 1 from rfl] at H2
      rw [key_hash, show ctrl n = true by simp [ctrl]; omega, Bool.not_true] at H3
      have d128 : decide ((n : Int) < 128) = true := by simp; omega
      have d2048 : decide ((n : Int) < 2048) = true := by simp; omega
      have d65536 : decide ((n : Int) < 65536) = true := by simp; omega
      have d1114111 : decide ((n : Int) ≤ 1114111) = true := by simp; omega
      have d55296 : decide ((n : Int) < 55296) = true := by simp; omega
      have d57343 : decide ((n : Int) > 57343) = false := by simp; omega
      have D57343 : decide (57343 < (n : Int)) = false := by simp; omega
      have d32 : decide ((n : Int) ≥ 32) = false := by simp; omega
      have D32 : decide (32 ≤ (n : Int)) = false := by simp; omega
      have d127 : decide ((n : Int) < 127) = true := by simp; omega
      have d159 : decide ((n : Int) > 159) = false := by simp; omega
      have D159 : decide (159 < (n : Int)) = false := by simp; omega
      go_enter Try.func6, Try.ntmps6
      go_wp2_with fail
      refine (H1.out _).mono ?_
      rintro e w1 ⟨rfl, k1⟩
      have h1 : Below w.heap.size w w1 := bstep (by repeat (first | exact h0 | refine balloc ?_ _ | refine Below.drew ?_ | refine bdrewN ?_ _)) k1
      clear k1
      go_wp2_with fail
      refine (H2.out _).mono ?_
      rintro e w2 ⟨rfl, k2⟩
      have h2 : Below w.heap.size w w2 := bstep (by repeat (first | exact h1 | refine balloc ?_ _ | refine Below.drew ?_ | refine bdrewN ?_ _)) k2
      clear k2
      go_wp2_with fail
      refine (H3.out _).mono ?_
      rintro e w3 ⟨rfl, k3⟩
      have h3 : Below w.heap.size w w3 := bstep (by repeat (first | exact h2 | refine balloc ?_ _ | refine Below.drew ?_ | refine bdrewN ?_ _)) k3
      clear k3
      go_wp2_with fail
      refine (alive_any _).mono ?_
      rintro e w4 ⟨rfl, k4⟩
      have h4 : Below w.heap.size w w4 := bstep (by repeat (first | exact h3 | refine balloc ?_ _ | refine Below.drew ?_ | refine bdrewN ?_ _)) k4
      clear k4
      go_wp2
      go_ret
      exact ⟨rfl, by repeat (first | exact h4 | refine balloc ?_ _ | refine Below.drew ?_ | refine bdrewN ?_ _)⟩
    · by_cases q127 : n < 127
      · rw [if_pos (show Scalar n by unfold Scalar; omega)] at H1 H2 H3
        rw [show (some [n]).isSome = true from rfl] at H1
        rw [count_some, show (([n].length : Nat) : Int) = 1 from rfl] at H2
        rw [key_hash, show ctrl n = false by simp [ctrl]; omega, Bool.not_false] at H3
        have d128 : decide ((n : Int) < 128) = true := by simp; omega
        have d2048 : decide ((n : Int) < 2048) = true := by simp; omega
        have d65536 : decide ((n : Int) < 65536) = true := by simp; omega
        have d1114111 : decide ((n : Int) ≤ 1114111) = true := by simp; omega
        have d55296 : decide ((n : Int) < 55296) = true := by simp; omega
        have d57343 : decide ((n : Int) > 57343) = false := by simp; omega
        have D57343 : decide (57343 < (n : Int)) = false := by simp; omega
        have d32 : decide ((n : Int) ≥ 32) = true := by simp; omega
        have D32 : decide (32 ≤ (n : Int)) = true := by simp; omega
        have d127 : decide ((n : Int) < 127) = true := by simp; omega
        have d159 : decide ((n : Int) > 159) = false := by simp; omega
        have D159 : decide (159 < (n : Int)) = false := by simp; omega
        go_enter Try.func6, Try.ntmps6
        go_wp2_with fail
        refine (H1.out _).mono ?_
        rintro e w5 ⟨rfl, k5⟩
        have h5 : Below w.heap.size w w5 := bstep (by repeat (first | exact h0 | refine balloc ?_ _ | refine Below.drew ?_ | refine bdrewN ?_ _)) k5
        clear k5
        go_wp2_with fail
        refine (H2.out _).mono ?_
        rintro e w6 ⟨rfl, k6⟩
        have h6 : Below w.heap.size w w6 := bstep (by repeat (first | exact h5 | refine balloc ?_ _ | refine Below.drew ?_ | refine bdrewN ?_ _)) k6
        clear k6
        go_wp2_with fail
        refine (H3.out _).mono ?_
        rintro e w7 ⟨rfl, k7⟩
        have h7 : Below w.heap.size w w7 := bstep (by repeat (first | exact h6 | refine balloc ?_ _ | refine Below.drew ?_ | refine bdrewN ?_ _)) k7
        clear k7
        go_wp2_with fail
        refine (alive_any _).mono ?_
        rintro e w8 ⟨rfl, k8⟩
        have h8 : Below w.heap.size w w8 := bstep (by repeat (first | exact h7 | refine balloc ?_ _ | refine Below.drew ?_ | refine bdrewN ?_ _)) k8
        clear k8
        go_wp2
        go_ret
        exact ⟨rfl, by repeat (first | exact h8 | refine balloc ?_ _ | refine Below.drew ?_ | refine bdrewN ?_ _)⟩
      · rw [if_pos (show Scalar n by unfold Scalar; omega)] at H1 H2 H3
        rw [show (some [n]).isSome = true from rfl] at H1
        rw [count_some, show (([n].length : Nat) : Int) = 1 from rfl] at H2
        rw [key_hash, show ctrl n = true by simp [ctrl]; omega, Bool.not_true] at H3
        have d128 : decide ((n : Int) < 128) = true := by simp; omega
        have d2048 : decide ((n : Int) < 2048) = true := by simp; omega
        have d65536 : decide ((n : Int) < 65536) = true := by simp; omega
        have d1114111 : decide ((n : Int) ≤ 1114111) = true := by simp; omega
        have d55296 : decide ((n : Int) < 55296) = true := by simp; omega
        have d57343 : decide ((n : Int) > 57343) = false := by simp; omega
        have D57343 : decide (57343 < (n : Int)) = false := by simp; omega
        have d32 : decide ((n : Int) ≥ 32) = true := by simp; omega
        have D32 : decide (32 ≤ (n : Int)) = true := by simp; omega
        have d127 : decide ((n : Int) < 127) = false := by simp; omega
        have d159 : decide ((n : Int) > 159) = false := by simp; omega
        have D159 : decide (159 < (n : Int)) = false := by simp; omega
        go_enter Try.func6, Try.ntmps6
        go_wp2_with fail
        refine (H1.out _).mono ?_
        rintro e w9 ⟨rfl, k9⟩
        have h9 : Below w.heap.size w w9 := bstep (by repeat (first | exact h0 | refine balloc ?_ _ | refine Below.drew ?_ | refine bdrewN ?_ _)) k9
        clear k9
        go_wp2_with fail
        refine (H2.out _).mono ?_
        rintro e w10 ⟨rfl, k10⟩
        have h10 : Below w.heap.size w w10 := bstep (by repeat (first | exact h9 | refine balloc ?_ _ | refine Below.drew ?_ | refine bdrewN ?_ _)) k10
        clear k10
        go_wp2_with fail
        refine (H3.out _).mono ?_
        rintro e w11 ⟨rfl, k11⟩
        have h11 : Below w.heap.size w w11 := bstep (by repeat (first | exact h10 | refine balloc ?_ _ | refine Below.drew ?_ | refine bdrewN ?_ _)) k11
        clear k11
        go_wp2_with fail
        refine (alive_any _).mono ?_
        rintro e w12 ⟨rfl, k12⟩
        have h12 : Below w.heap.size w w12 := bstep (by repeat (first | exact h11 | refine balloc ?_ _ | refine Below.drew ?_ | refine bdrewN ?_ _)) k12
        clear k12
        go_wp2
        go_ret
        exact ⟨rfl, by repeat (first | exact h12 | refine balloc ?_ _ | refine Below.drew ?_ | refine bdrewN ?_ _)⟩
  by_cases g2 : n < 2048
  · obtain ⟨b1, eb1, hb1⟩ := name (192 + n / 64) (by omega)
    obtain ⟨b2, eb2, hb2⟩ := name (128 + n % 64) (by omega)
    have he : enc n = [b1, b2] := by rw [enc, if_neg (by omega), if_pos (by omega), eb1, eb2]
    rw [he] at H1 H2 H3
    have m0 : bits .and .i64 ((n : Int)) 63 = ((n : Int)) % 64 := by have := Str.and_63 (n) (by omega); simpa using this
    have cv1 := fun w => Conv.conv2 (192 + n / 64) (128 + n % 64) b1 b2 (by omega) (by omega) w w.heap.size rfl
    clear he eb1 hb1 eb2 hb2 hn2
    by_cases q160 : n < 160
    · rw [if_pos (show Scalar n by unfold Scalar; omega)] at H1 H2 H3
      rw [show (some [n]).isSome = true from rfl] at H1
      rw [count_some, show (([n].length : Nat) : Int) = 1 from rfl] at H2
      rw [key_hash, show ctrl n = true by simp [ctrl]; omega, Bool.not_true] at H3
      have d128 : decide ((n : Int) < 128) = false := by simp; omega
      have d2048 : decide ((n : Int) < 2048) = true := by simp; omega
      have d65536 : decide ((n : Int) < 65536) = true := by simp; omega
      have d1114111 : decide ((n : Int) ≤ 1114111) = true := by simp; omega
      have d55296 : decide ((n : Int) < 55296) = true := by simp; omega
      have d57343 : decide ((n : Int) > 57343) = false := by simp; omega
      have D57343 : decide (57343 < (n : Int)) = false := by simp; omega
      have d32 : decide ((n : Int) ≥ 32) = true := by simp; omega
      have D32 : decide (32 ≤ (n : Int)) = true := by simp; omega
      have d127 : decide ((n : Int) < 127) = false := by simp; omega
      have d159 : decide ((n : Int) > 159) = false := by simp; omega
      have D159 : decide (159 < (n : Int)) = false := by simp; omega
      go_enter Try.func6, Try.ntmps6
      go_wp2_with fail
      refine (H1.out _).mono ?_
      rintro e w13 ⟨rfl, k13⟩
      have h13 : Below w.heap.size w w13 := bstep (by repeat (first | exact h0 | refine balloc ?_ _ | refine Below.drew ?_ | refine bdrewN ?_ _)) k13
      clear k13
      go_wp2_with fail
      refine (H2.out _).mono ?_
      rintro e w14 ⟨rfl, k14⟩
      have h14 : Below w.heap.size w w14 := bstep (by repeat (first | exact h13 | refine balloc ?_ _ | refine Below.drew ?_ | refine bdrewN ?_ _)) k14
      clear k14
      go_wp2_with fail
      refine (H3.out _).mono ?_
      rintro e w15 ⟨rfl, k15⟩
      have h15 : Below w.heap.size w w15 := bstep (by repeat (first | exact h14 | refine balloc ?_ _ | refine Below.drew ?_ | refine bdrewN ?_ _)) k15
      clear k15
      go_wp2_with fail
      refine (alive_any _).mono ?_
      rintro e w16 ⟨rfl, k16⟩
      have h16 : Below w.heap.size w w16 := bstep (by repeat (first | exact h15 | refine balloc ?_ _ | refine Below.drew ?_ | refine bdrewN ?_ _)) k16
      clear k16
      go_wp2
      go_ret
      exact ⟨rfl, by repeat (first | exact h16 | refine balloc ?_ _ | refine Below.drew ?_ | refine bdrewN ?_ _)⟩
    · rw [if_pos (show Scalar n by unfold Scalar; omega)] at H1 H2 H3
      rw [show (some [n]).isSome = true from rfl] at H1
      rw [count_some, show (([n].length : Nat) : Int) = 1 from rfl] at H2
      rw [key_hash, show ctrl n = false by simp [ctrl]; omega, Bool.not_false] at H3
      have d128 : decide ((n : Int) < 128) = false := by simp; omega
      have d2048 : decide ((n : Int) < 2048) = true := by simp; omega
      have d65536 : decide ((n : Int) < 65536) = true := by simp; omega
      have d1114111 : decide ((n : Int) ≤ 1114111) = true := by simp; omega
      have d55296 : decide ((n : Int) < 55296) = true := by simp; omega
      have d57343 : decide ((n : Int) > 57343) = false := by simp; omega
      have D57343 : decide (57343 < (n : Int)) = false := by simp; omega
      have d32 : decide ((n : Int) ≥ 32) = true := by simp; omega
      have D32 : decide (32 ≤ (n : Int)) = true := by simp; omega
      have d127 : decide ((n : Int) < 127) = false := by simp; omega
      have d159 : decide ((n : Int) > 159) = true := by simp; omega
      have D159 : decide (159 < (n : Int)) = true := by simp; omega
      go_enter Try.func6, Try.ntmps6
      go_wp2_with fail
      refine (H1.out _).mono ?_
      rintro e w17 ⟨rfl, k17⟩
      have h17 : Below w.heap.size w w17 := bstep (by repeat (first | exact h0 | refine balloc ?_ _ | refine Below.drew ?_ | refine bdrewN ?_ _)) k17
      clear k17
      go_wp2_with fail
      refine (H2.out _).mono ?_
      rintro e w18 ⟨rfl, k18⟩
      have h18 : Below w.heap.size w w18 := bstep (by repeat (first | exact h17 | refine balloc ?_ _ | refine Below.drew ?_ | refine bdrewN ?_ _)) k18
      clear k18
      go_wp2_with fail
      refine (H3.out _).mono ?_
      rintro e w19 ⟨rfl, k19⟩
      have h19 : Below w.heap.size w w19 := bstep (by repeat (first | exact h18 | refine balloc ?_ _ | refine Below.drew ?_ | refine bdrewN ?_ _)) k19
      clear k19
      go_wp2_with fail
      refine (alive_any _).mono ?_
      rintro e w20 ⟨rfl, k20⟩
      have h20 : Below w.heap.size w w20 := bstep (by repeat (first | exact h19 | refine balloc ?_ _ | refine Below.drew ?_ | refine bdrewN ?_ _)) k20
      clear k20
      go_wp2
      go_ret
      exact ⟨rfl, by repeat (first | exact h20 | refine balloc ?_ _ | refine Below.drew ?_ | refine bdrewN ?_ _)⟩
  by_cases g3 : n < 65536
  · obtain ⟨b1, eb1, hb1⟩ := name (224 + n / 4096) (by omega)
    obtain ⟨b2, eb2, hb2⟩ := name (128 + n / 64 % 64) (by omega)
    obtain ⟨b3, eb3, hb3⟩ := name (128 + n % 64) (by omega)
    have he : enc n = [b1, b2, b3] := by rw [enc, if_neg (by omega), if_neg (by omega), if_pos (by omega), eb1, eb2, eb3]
    rw [he] at H1 H2 H3
    have m0 : bits .and .i64 ((n : Int)) 63 = ((n : Int)) % 64 := by have := Str.and_63 (n) (by omega); simpa using this
    have m6 : bits .and .i64 ((n : Int) / 64) 63 = ((n : Int) / 64) % 64 := by have := Str.and_63 (n / 64) (by omega); simpa using this
    have cv1 := fun w => Conv.conv3 (224 + n / 4096) (128 + n / 64 % 64) (128 + n % 64) b1 b2 b3 (by omega) (by omega) (by omega) w w.heap.size rfl
    clear he eb1 hb1 eb2 hb2 eb3 hb3 hn2
    by_cases q55296 : n < 55296
    · rw [if_pos (show Scalar n by unfold Scalar; omega)] at H1 H2 H3
      rw [show (some [n]).isSome = true from rfl] at H1
      rw [count_some, show (([n].length : Nat) : Int) = 1 from rfl] at H2
      rw [key_hash, show ctrl n = false by simp [ctrl]; omega, Bool.not_false] at H3
      have d128 : decide ((n : Int) < 128) = false := by simp; omega
      have d2048 : decide ((n : Int) < 2048) = false := by simp; omega
      have d65536 : decide ((n : Int) < 65536) = true := by simp; omega
      have d1114111 : decide ((n : Int) ≤ 1114111) = true := by simp; omega
      have d55296 : decide ((n : Int) < 55296) = true := by simp; omega
      have d57343 : decide ((n : Int) > 57343) = false := by simp; omega
      have D57343 : decide (57343 < (n : Int)) = false := by simp; omega
      have d32 : decide ((n : Int) ≥ 32) = true := by simp; omega
      have D32 : decide (32 ≤ (n : Int)) = true := by simp; omega
      have d127 : decide ((n : Int) < 127) = false := by simp; omega
      have d159 : decide ((n : Int) > 159) = true := by simp; omega
      have D159 : decide (159 < (n : Int)) = true := by simp; omega
      go_enter Try.func6, Try.ntmps6
      go_wp2_with fail
      refine (H1.out _).mono ?_
      rintro e w21 ⟨rfl, k21⟩
      have h21 : Below w.heap.size w w21 := bstep (by repeat (first | exact h0 | refine balloc ?_ _ | refine Below.drew ?_ | refine bdrewN ?_ _)) k21
      clear k21
      go_wp2_with fail
      refine (H2.out _).mono ?_
      rintro e w22 ⟨rfl, k22⟩
      have h22 : Below w.heap.size w w22 := bstep (by repeat (first | exact h21 | refine balloc ?_ _ | refine Below.drew ?_ | refine bdrewN ?_ _)) k22
      clear k22
      go_wp2_with fail
      refine (H3.out _).mono ?_
      rintro e w23 ⟨rfl, k23⟩
      have h23 : Below w.heap.size w w23 := bstep (by repeat (first | exact h22 | refine balloc ?_ _ | refine Below.drew ?_ | refine bdrewN ?_ _)) k23
      clear k23
      go_wp2_with fail
      refine (alive_any _).mono ?_
      rintro e w24 ⟨rfl, k24⟩
      have h24 : Below w.heap.size w w24 := bstep (by repeat (first | exact h23 | refine balloc ?_ _ | refine Below.drew ?_ | refine bdrewN ?_ _)) k24
      clear k24
      go_wp2
      go_ret
      exact ⟨rfl, by repeat (first | exact h24 | refine balloc ?_ _ | refine Below.drew ?_ | refine bdrewN ?_ _)⟩
    · by_cases q57344 : n < 57344
      · rw [if_neg (show ¬ Scalar n by unfold Scalar; omega)] at H1 H2 H3
        rw [show (none : Option (List Nat)).isSome = false from rfl] at H1
        rw [count_none] at H2
        rw [show (!(kind none == 0)) = false from rfl] at H3
        have d128 : decide ((n : Int) < 128) = false := by simp; omega
        have d2048 : decide ((n : Int) < 2048) = false := by simp; omega
        have d65536 : decide ((n : Int) < 65536) = true := by simp; omega
        have d1114111 : decide ((n : Int) ≤ 1114111) = true := by simp; omega
        have d55296 : decide ((n : Int) < 55296) = false := by simp; omega
        have d57343 : decide ((n : Int) > 57343) = false := by simp; omega
        have D57343 : decide (57343 < (n : Int)) = false := by simp; omega
        have d32 : decide ((n : Int) ≥ 32) = true := by simp; omega
        have D32 : decide (32 ≤ (n : Int)) = true := by simp; omega
        have d127 : decide ((n : Int) < 127) = false := by simp; omega
        have d159 : decide ((n : Int) > 159) = true := by simp; omega
        have D159 : decide (159 < (n : Int)) = true := by simp; omega
        go_enter Try.func6, Try.ntmps6
        go_wp2_with fail
        refine (H1.out _).mono ?_
        rintro e w25 ⟨rfl, k25⟩
        have h25 : Below w.heap.size w w25 := bstep (by repeat (first | exact h0 | refine balloc ?_ _ | refine Below.drew ?_ | refine bdrewN ?_ _)) k25
        clear k25
        go_wp2_with fail
        refine (H2.out _).mono ?_
        rintro e w26 ⟨rfl, k26⟩
        have h26 : Below w.heap.size w w26 := bstep (by repeat (first | exact h25 | refine balloc ?_ _ | refine Below.drew ?_ | refine bdrewN ?_ _)) k26
        clear k26
        go_wp2_with fail
        refine (H3.out _).mono ?_
        rintro e w27 ⟨rfl, k27⟩
        have h27 : Below w.heap.size w w27 := bstep (by repeat (first | exact h26 | refine balloc ?_ _ | refine Below.drew ?_ | refine bdrewN ?_ _)) k27
        clear k27
        go_wp2_with fail
        refine (alive_any _).mono ?_
        rintro e w28 ⟨rfl, k28⟩
        have h28 : Below w.heap.size w w28 := bstep (by repeat (first | exact h27 | refine balloc ?_ _ | refine Below.drew ?_ | refine bdrewN ?_ _)) k28
        clear k28
        go_wp2
        go_ret
        exact ⟨rfl, by repeat (first | exact h28 | refine balloc ?_ _ | refine Below.drew ?_ | refine bdrewN ?_ _)⟩
      · rw [if_pos (show Scalar n by unfold Scalar; omega)] at H1 H2 H3
        rw [show (some [n]).isSome = true from rfl] at H1
        rw [count_some, show (([n].length : Nat) : Int) = 1 from rfl] at H2
        rw [key_hash, show ctrl n = false by simp [ctrl]; omega, Bool.not_false] at H3
        have d128 : decide ((n : Int) < 128) = false := by simp; omega
        have d2048 : decide ((n : Int) < 2048) = false := by simp; omega
        have d65536 : decide ((n : Int) < 65536) = true := by simp; omega
        have d1114111 : decide ((n : Int) ≤ 1114111) = true := by simp; omega
        have d55296 : decide ((n : Int) < 55296) = false := by simp; omega
        have d57343 : decide ((n : Int) > 57343) = true := by simp; omega
        have D57343 : decide (57343 < (n : Int)) = true := by simp; omega
        have d32 : decide ((n : Int) ≥ 32) = true := by simp; omega
        have D32 : decide (32 ≤ (n : Int)) = true := by simp; omega
        have d127 : decide ((n : Int) < 127) = false := by simp; omega
        have d159 : decide ((n : Int) > 159) = true := by simp; omega
        have D159 : decide (159 < (n : Int)) = true := by simp; omega
        go_enter Try.func6, Try.ntmps6
        go_wp2_with fail
        refine (H1.out _).mono ?_
        rintro e w29 ⟨rfl, k29⟩
        have h29 : Below w.heap.size w w29 := bstep (by repeat (first | exact h0 | refine balloc ?_ _ | refine Below.drew ?_ | refine bdrewN ?_ _)) k29
        clear k29
        go_wp2_with fail
        refine (H2.out _).mono ?_
        rintro e w30 ⟨rfl, k30⟩
        have h30 : Below w.heap.size w w30 := bstep (by repeat (first | exact h29 | refine balloc ?_ _ | refine Below.drew ?_ | refine bdrewN ?_ _)) k30
        clear k30
        go_wp2_with fail
        refine (H3.out _).mono ?_
        rintro e w31 ⟨rfl, k31⟩
        have h31 : Below w.heap.size w w31 := bstep (by repeat (first | exact h30 | refine balloc ?_ _ | refine Below.drew ?_ | refine bdrewN ?_ _)) k31
        clear k31
        go_wp2_with fail
        refine (alive_any _).mono ?_
        rintro e w32 ⟨rfl, k32⟩
        have h32 : Below w.heap.size w w32 := bstep (by repeat (first | exact h31 | refine balloc ?_ _ | refine Below.drew ?_ | refine bdrewN ?_ _)) k32
        clear k32
        go_wp2
        go_ret
        exact ⟨rfl, by repeat (first | exact h32 | refine balloc ?_ _ | refine Below.drew ?_ | refine bdrewN ?_ _)⟩
  · obtain ⟨b1, eb1, hb1⟩ := name (240 + n / 262144) (by omega)
    obtain ⟨b2, eb2, hb2⟩ := name (128 + n / 4096 % 64) (by omega)
    obtain ⟨b3, eb3, hb3⟩ := name (128 + n / 64 % 64) (by omega)
    obtain ⟨b4, eb4, hb4⟩ := name (128 + n % 64) (by omega)
    have he : enc n = [b1, b2, b3, b4] := by rw [enc, if_neg (by omega), if_neg (by omega), if_neg (by omega), eb1, eb2, eb3, eb4]
    rw [he] at H1 H2 H3
    have m0 : bits .and .i64 ((n : Int)) 63 = ((n : Int)) % 64 := by have := Str.and_63 (n) (by omega); simpa using this
    have m6 : bits .and .i64 ((n : Int) / 64) 63 = ((n : Int) / 64) % 64 := by have := Str.and_63 (n / 64) (by omega); simpa using this
    have m12 : bits .and .i64 ((n : Int) / 4096) 63 = ((n : Int) / 4096) % 64 := by have := Str.and_63 (n / 4096) (by omega); simpa using this
    have cv1 := fun w => Conv.conv4 (240 + n / 262144) (128 + n / 4096 % 64) (128 + n / 64 % 64) (128 + n % 64) b1 b2 b3 b4 (by omega) (by omega) (by omega) (by omega) w w.heap.size rfl
    clear he eb1 hb1 eb2 hb2 eb3 hb3 eb4 hb4
    by_cases q1114112 : n < 1114112
    · rw [if_pos (show Scalar n by unfold Scalar; omega)] at H1 H2 H3
      rw [show (some [n]).isSome = true from rfl] at H1
      rw [count_some, show (([n].length : Nat) : Int) = 1 from rfl] at H2
      rw [key_hash, show ctrl n = false by simp [ctrl]; omega, Bool.not_false] at H3
      have d128 : decide ((n : Int) < 128) = false := by simp; omega
      have d2048 : decide ((n : Int) < 2048) = false := by simp; omega
      have d65536 : decide ((n : Int) < 65536) = false := by simp; omega
      have d1114111 : decide ((n : Int) ≤ 1114111) = true := by simp; omega
      have d55296 : decide ((n : Int) < 55296) = false := by simp; omega
      have d57343 : decide ((n : Int) > 57343) = true := by simp; omega
      have D57343 : decide (57343 < (n : Int)) = true := by simp; omega
      have d32 : decide ((n : Int) ≥ 32) = true := by simp; omega
      have D32 : decide (32 ≤ (n : Int)) = true := by simp; omega
      have d127 : decide ((n : Int) < 127) = false := by simp; omega
      have d159 : decide ((n : Int) > 159) = true := by simp; omega
      have D159 : decide (159 < (n : Int)) = true := by simp; omega
      go_enter Try.func6, Try.ntmps6
      go_wp2_with fail
      refine (H1.out _).mono ?_
      rintro e w33 ⟨rfl, k33⟩
      have h33 : Below w.heap.size w w33 := bstep (by repeat (first | exact h0 | refine balloc ?_ _ | refine Below.drew ?_ | refine bdrewN ?_ _)) k33
      clear k33
      go_wp2_with fail
      refine (H2.out _).mono ?_
      rintro e w34 ⟨rfl, k34⟩
      have h34 : Below w.heap.size w w34 := bstep (by repeat (first | exact h33 | refine balloc ?_ _ | refine Below.drew ?_ | refine bdrewN ?_ _)) k34
      clear k34
      go_wp2_with fail
      refine (H3.out _).mono ?_
      rintro e w35 ⟨rfl, k35⟩
      have h35 : Below w.heap.size w w35 := bstep (by repeat (first | exact h34 | refine balloc ?_ _ | refine Below.drew ?_ | refine bdrewN ?_ _)) k35
      clear k35
      go_wp2_with fail
      refine (alive_any _).mono ?_
      rintro e w36 ⟨rfl, k36⟩
      have h36 : Below w.heap.size w w36 := bstep (by repeat (first | exact h35 | refine balloc ?_ _ | refine Below.drew ?_ | refine bdrewN ?_ _)) k36
      clear k36
      go_wp2
      go_ret
      exact ⟨rfl, by repeat (first | exact h36 | refine balloc ?_ _ | refine Below.drew ?_ | refine bdrewN ?_ _)⟩
    · rw [if_neg (show ¬ Scalar n by unfold Scalar; omega)] at H1 H2 H3
      rw [show (none : Option (List Nat)).isSome = false from rfl] at H1
      rw [count_none] at H2
      rw [show (!(kind none == 0)) = false from rfl] at H3
      have d128 : decide ((n : Int) < 128) = false := by simp; omega
      have d2048 : decide ((n : Int) < 2048) = false := by simp; omega
      have d65536 : decide ((n : Int) < 65536) = false := by simp; omega
      have d1114111 : decide ((n : Int) ≤ 1114111) = false := by simp; omega
      have d55296 : decide ((n : Int) < 55296) = false := by simp; omega
      have d57343 : decide ((n : Int) > 57343) = true := by simp; omega
      have D57343 : decide (57343 < (n : Int)) = true := by simp; omega
      have d32 : decide ((n : Int) ≥ 32) = true := by simp; omega
      have D32 : decide (32 ≤ (n : Int)) = true := by simp; omega
      have d127 : decide ((n : Int) < 127) = false := by simp; omega
      have d159 : decide ((n : Int) > 159) = true := by simp; omega
      have D159 : decide (159 < (n : Int)) = true := by simp; omega
      go_enter Try.func6, Try.ntmps6
      go_wp2_with fail
      refine (H1.out _).mono ?_
      rintro e w37 ⟨rfl, k37⟩
      have h37 : Below w.heap.size w w37 := bstep (by repeat (first | exact h0 | refine balloc ?_ _ | refine Below.drew ?_ | refine bdrewN ?_ _)) k37
      clear k37
      go_wp2_with fail
      refine (H2.out _).mono ?_
      rintro e w38 ⟨rfl, k38⟩
      have h38 : Below w.heap.size w w38 := bstep (by repeat (first | exact h37 | refine balloc ?_ _ | refine Below.drew ?_ | refine bdrewN ?_ _)) k38
      clear k38
      go_wp2_with fail
      refine (H3.out _).mono ?_
      rintro e w39 ⟨rfl, k39⟩
      have h39 : Below w.heap.size w w39 := bstep (by repeat (first | exact h38 | refine balloc ?_ _ | refine Below.drew ?_ | refine bdrewN ?_ _)) k39
      clear k39
      go_wp2_with fail
      refine (alive_any _).mono ?_
      rintro e w40 ⟨rfl, k40⟩
      have h40 : Below w.heap.size w w40 := bstep (by repeat (first | exact h39 | refine balloc ?_ _ | refine Below.drew ?_ | refine bdrewN ?_ _)) k40
      clear k40
      go_wp2
      go_ret
      exact ⟨rfl, by repeat (first | exact h40 | refine balloc ?_ _ | refine Below.drew ?_ | refine bdrewN ?_ _)⟩

end Go.Proofs.Ytpbefdabnjdeaaa.TextBytes
