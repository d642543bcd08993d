/- The walk of TextKeys: it answers true. -/
import Derived.Test.YtpbefdabnjdeaaaTextAlive
import Derived.Test.YtpbefdabnjdeaaaTextMore
import Derived.Test.YtpbefdabnjdeaaaConv
import Derived.Test.YtpbefdabnjdeaaaFrame
namespace Go.Proofs.Ytpbefdabnjdeaaa.TextKeys
open Go.RowKit Go.Proofs.Ytpbefdabnjdeaaa.Text

set_option maxRecDepth 100000 in
set_option maxHeartbeats 2000000 in
theorem walk (a0 : ByteArray) (a1 : Int) (a2 : Int) (w : World) (w0 : a0.size ≤ maxLen) (w1 : (Lit.int .u8 a1).wf = true) (w2 : (Lit.int .u16 a2).wf = true) :
    Calls Try.prog 7 #[.string a0, .int .u8 a1, .int .u16 a2] w fun e w' => e = .returned (.bool true) ∧ Below w.heap.size w w' := by
  have W0 := Lib.hid w0
  obtain ⟨l1, u1⟩ := bounds_u8 w1
  obtain ⟨l2, u2⟩ := bounds_u16 w2
  clear w1 w2
  unfold maxLen at w0
  have h0 := Below.refl w.heap.size w
  by_cases hs : 4096 < a0.size
  · go_enter Try.func7, Try.ntmps7
    go_wp2_with fail
    refine (alive_any _).mono ?_
    rintro e w1 ⟨rfl, k1⟩
    have h1 : Below w.heap.size w w1 := bstep (by repeat (first | exact h0 | refine balloc ?_ _ | refine Below.drew ?_ | refine bdrewN ?_ _)) k1
    clear k1
    go_wp2
    go_ret
    exact ⟨rfl, by repeat (first | exact h1 | refine balloc ?_ _ | refine Below.drew ?_ | refine bdrewN ?_ _)⟩
  have H1 := Lib.hid (fun w => key_any a0 w W0.out)
  by_cases hk0 : kind (runes a0.data.toList) = 0
  · rw [hk0] at H1
    go_enter Try.func7, Try.ntmps7
    go_wp2_with fail
    refine (H1.out _).mono ?_
    rintro e w2 ⟨rfl, k2⟩
    have h2 : Below w.heap.size w w2 := bstep (by repeat (first | exact h0 | refine balloc ?_ _ | refine Below.drew ?_ | refine bdrewN ?_ _)) k2
    clear k2
    go_wp2_with fail
    refine (alive_any _).mono ?_
    rintro e w3 ⟨rfl, k3⟩
    have h3 : Below w.heap.size w w3 := bstep (by repeat (first | exact h2 | refine balloc ?_ _ | refine Below.drew ?_ | refine bdrewN ?_ _)) k3
    clear k3
    go_wp2
    go_ret
    exact ⟨rfl, by repeat (first | exact h3 | refine balloc ?_ _ | refine Below.drew ?_ | refine bdrewN ?_ _)⟩
  have H2 := Lib.hid (fun n w h1 h2 => cut_any a0 n w W0.out h1 h2)
  have H3 := Lib.hid (fun w => runes_any a0 w W0.out)
  have H4 := Lib.hid (fun w => kind_any a0 w W0.out)
  cases ho : runes a0.data.toList with
  | none => rw [ho] at hk0; exact absurd rfl hk0
  | some xs =>
    simp only [ho] at H1 H2 H3 H4 hk0
    rw [count_some] at H3
    obtain ⟨ha, hx⟩ := runes_some ho
    have hal : a0.size = (cat xs).length := by rw [← ha, ← Str.size_eq]
    have hcl := cat_len xs
    have hkl : xs.length ≤ 4096 := by omega
    obtain rfl : a0 = ⟨(cat xs).toArray⟩ := Str.ext (by rw [List.toList_toArray]; exact ha)
    clear ha hal W0 ho
    rw [Str.size_mk] at w0 hs
    -- the cut
    obtain ⟨n, hn⟩ : ∃ n : Nat, (n : Int) = 1 + a1 % 70 := ⟨(1 + a1 % 70).toNat, by omega⟩
    have hn1 : 1 ≤ n := by omega
    have C1 := Lib.hid (fun w => H2.out n w (by omega) (by omega))
    rw [show cutL (some xs) (n : Int) = cat (xs.take n) from by rw [cutL_some, Int.toNat_natCast]] at C1
    have hlt : (cat (xs.take n)).length ≤ 65536 := by
      have h1 := congrArg List.length (cat_take_drop xs n)
      rw [List.length_append] at h1
      omega
    have C2 := Lib.hid (fun w => key_const (cat (xs.take n)) _ (runes_cut hx n) hlt w)
    have C3 := Lib.hid (fun w => kind_const (cat (xs.take n)) _ (runes_cut hx n) hlt w)
    rw [kind_take hk0 n hn1] at C2 C3
    obtain ⟨k, hk⟩ : ∃ k, k = kind (some xs) := ⟨_, rfl⟩
    have hkt : (k == 0) = false := by rw [beq_eq_false_iff_ne, hk]; exact hk0
    rw [← hk, hkt] at C2 H1
    rw [← hk] at C3 H4
    -- what is put behind
    have hbig : (cat xs).length ≤ 4096 := by omega
    have D : ∀ y, Scalar y → ∀ w, Calls Try.prog 15 #[.string (({ data := (cat xs).toArray } : ByteArray) ++ ({ data := (enc y).toArray } : ByteArray))] w fun e w' => e = .returned (.bool (!(kind (some (xs ++ [y])) == 0))) ∧ Below w.heap.size w w' := fun y hy w => by
      have := enc_length y
      have h := key_const (cat xs ++ enc y) _ (runes_snoc hx hy) (by rw [List.length_append]; omega) w
      rwa [← Str.mk_append_mk] at h
    have E : ∀ y, Scalar y → ∀ w, Calls Try.prog 16 #[.string (({ data := (cat xs).toArray } : ByteArray) ++ ({ data := (enc y).toArray } : ByteArray))] w fun e w' => e = .returned (.int .u8 (kind (some (xs ++ [y])))) ∧ Below w.heap.size w w' := fun y hy w => by
      have := enc_length y
      have h := kind_const (cat xs ++ enc y) _ (runes_snoc hx hy) (by rw [List.length_append]; omega) w
      rwa [← Str.mk_append_mk] at h
    have D1 := Lib.hid (D 31 (by decide))
    have D2 := Lib.hid (D 127 (by decide))
    rw [kind_ctrl xs (by decide), show enc 31 = [31] by decide] at D1
    rw [kind_ctrl xs (by decide), show enc 127 = [127] by decide] at D2
    have HD := Lib.hid D
    have HE := Lib.hid E
    have hks := fun y (hy : ctrl y = false) => kind_snoc (y := y) hk0 hy
    rw [← hk] at hks
    have Hks := Lib.hid hks
    obtain ⟨L, hL⟩ : ∃ L, L = cat xs := ⟨_, rfl⟩
    obtain ⟨A, hA⟩ : ∃ A, A = cat (xs.take n) := ⟨_, rfl⟩
    rw [← hL] at H1 H3 H4 w0 hs C1 D1 D2 HD HE hbig ⊢
    rw [← hA] at C1 C2 C3
    clear D E hks hk0 hlt hL hA hcl hx hk H2
    have hn2 : (n : Int) = 1 + a1 % 70 := hn
    clear hn
    have hn3 : 1 + a1 % 70 = (n : Int) := by omega
    have hn4 : IntKind.i64.wrap (1 + a1 % 70) = (n : Int) := by rw [Str.wrap_i64]; split <;> omega
    clear hn2
    by_cases h3 : a2 % 3 = 0
    · have h3' : (a2 % 3 == 0) = true := by rw [beq_iff_eq]; exact h3
      obtain ⟨y, hy⟩ : ∃ y : Nat, (y : Int) = 192 + a2 / 4 % 64 := ⟨(192 + a2 / 4 % 64).toNat, by omega⟩
      have hysc : Scalar y := .inl (by omega)
      have hyc : ctrl y = false := by simp [ctrl]; omega
      obtain ⟨b1, eb1, hb1⟩ := name (128 + y % 64) (by omega)
      have hye : enc y = [195, b1] := by
        rw [enc, if_neg (by omega), if_pos (by omega), show 192 + y / 64 = 195 by omega, eb1]; rfl
      obtain ⟨z, hz⟩ : ∃ z : UInt8, (z.toNat : Int) = 97 + a2 % 26 := ⟨UInt8.ofNat (97 + a2 % 26).toNat, by rw [u8_nat (by omega)]; omega⟩
      have cv1 := fun w => Conv.conv1 (97 + a2 % 26) z hz.symm w w.heap.size rfl
      have cv2 := fun (w : World) o => Conv.conv2 195 (128 + a2 / 4 % 64) 195 b1 (by decide) (by omega) (w.alloc o) (w.heap.size + 1) (by simp)
      have F1 := Lib.hid (HD.out y hysc)
      have F2 := Lib.hid (HE.out y hysc)
      rw [Hks.out y hyc, hye] at F1 F2
      clear hz hy hysc hyc hye hb1 eb1 h3 HD HE
      by_cases h64 : xs.length < 64
      · simp only [if_pos h64, hkt, Bool.not_false] at F1 F2
        go_enter Try.func7, Try.ntmps7
        go_wp2_with fail
        refine (H1.out _).mono ?_
        rintro e w4 ⟨rfl, k4⟩
        have h4 : Below w.heap.size w w4 := bstep (by repeat (first | exact h0 | refine balloc ?_ _ | refine Below.drew ?_ | refine bdrewN ?_ _)) k4
        clear k4
        go_wp2_with fail
        refine (C1.out _).mono ?_
        rintro e w5 ⟨rfl, k5⟩
        have h5 : Below w.heap.size w w5 := bstep (by repeat (first | exact h4 | refine balloc ?_ _ | refine Below.drew ?_ | refine bdrewN ?_ _)) k5
        clear k5
        go_wp2_with fail
        refine (C2.out _).mono ?_
        rintro e w6 ⟨rfl, k6⟩
        have h6 : Below w.heap.size w w6 := bstep (by repeat (first | exact h5 | refine balloc ?_ _ | refine Below.drew ?_ | refine bdrewN ?_ _)) k6
        clear k6
        go_wp2_with fail
        refine (C3.out _).mono ?_
        rintro e w7 ⟨rfl, k7⟩
        have h7 : Below w.heap.size w w7 := bstep (by repeat (first | exact h6 | refine balloc ?_ _ | refine Below.drew ?_ | refine bdrewN ?_ _)) k7
        clear k7
        go_wp2_with fail
        refine (H4.out _).mono ?_
        rintro e w8 ⟨rfl, k8⟩
        have h8 : Below w.heap.size w w8 := bstep (by repeat (first | exact h7 | refine balloc ?_ _ | refine Below.drew ?_ | refine bdrewN ?_ _)) k8
        clear k8
        go_wp2_with fail
        refine (F1.out _).mono ?_
        rintro e w9 ⟨rfl, k9⟩
        have h9 : Below w.heap.size w w9 := bstep (by repeat (first | exact h8 | refine balloc ?_ _ | refine Below.drew ?_ | refine bdrewN ?_ _)) k9
        clear k9
        go_wp2_with fail
        refine (H3.out _).mono ?_
        rintro e w10 ⟨rfl, k10⟩
        have h10 : Below w.heap.size w w10 := bstep (by repeat (first | exact h9 | refine balloc ?_ _ | refine Below.drew ?_ | refine bdrewN ?_ _)) k10
        clear k10
        go_wp2_with fail
        refine (F1.out _).mono ?_
        rintro e w11 ⟨rfl, k11⟩
        have h11 : Below w.heap.size w w11 := bstep (by repeat (first | exact h10 | refine balloc ?_ _ | refine Below.drew ?_ | refine bdrewN ?_ _)) k11
        clear k11
        go_wp2_with fail
        refine (F2.out _).mono ?_
        rintro e w12 ⟨rfl, k12⟩
        have h12 : Below w.heap.size w w12 := bstep (by repeat (first | exact h11 | refine balloc ?_ _ | refine Below.drew ?_ | refine bdrewN ?_ _)) k12
        clear k12
        go_wp2_with fail
        refine (H4.out _).mono ?_
        rintro e w13 ⟨rfl, k13⟩
        have h13 : Below w.heap.size w w13 := bstep (by repeat (first | exact h12 | refine balloc ?_ _ | refine Below.drew ?_ | refine bdrewN ?_ _)) k13
        clear k13
        go_wp2_with fail
        refine (D1.out _).mono ?_
        rintro e w14 ⟨rfl, k14⟩
        have h14 : Below w.heap.size w w14 := bstep (by repeat (first | exact h13 | refine balloc ?_ _ | refine Below.drew ?_ | refine bdrewN ?_ _)) k14
        clear k14
        go_wp2_with fail
        refine (D2.out _).mono ?_
        rintro e w15 ⟨rfl, k15⟩
        have h15 : Below w.heap.size w w15 := bstep (by repeat (first | exact h14 | refine balloc ?_ _ | refine Below.drew ?_ | refine bdrewN ?_ _)) k15
        clear k15
        go_wp2_with fail
        refine (alive_any _).mono ?_
        rintro e w16 ⟨rfl, k16⟩
        have h16 : Below w.heap.size w w16 := bstep (by repeat (first | exact h15 | refine balloc ?_ _ | refine Below.drew ?_ | refine bdrewN ?_ _)) k16
        clear k16

        go_wp2
        go_ret
        exact ⟨rfl, by repeat (first | exact h16 | refine balloc ?_ _ | refine Below.drew ?_ | refine bdrewN ?_ _)⟩
      · have h64b : decide ((xs.length : Int) < 64) = false := by simp; omega
        simp only [if_neg h64, beq_self_eq_true, Bool.not_true] at F1 F2
        go_enter Try.func7, Try.ntmps7
        go_wp2_with fail
        refine (H1.out _).mono ?_
        rintro e w17 ⟨rfl, k17⟩
        have h17 : Below w.heap.size w w17 := bstep (by repeat (first | exact h0 | refine balloc ?_ _ | refine Below.drew ?_ | refine bdrewN ?_ _)) k17
        clear k17
        go_wp2_with fail
        refine (C1.out _).mono ?_
        rintro e w18 ⟨rfl, k18⟩
        have h18 : Below w.heap.size w w18 := bstep (by repeat (first | exact h17 | refine balloc ?_ _ | refine Below.drew ?_ | refine bdrewN ?_ _)) k18
        clear k18
        go_wp2_with fail
        refine (C2.out _).mono ?_
        rintro e w19 ⟨rfl, k19⟩
        have h19 : Below w.heap.size w w19 := bstep (by repeat (first | exact h18 | refine balloc ?_ _ | refine Below.drew ?_ | refine bdrewN ?_ _)) k19
        clear k19
        go_wp2_with fail
        refine (C3.out _).mono ?_
        rintro e w20 ⟨rfl, k20⟩
        have h20 : Below w.heap.size w w20 := bstep (by repeat (first | exact h19 | refine balloc ?_ _ | refine Below.drew ?_ | refine bdrewN ?_ _)) k20
        clear k20
        go_wp2_with fail
        refine (H4.out _).mono ?_
        rintro e w21 ⟨rfl, k21⟩
        have h21 : Below w.heap.size w w21 := bstep (by repeat (first | exact h20 | refine balloc ?_ _ | refine Below.drew ?_ | refine bdrewN ?_ _)) k21
        clear k21
        go_wp2_with fail
        refine (F1.out _).mono ?_
        rintro e w22 ⟨rfl, k22⟩
        have h22 : Below w.heap.size w w22 := bstep (by repeat (first | exact h21 | refine balloc ?_ _ | refine Below.drew ?_ | refine bdrewN ?_ _)) k22
        clear k22
        go_wp2_with fail
        refine (H3.out _).mono ?_
        rintro e w23 ⟨rfl, k23⟩
        have h23 : Below w.heap.size w w23 := bstep (by repeat (first | exact h22 | refine balloc ?_ _ | refine Below.drew ?_ | refine bdrewN ?_ _)) k23
        clear k23
        go_wp2_with fail
        refine (F1.out _).mono ?_
        rintro e w24 ⟨rfl, k24⟩
        have h24 : Below w.heap.size w w24 := bstep (by repeat (first | exact h23 | refine balloc ?_ _ | refine Below.drew ?_ | refine bdrewN ?_ _)) k24
        clear k24
        go_wp2_with fail
        refine (D1.out _).mono ?_
        rintro e w25 ⟨rfl, k25⟩
        have h25 : Below w.heap.size w w25 := bstep (by repeat (first | exact h24 | refine balloc ?_ _ | refine Below.drew ?_ | refine bdrewN ?_ _)) k25
        clear k25
        go_wp2_with fail
        refine (D2.out _).mono ?_
        rintro e w26 ⟨rfl, k26⟩
        have h26 : Below w.heap.size w w26 := bstep (by repeat (first | exact h25 | refine balloc ?_ _ | refine Below.drew ?_ | refine bdrewN ?_ _)) k26
        clear k26
        go_wp2_with fail
        refine (alive_any _).mono ?_
        rintro e w27 ⟨rfl, k27⟩
        have h27 : Below w.heap.size w w27 := bstep (by repeat (first | exact h26 | refine balloc ?_ _ | refine Below.drew ?_ | refine bdrewN ?_ _)) k27
        clear k27
        go_wp2
        go_ret
        exact ⟨rfl, by repeat (first | exact h27 | refine balloc ?_ _ | refine Below.drew ?_ | refine bdrewN ?_ _)⟩
    · have h3' : (a2 % 3 == 0) = false := by rw [beq_eq_false_iff_ne]; exact h3
      obtain ⟨y, hy⟩ : ∃ y : Nat, (y : Int) = 97 + a2 % 26 := ⟨(97 + a2 % 26).toNat, by omega⟩
      have hysc : Scalar y := .inl (by omega)
      have hyc : ctrl y = false := by simp [ctrl]; omega
      obtain ⟨b1, eb1, hb1⟩ := name y (by omega)
      have hye : enc y = [b1] := by
        rw [enc, if_pos (by omega), eb1]
      have cv1 := fun w => Conv.conv1 (97 + a2 % 26) b1 (by omega) w w.heap.size rfl
      have F1 := Lib.hid (HD.out y hysc)
      have F2 := Lib.hid (HE.out y hysc)
      rw [Hks.out y hyc, hye] at F1 F2
      clear hy hysc hyc hye hb1 eb1 h3 HD HE
      by_cases h64 : xs.length < 64
      · simp only [if_pos h64, hkt, Bool.not_false] at F1 F2
        go_enter Try.func7, Try.ntmps7
        go_wp2_with fail
        refine (H1.out _).mono ?_
        rintro e w28 ⟨rfl, k28⟩
        have h28 : Below w.heap.size w w28 := bstep (by repeat (first | exact h0 | refine balloc ?_ _ | refine Below.drew ?_ | refine bdrewN ?_ _)) k28
        clear k28
        go_wp2_with fail
        refine (C1.out _).mono ?_
        rintro e w29 ⟨rfl, k29⟩
        have h29 : Below w.heap.size w w29 := bstep (by repeat (first | exact h28 | refine balloc ?_ _ | refine Below.drew ?_ | refine bdrewN ?_ _)) k29
        clear k29
        go_wp2_with fail
        refine (C2.out _).mono ?_
        rintro e w30 ⟨rfl, k30⟩
        have h30 : Below w.heap.size w w30 := bstep (by repeat (first | exact h29 | refine balloc ?_ _ | refine Below.drew ?_ | refine bdrewN ?_ _)) k30
        clear k30
        go_wp2_with fail
        refine (C3.out _).mono ?_
        rintro e w31 ⟨rfl, k31⟩
        have h31 : Below w.heap.size w w31 := bstep (by repeat (first | exact h30 | refine balloc ?_ _ | refine Below.drew ?_ | refine bdrewN ?_ _)) k31
        clear k31
        go_wp2_with fail
        refine (H4.out _).mono ?_
        rintro e w32 ⟨rfl, k32⟩
        have h32 : Below w.heap.size w w32 := bstep (by repeat (first | exact h31 | refine balloc ?_ _ | refine Below.drew ?_ | refine bdrewN ?_ _)) k32
        clear k32
        go_wp2_with fail
        refine (F1.out _).mono ?_
        rintro e w33 ⟨rfl, k33⟩
        have h33 : Below w.heap.size w w33 := bstep (by repeat (first | exact h32 | refine balloc ?_ _ | refine Below.drew ?_ | refine bdrewN ?_ _)) k33
        clear k33
        go_wp2_with fail
        refine (H3.out _).mono ?_
        rintro e w34 ⟨rfl, k34⟩
        have h34 : Below w.heap.size w w34 := bstep (by repeat (first | exact h33 | refine balloc ?_ _ | refine Below.drew ?_ | refine bdrewN ?_ _)) k34
        clear k34
        go_wp2_with fail
        refine (F1.out _).mono ?_
        rintro e w35 ⟨rfl, k35⟩
        have h35 : Below w.heap.size w w35 := bstep (by repeat (first | exact h34 | refine balloc ?_ _ | refine Below.drew ?_ | refine bdrewN ?_ _)) k35
        clear k35
        go_wp2_with fail
        refine (F2.out _).mono ?_
        rintro e w36 ⟨rfl, k36⟩
        have h36 : Below w.heap.size w w36 := bstep (by repeat (first | exact h35 | refine balloc ?_ _ | refine Below.drew ?_ | refine bdrewN ?_ _)) k36
        clear k36
        go_wp2_with fail
        refine (H4.out _).mono ?_
        rintro e w37 ⟨rfl, k37⟩
        have h37 : Below w.heap.size w w37 := bstep (by repeat (first | exact h36 | refine balloc ?_ _ | refine Below.drew ?_ | refine bdrewN ?_ _)) k37
        clear k37
        go_wp2_with fail
        refine (D1.out _).mono ?_
        rintro e w38 ⟨rfl, k38⟩
        have h38 : Below w.heap.size w w38 := bstep (by repeat (first | exact h37 | refine balloc ?_ _ | refine Below.drew ?_ | refine bdrewN ?_ _)) k38
        clear k38
        go_wp2_with fail
        refine (D2.out _).mono ?_
        rintro e w39 ⟨rfl, k39⟩
        have h39 : Below w.heap.size w w39 := bstep (by repeat (first | exact h38 | refine balloc ?_ _ | refine Below.drew ?_ | refine bdrewN ?_ _)) k39
        clear k39
        go_wp2_with fail
        refine (alive_any _).mono ?_
        rintro e w40 ⟨rfl, k40⟩
        have h40 : Below w.heap.size w w40 := bstep (by repeat (first | exact h39 | refine balloc ?_ _ | refine Below.drew ?_ | refine bdrewN ?_ _)) k40
        clear k40

        go_wp2
        go_ret
        exact ⟨rfl, by repeat (first | exact h40 | refine balloc ?_ _ | refine Below.drew ?_ | refine bdrewN ?_ _)⟩
      · have h64b : decide ((xs.length : Int) < 64) = false := by simp; omega
        simp only [if_neg h64, beq_self_eq_true, Bool.not_true] at F1 F2
        go_enter Try.func7, Try.ntmps7
        go_wp2_with fail
        refine (H1.out _).mono ?_
        rintro e w41 ⟨rfl, k41⟩
        have h41 : Below w.heap.size w w41 := bstep (by repeat (first | exact h0 | refine balloc ?_ _ | refine Below.drew ?_ | refine bdrewN ?_ _)) k41
        clear k41
        go_wp2_with fail
        refine (C1.out _).mono ?_
        rintro e w42 ⟨rfl, k42⟩
        have h42 : Below w.heap.size w w42 := bstep (by repeat (first | exact h41 | refine balloc ?_ _ | refine Below.drew ?_ | refine bdrewN ?_ _)) k42
        clear k42
        go_wp2_with fail
        refine (C2.out _).mono ?_
        rintro e w43 ⟨rfl, k43⟩
        have h43 : Below w.heap.size w w43 := bstep (by repeat (first | exact h42 | refine balloc ?_ _ | refine Below.drew ?_ | refine bdrewN ?_ _)) k43
        clear k43
        go_wp2_with fail
        refine (C3.out _).mono ?_
        rintro e w44 ⟨rfl, k44⟩
        have h44 : Below w.heap.size w w44 := bstep (by repeat (first | exact h43 | refine balloc ?_ _ | refine Below.drew ?_ | refine bdrewN ?_ _)) k44
        clear k44
        go_wp2_with fail
        refine (H4.out _).mono ?_
        rintro e w45 ⟨rfl, k45⟩
        have h45 : Below w.heap.size w w45 := bstep (by repeat (first | exact h44 | refine balloc ?_ _ | refine Below.drew ?_ | refine bdrewN ?_ _)) k45
        clear k45
        go_wp2_with fail
        refine (F1.out _).mono ?_
        rintro e w46 ⟨rfl, k46⟩
        have h46 : Below w.heap.size w w46 := bstep (by repeat (first | exact h45 | refine balloc ?_ _ | refine Below.drew ?_ | refine bdrewN ?_ _)) k46
        clear k46
        go_wp2_with fail
        refine (H3.out _).mono ?_
        rintro e w47 ⟨rfl, k47⟩
        have h47 : Below w.heap.size w w47 := bstep (by repeat (first | exact h46 | refine balloc ?_ _ | refine Below.drew ?_ | refine bdrewN ?_ _)) k47
        clear k47
        go_wp2_with fail
        refine (F1.out _).mono ?_
        rintro e w48 ⟨rfl, k48⟩
        have h48 : Below w.heap.size w w48 := bstep (by repeat (first | exact h47 | refine balloc ?_ _ | refine Below.drew ?_ | refine bdrewN ?_ _)) k48
        clear k48
        go_wp2_with fail
        refine (D1.out _).mono ?_
        rintro e w49 ⟨rfl, k49⟩
        have h49 : Below w.heap.size w w49 := bstep (by repeat (first | exact h48 | refine balloc ?_ _ | refine Below.drew ?_ | refine bdrewN ?_ _)) k49
        clear k49
        go_wp2_with fail
        refine (D2.out _).mono ?_
        rintro e w50 ⟨rfl, k50⟩
        have h50 : Below w.heap.size w w50 := bstep (by repeat (first | exact h49 | refine balloc ?_ _ | refine Below.drew ?_ | refine bdrewN ?_ _)) k50
        clear k50
        go_wp2_with fail
        refine (alive_any _).mono ?_
        rintro e w51 ⟨rfl, k51⟩
        have h51 : Below w.heap.size w w51 := bstep (by repeat (first | exact h50 | refine balloc ?_ _ | refine Below.drew ?_ | refine bdrewN ?_ _)) k51
        clear k51
        go_wp2
        go_ret
        exact ⟨rfl, by repeat (first | exact h51 | refine balloc ?_ _ | refine Below.drew ?_ | refine bdrewN ?_ _)⟩

end Go.Proofs.Ytpbefdabnjdeaaa.TextKeys
