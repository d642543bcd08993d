/- The contracts of package gossamerref01's functions over this program. -/
import Derived.Test.YtpbefdabnjdeaaaText
import Derived.Test.YtpbefdabnjdeaaaTextRefPlain
namespace Go.Proofs.Ytpbefdabnjdeaaa
namespace Text
open Go.RowKit

theorem retp {a a' b b' : Int} (h1 : a = a') (h2 : b = b') : Ending.returned (.tuple #[.int .i64 a, .int .i64 b]) = Ending.returned (.tuple #[.int .i64 a', .int .i64 b']) := by rw [h1, h2]

theorem byte_at {s : ByteArray} {c : UInt8} {r : List UInt8} (h : s.data.toList = c :: r) {k : Nat} (hk : k < s.size) (h1 : 1 ≤ k) (h2 : k - 1 < r.length) : s[k] = r[k - 1] := by
  have e : s[k] = s.data.toList[k]'(by rw [← Str.size_eq]; exact hk) := by simp; rfl
  rw [e]
  have : ∀ (l : List UInt8) (hl : l = c :: r) (hk : k < l.length), l[k] = r[k - 1] := by
    rintro l rfl hk
    obtain ⟨j, rfl⟩ : ∃ j, k = j + 1 := ⟨k - 1, by omega⟩
    rfl
  exact this _ h _

set_option maxRecDepth 100000 in
set_option maxHeartbeats 2000000 in
theorem read_two (s : ByteArray) (w : World) (hs : s.size ≤ 2 ^ 63 - 1) (hsz : 0 < s.size) (hne : s.toList.isEmpty = false) (r : List UInt8) (hrl : r.length + 1 = s.size) (Hd : Hid (s.data.toList = s[0] :: r)) (k1 : 192 ≤ s[0].toNat) (k2 : s[0].toNat < 224) :
    Calls Try.prog 26 #[.string s] w fun e w' => e = .returned (.tuple #[.int .i64 ((got (rune (s[0] :: r))).1 : Int), .int .i64 ((got (rune (s[0] :: r))).2 : Int)]) ∧ w = w' := by
  have hlt := s[0].toNat_lt
  rw [rune_two s[0] r ⟨by omega, by omega⟩]
  obtain ⟨x0, hx0⟩ : ∃ x0, x0 = s[0].toNat - 192 := ⟨_, rfl⟩
  have hx1 : x0 < 32 := by omega
  have hx2 : (s[0].toNat : Int) - 192 = (x0 : Int) := by omega
  rw [← hx0]
  have Hx0 := Lib.hid hx0
  clear hx0
  have b0 : decide ((s[0].toNat : Int) < 128) = false := by simp; omega
  have b1 : decide ((192 : Int) ≤ (s[0].toNat : Int)) = true := by simp; omega
  have b2 : decide ((s[0].toNat : Int) < 224) = true := by simp; omega
  by_cases hlen : r.length < 2 - 1
  · rw [runeC_short hlen]
    go_enter Try.func26, Try.ntmps26
    go_wp2
    go_ret2
    exact ⟨rfl, rfl⟩
  · have bl : decide ((s.size : Int) < 2) = false := by simp; omega
    go_enter Try.func26, Try.ntmps26
    go_wp2
    go_loop [6, 8] (fun x i => ∃ (k y : Nat), 1 ≤ k ∧ k ≤ 2 ∧ i = .int .i64 k ∧ x = .int .i64 y ∧ Step r x0 k y) (fun _ i => 2 - (intOf i).toNat)
    case atStart => exact ⟨1, x0, by omega, by omega, rfl, rfl, Step.one r x0⟩
    case round =>
      obtain ⟨k, y, hk1, hk2, rfl, rfl, hst⟩ := hrel
      have hyl := hst.le hx1 (by omega)
      by_cases hk : k < 2
      · have hget : s[k]'(by omega) = r[k - 1]'(by omega) := byte_at Hd.out (by omega) hk1 (by omega)
        have hclt := (s[k]'(by omega)).toNat_lt
        by_cases hc : Cont (s[k]'(by omega))
        · have hnext := hst.next hk1 (by omega) (by rw [← hget]; exact hc)
          rw [← hget] at hnext
          have Hnext := Lib.hid hnext
          unfold Cont at hc
          obtain ⟨hc1, hc2⟩ := hc
          clear hget hst hnext
          go_wp2
          exact ⟨⟨k + 1, _, by omega, by omega, by go_num, congrArg (Value.int .i64) (by omega), Hnext.out⟩, by simp [intOf]; omega⟩
        · have hbad := hst.bad (n := 2) (least := 128) hk1 (by omega) (by omega) (by rw [← hget]; exact hc)
          have Hbad := Lib.hid hbad
          clear hget hst hbad
          by_cases hc1 : (s[k]'(by omega)).toNat < 128
          · go_wp2
            go_ret2
            rw [Hbad.out]
            exact ⟨rfl, rfl⟩
          · have hc2 : 192 ≤ (s[k]'(by omega)).toNat := by unfold Cont at hc; omega
            go_wp2
            go_ret2
            rw [Hbad.out]
            exact ⟨rfl, rfl⟩
      · obtain rfl : k = 2 := by omega
        have hlast := hst.last (least := 128) (by omega)
        have Hlast := Lib.hid hlast
        clear hst hlast
        by_cases hy : 128 ≤ y ∧ Scalar y
        · have hy2 := hy.2
          obtain ⟨hy1, _⟩ := hy
          unfold Scalar at hy2
          have hv : (if 128 ≤ y ∧ Scalar y then some (y, 2) else none) = some (y, 2) := if_pos ⟨hy1, hy2⟩
          have Hv := Lib.hid hv
          clear hv
          rcases hy2 with hy2 | ⟨hy2, hy3⟩
          · go_wp2
            go_ret2
            rw [Hlast.out, Hv.out]
            exact ⟨rfl, rfl⟩
          · go_wp2
            go_ret2
            rw [Hlast.out, Hv.out]
            exact ⟨rfl, rfl⟩
        · have hv : (if 128 ≤ y ∧ Scalar y then some (y, 2) else none) = none := if_neg hy
          have Hv := Lib.hid hv
          clear hv
          unfold Scalar at hy
          by_cases hy1 : y < 128
          · go_wp2
            go_ret2
            rw [Hlast.out, Hv.out]
            exact ⟨rfl, rfl⟩
          by_cases hy2 : 1114111 < y
          · go_wp2
            go_ret2
            rw [Hlast.out, Hv.out]
            exact ⟨rfl, rfl⟩
          have hy3 : 55296 ≤ y := by omega
          have hy4 : y ≤ 57343 := by omega
          go_wp2
          go_ret2
          rw [Hlast.out, Hv.out]
          exact ⟨rfl, rfl⟩

set_option maxRecDepth 100000 in
set_option maxHeartbeats 2000000 in
theorem read_three (s : ByteArray) (w : World) (hs : s.size ≤ 2 ^ 63 - 1) (hsz : 0 < s.size) (hne : s.toList.isEmpty = false) (r : List UInt8) (hrl : r.length + 1 = s.size) (Hd : Hid (s.data.toList = s[0] :: r)) (k1 : 224 ≤ s[0].toNat) (k2 : s[0].toNat < 240) :
    Calls Try.prog 26 #[.string s] w fun e w' => e = .returned (.tuple #[.int .i64 ((got (rune (s[0] :: r))).1 : Int), .int .i64 ((got (rune (s[0] :: r))).2 : Int)]) ∧ w = w' := by
  have hlt := s[0].toNat_lt
  rw [rune_three s[0] r ⟨by omega, by omega⟩]
  obtain ⟨x0, hx0⟩ : ∃ x0, x0 = s[0].toNat - 224 := ⟨_, rfl⟩
  have hx1 : x0 < 32 := by omega
  have hx2 : (s[0].toNat : Int) - 224 = (x0 : Int) := by omega
  rw [← hx0]
  have Hx0 := Lib.hid hx0
  clear hx0
  have b0 : decide ((s[0].toNat : Int) < 128) = false := by simp; omega
  have b1 : decide ((192 : Int) ≤ (s[0].toNat : Int)) = true := by simp; omega
  have b2 : decide ((s[0].toNat : Int) < 224) = false := by simp; omega
  have b3 : decide ((224 : Int) ≤ (s[0].toNat : Int)) = true := by simp; omega
  have b4 : decide ((s[0].toNat : Int) < 240) = true := by simp; omega
  by_cases hlen : r.length < 3 - 1
  · rw [runeC_short hlen]
    go_enter Try.func26, Try.ntmps26
    go_wp2
    go_ret2
    exact ⟨rfl, rfl⟩
  · have bl : decide ((s.size : Int) < 3) = false := by simp; omega
    go_enter Try.func26, Try.ntmps26
    go_wp2
    go_loop [6, 8] (fun x i => ∃ (k y : Nat), 1 ≤ k ∧ k ≤ 3 ∧ i = .int .i64 k ∧ x = .int .i64 y ∧ Step r x0 k y) (fun _ i => 3 - (intOf i).toNat)
    case atStart => exact ⟨1, x0, by omega, by omega, rfl, rfl, Step.one r x0⟩
    case round =>
      obtain ⟨k, y, hk1, hk2, rfl, rfl, hst⟩ := hrel
      have hyl := hst.le hx1 (by omega)
      by_cases hk : k < 3
      · have hget : s[k]'(by omega) = r[k - 1]'(by omega) := byte_at Hd.out (by omega) hk1 (by omega)
        have hclt := (s[k]'(by omega)).toNat_lt
        by_cases hc : Cont (s[k]'(by omega))
        · have hnext := hst.next hk1 (by omega) (by rw [← hget]; exact hc)
          rw [← hget] at hnext
          have Hnext := Lib.hid hnext
          unfold Cont at hc
          obtain ⟨hc1, hc2⟩ := hc
          clear hget hst hnext
          go_wp2
          exact ⟨⟨k + 1, _, by omega, by omega, by go_num, congrArg (Value.int .i64) (by omega), Hnext.out⟩, by simp [intOf]; omega⟩
        · have hbad := hst.bad (n := 3) (least := 2048) hk1 (by omega) (by omega) (by rw [← hget]; exact hc)
          have Hbad := Lib.hid hbad
          clear hget hst hbad
          by_cases hc1 : (s[k]'(by omega)).toNat < 128
          · go_wp2
            go_ret2
            rw [Hbad.out]
            exact ⟨rfl, rfl⟩
          · have hc2 : 192 ≤ (s[k]'(by omega)).toNat := by unfold Cont at hc; omega
            go_wp2
            go_ret2
            rw [Hbad.out]
            exact ⟨rfl, rfl⟩
      · obtain rfl : k = 3 := by omega
        have hlast := hst.last (least := 2048) (by omega)
        have Hlast := Lib.hid hlast
        clear hst hlast
        by_cases hy : 2048 ≤ y ∧ Scalar y
        · have hy2 := hy.2
          obtain ⟨hy1, _⟩ := hy
          unfold Scalar at hy2
          have hv : (if 2048 ≤ y ∧ Scalar y then some (y, 3) else none) = some (y, 3) := if_pos ⟨hy1, hy2⟩
          have Hv := Lib.hid hv
          clear hv
          rcases hy2 with hy2 | ⟨hy2, hy3⟩
          · go_wp2
            go_ret2
            rw [Hlast.out, Hv.out]
            exact ⟨rfl, rfl⟩
          · go_wp2
            go_ret2
            rw [Hlast.out, Hv.out]
            exact ⟨rfl, rfl⟩
        · have hv : (if 2048 ≤ y ∧ Scalar y then some (y, 3) else none) = none := if_neg hy
          have Hv := Lib.hid hv
          clear hv
          unfold Scalar at hy
          by_cases hy1 : y < 2048
          · go_wp2
            go_ret2
            rw [Hlast.out, Hv.out]
            exact ⟨rfl, rfl⟩
          by_cases hy2 : 1114111 < y
          · go_wp2
            go_ret2
            rw [Hlast.out, Hv.out]
            exact ⟨rfl, rfl⟩
          have hy3 : 55296 ≤ y := by omega
          have hy4 : y ≤ 57343 := by omega
          go_wp2
          go_ret2
          rw [Hlast.out, Hv.out]
          exact ⟨rfl, rfl⟩

set_option maxRecDepth 100000 in
set_option maxHeartbeats 2000000 in
theorem read_four (s : ByteArray) (w : World) (hs : s.size ≤ 2 ^ 63 - 1) (hsz : 0 < s.size) (hne : s.toList.isEmpty = false) (r : List UInt8) (hrl : r.length + 1 = s.size) (Hd : Hid (s.data.toList = s[0] :: r)) (k1 : 240 ≤ s[0].toNat) (k2 : s[0].toNat < 248) :
    Calls Try.prog 26 #[.string s] w fun e w' => e = .returned (.tuple #[.int .i64 ((got (rune (s[0] :: r))).1 : Int), .int .i64 ((got (rune (s[0] :: r))).2 : Int)]) ∧ w = w' := by
  have hlt := s[0].toNat_lt
  rw [rune_four s[0] r ⟨by omega, by omega⟩]
  obtain ⟨x0, hx0⟩ : ∃ x0, x0 = s[0].toNat - 240 := ⟨_, rfl⟩
  have hx1 : x0 < 32 := by omega
  have hx2 : (s[0].toNat : Int) - 240 = (x0 : Int) := by omega
  rw [← hx0]
  have Hx0 := Lib.hid hx0
  clear hx0
  have b0 : decide ((s[0].toNat : Int) < 128) = false := by simp; omega
  have b1 : decide ((192 : Int) ≤ (s[0].toNat : Int)) = true := by simp; omega
  have b2 : decide ((s[0].toNat : Int) < 224) = false := by simp; omega
  have b3 : decide ((224 : Int) ≤ (s[0].toNat : Int)) = true := by simp; omega
  have b4 : decide ((s[0].toNat : Int) < 240) = false := by simp; omega
  have b5 : decide ((240 : Int) ≤ (s[0].toNat : Int)) = true := by simp; omega
  have b6 : decide ((s[0].toNat : Int) < 248) = true := by simp; omega
  by_cases hlen : r.length < 4 - 1
  · rw [runeC_short hlen]
    go_enter Try.func26, Try.ntmps26
    go_wp2
    go_ret2
    exact ⟨rfl, rfl⟩
  · have bl : decide ((s.size : Int) < 4) = false := by simp; omega
    go_enter Try.func26, Try.ntmps26
    go_wp2
    go_loop [6, 8] (fun x i => ∃ (k y : Nat), 1 ≤ k ∧ k ≤ 4 ∧ i = .int .i64 k ∧ x = .int .i64 y ∧ Step r x0 k y) (fun _ i => 4 - (intOf i).toNat)
    case atStart => exact ⟨1, x0, by omega, by omega, rfl, rfl, Step.one r x0⟩
    case round =>
      obtain ⟨k, y, hk1, hk2, rfl, rfl, hst⟩ := hrel
      have hyl := hst.le hx1 (by omega)
      by_cases hk : k < 4
      · have hget : s[k]'(by omega) = r[k - 1]'(by omega) := byte_at Hd.out (by omega) hk1 (by omega)
        have hclt := (s[k]'(by omega)).toNat_lt
        by_cases hc : Cont (s[k]'(by omega))
        · have hnext := hst.next hk1 (by omega) (by rw [← hget]; exact hc)
          rw [← hget] at hnext
          have Hnext := Lib.hid hnext
          unfold Cont at hc
          obtain ⟨hc1, hc2⟩ := hc
          clear hget hst hnext
          go_wp2
          exact ⟨⟨k + 1, _, by omega, by omega, by go_num, congrArg (Value.int .i64) (by omega), Hnext.out⟩, by simp [intOf]; omega⟩
        · have hbad := hst.bad (n := 4) (least := 65536) hk1 (by omega) (by omega) (by rw [← hget]; exact hc)
          have Hbad := Lib.hid hbad
          clear hget hst hbad
          by_cases hc1 : (s[k]'(by omega)).toNat < 128
          · go_wp2
            go_ret2
            rw [Hbad.out]
            exact ⟨rfl, rfl⟩
          · have hc2 : 192 ≤ (s[k]'(by omega)).toNat := by unfold Cont at hc; omega
            go_wp2
            go_ret2
            rw [Hbad.out]
            exact ⟨rfl, rfl⟩
      · obtain rfl : k = 4 := by omega
        have hlast := hst.last (least := 65536) (by omega)
        have Hlast := Lib.hid hlast
        clear hst hlast
        by_cases hy : 65536 ≤ y ∧ Scalar y
        · have hy2 := hy.2
          obtain ⟨hy1, _⟩ := hy
          unfold Scalar at hy2
          have hv : (if 65536 ≤ y ∧ Scalar y then some (y, 4) else none) = some (y, 4) := if_pos ⟨hy1, hy2⟩
          have Hv := Lib.hid hv
          clear hv
          rcases hy2 with hy2 | ⟨hy2, hy3⟩
          · exfalso; omega
          · go_wp2
            go_ret2
            rw [Hlast.out, Hv.out]
            exact ⟨rfl, rfl⟩
        · have hv : (if 65536 ≤ y ∧ Scalar y then some (y, 4) else none) = none := if_neg hy
          have Hv := Lib.hid hv
          clear hv
          unfold Scalar at hy
          by_cases hy1 : y < 65536
          · go_wp2
            go_ret2
            rw [Hlast.out, Hv.out]
            exact ⟨rfl, rfl⟩
          by_cases hy2 : 1114111 < y
          · go_wp2
            go_ret2
            rw [Hlast.out, Hv.out]
            exact ⟨rfl, rfl⟩
          exfalso; omega

set_option maxRecDepth 100000 in
set_option maxHeartbeats 2000000 in
theorem read_any (s : ByteArray) (w : World) (hs : s.size ≤ maxLen) :
    Calls Try.prog 26 #[.string s] w fun e w' => e = .returned (.tuple #[.int .i64 ((got (rune s.data.toList)).1 : Int), .int .i64 ((got (rune s.data.toList)).2 : Int)]) ∧ w = w' := by
  unfold maxLen at hs
  by_cases h0 : s.size = 0
  · obtain rfl : s = ⟨#[]⟩ := Str.ext (List.length_eq_zero_iff.1 (by rw [← Str.size_eq]; exact h0))
    go_enter Try.func26, Try.ntmps26
    go_wp2
    go_ret2
    exact ⟨rfl, rfl⟩
  have hsz : 0 < s.size := by omega
  have hd := Str.drop_at s 0 hsz
  rw [List.drop_zero] at hd
  have hne : s.toList.isEmpty = false := by rw [Lib.toList_data, List.isEmpty_eq_false_iff, ne_eq, ← List.length_eq_zero_iff, ← Str.size_eq]; exact h0
  have hlt := s[0].toNat_lt
  obtain ⟨r, hr⟩ : ∃ r, r = s.data.toList.drop (0 + 1) := ⟨_, rfl⟩
  rw [← hr] at hd
  have hrl : r.length + 1 = s.size := by rw [Str.size_eq, hd]; simp
  have Hd := Lib.hid hd
  rw [hd]
  clear hd h0 hr
  by_cases k0 : s[0].toNat < 128
  · have e := rune_low s[0] r k0
    rw [e]
    clear e
    go_enter Try.func26, Try.ntmps26
    go_wp2
    go_ret2
    exact ⟨rfl, rfl⟩
  by_cases k1 : s[0].toNat < 192
  · rw [rune_bad s[0] r (by omega) (.inl k1)]
    go_enter Try.func26, Try.ntmps26
    go_wp2
    go_ret2
    exact ⟨rfl, rfl⟩
  by_cases k2 : s[0].toNat < 224
  · exact read_two s w hs hsz hne r hrl Hd (by omega) k2
  by_cases k3 : s[0].toNat < 240
  · exact read_three s w hs hsz hne r hrl Hd (by omega) k3
  by_cases k4 : s[0].toNat < 248
  · exact read_four s w hs hsz hne r hrl Hd (by omega) k4
  rw [rune_bad s[0] r (by omega) (.inr (by omega))]
  go_enter Try.func26, Try.ntmps26
  go_wp2
  go_ret2
  exact ⟨rfl, rfl⟩

end Text
end Go.Proofs.Ytpbefdabnjdeaaa
