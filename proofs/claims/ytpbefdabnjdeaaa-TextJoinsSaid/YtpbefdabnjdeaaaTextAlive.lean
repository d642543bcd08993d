/- The laws' small known case: alive() answers true. -/
import Derived.Test.YtpbefdabnjdeaaaText
namespace Go.Proofs.Ytpbefdabnjdeaaa
namespace Text
open Go.RowKit

theorem runes_const (l : List UInt8) (o : Option (List Nat)) (h : runes l = o) (hl : l.length ≤ 65536) (w : World) :
    Calls Try.prog 14 #[.string ⟨l.toArray⟩] w fun e w' => e = .returned (.int .i64 (count o)) ∧ Below w.heap.size w w' := by
  have := runes_any ⟨l.toArray⟩ w (by rw [Str.size_mk]; unfold maxLen; omega)
  rwa [List.toList_toArray, h] at this
theorem valid_const (l : List UInt8) (o : Option (List Nat)) (h : runes l = o) (hl : l.length ≤ 65536) (w : World) :
    Calls Try.prog 13 #[.string ⟨l.toArray⟩] w fun e w' => e = .returned (.bool o.isSome) ∧ Below w.heap.size w w' := by
  have := valid_any ⟨l.toArray⟩ w (by rw [Str.size_mk]; unfold maxLen; omega)
  rwa [List.toList_toArray, h] at this
theorem kind_const (l : List UInt8) (o : Option (List Nat)) (h : runes l = o) (hl : l.length ≤ 65536) (w : World) :
    Calls Try.prog 16 #[.string ⟨l.toArray⟩] w fun e w' => e = .returned (.int .u8 (kind o)) ∧ Below w.heap.size w w' := by
  have := kind_any ⟨l.toArray⟩ w (by rw [Str.size_mk]; unfold maxLen; omega)
  rwa [List.toList_toArray, h] at this
theorem key_const (l : List UInt8) (o : Option (List Nat)) (h : runes l = o) (hl : l.length ≤ 65536) (w : World) :
    Calls Try.prog 15 #[.string ⟨l.toArray⟩] w fun e w' => e = .returned (.bool (!(kind o == 0))) ∧ Below w.heap.size w w' := by
  have := key_any ⟨l.toArray⟩ w (by rw [Str.size_mk]; unfold maxLen; omega)
  rwa [List.toList_toArray, h] at this
theorem cut_const (l : List UInt8) (o : Option (List Nat)) (h : runes l = o) (hl : l.length ≤ 65536) (n : Int) (h1 : -9223372036854775808 ≤ n) (h2 : n ≤ 9223372036854775807) (m : List UInt8) (hm : cutL o n = m) (w : World) :
    Calls Try.prog 19 #[.string ⟨l.toArray⟩, .int .i64 n] w fun e w' => e = .returned (.string ⟨m.toArray⟩) ∧ Below w.heap.size w w' := by
  have := cut_any ⟨l.toArray⟩ n w (by rw [Str.size_mk]; unfold maxLen; omega) h1 h2
  rwa [List.toList_toArray, h, hm] at this
theorem compare_const (a b : List UInt8) (n : Int) (h : Lib.compareBytes a b = n) (w : World) :
    Calls Try.prog 17 #[.string ⟨a.toArray⟩, .string ⟨b.toArray⟩] w fun e w' => e = .returned (.int .i64 n) ∧ w = w' := by
  have := compare_any ⟨a.toArray⟩ ⟨b.toArray⟩ w
  rwa [List.toList_toArray, List.toList_toArray, h] at this

set_option maxRecDepth 100000 in
set_option maxHeartbeats 1000000 in
theorem alive_any (w : World) : Calls Try.prog 10 #[] w fun e w' => e = .returned (.bool true) ∧ Below w.heap.size w w' := by
  have H1 := Lib.hid (runes_const [97, 195, 169] (some [97, 233]) (by decide) (by decide))
  have H2 := Lib.hid (runes_const [233] none (by decide) (by decide))
  have H3 := Lib.hid (key_const [35, 110] (some [35, 110]) (by decide) (by decide))
  have H4 := Lib.hid (kind_const [35, 110] (some [35, 110]) (by decide) (by decide))
  have H5 := Lib.hid (key_const [110] (some [110]) (by decide) (by decide))
  have H6 := Lib.hid (key_const [35] (some [35]) (by decide) (by decide))
  have H7 := Lib.hid (cut_const [97, 195, 169, 122] (some [97, 233, 122]) (by decide) (by decide) 2 (by decide) (by decide) [97, 195, 169] (by decide))
  have H8 := Lib.hid (valid_const [226, 130, 172] (some [8364]) (by decide) (by decide))
  have H9 := Lib.hid (valid_const [237, 160, 128] none (by decide) (by decide))
  have H10 := Lib.hid (compare_const [97] [97, 98] (-1) (by decide))
  go_enter Try.func10, Try.ntmps10
  go_wp2_with fail
  refine (H1.out _).mono ?_
  rintro e w1 ⟨rfl, hb1⟩
  go_wp2_with fail
  refine (H2.out _).mono ?_
  rintro e w2 ⟨rfl, hb2⟩
  go_wp2_with fail
  refine (H3.out _).mono ?_
  rintro e w3 ⟨rfl, hb3⟩
  go_wp2_with fail
  refine (H4.out _).mono ?_
  rintro e w4 ⟨rfl, hb4⟩
  go_wp2_with fail
  refine (H5.out _).mono ?_
  rintro e w5 ⟨rfl, hb5⟩
  go_wp2_with fail
  refine (H6.out _).mono ?_
  rintro e w6 ⟨rfl, hb6⟩
  go_wp2_with fail
  refine (H7.out _).mono ?_
  rintro e w7 ⟨rfl, hb7⟩
  go_wp2_with fail
  refine (H8.out _).mono ?_
  rintro e w8 ⟨rfl, hb8⟩
  go_wp2_with fail
  refine (H9.out _).mono ?_
  rintro e w9 ⟨rfl, hb9⟩
  go_wp2_with fail
  refine (H10.out _).mono ?_
  rintro e w' ⟨rfl, rfl⟩
  go_wp2
  go_ret
  have b2 := hb1.trans (hb2.mono hb1.size)
  have b3 := b2.trans (hb3.mono b2.size)
  have b4 := b3.trans (hb4.mono b3.size)
  have b5 := b4.trans (hb5.mono b4.size)
  have b6 := b5.trans (hb6.mono b5.size)
  have b7 := b6.trans (hb7.mono b6.size)
  have b8 := b7.trans (hb8.mono b7.size)
  exact ⟨rfl, b8.trans (hb9.mono b8.size)⟩

end Text
end Go.Proofs.Ytpbefdabnjdeaaa
