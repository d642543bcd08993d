/- The laws' small known case: works() answers true. -/
import Derived.Test.YtjmejooalmcnfaaNumTurn
import Derived.Test.YtjmejooalmcnfaaStr
namespace Go.Proofs.Ytjmejooalmcnfaa
namespace Num
open Go.RowKit

theorem read_const (l : List UInt8) (n k : Nat) (e : Int) (h : rdL l = (n, k, e)) (w : World) (hl : l.length ≤ 100) :
    Calls Try.prog 8 #[.string ⟨l.toArray⟩] w fun en w' => en = .returned (.tuple #[.int .u64 (n : Int), .int .i64 (k : Int), .int .i64 e]) ∧ w = w' := by
  refine (read_any ⟨l.toArray⟩ w (by simp [ByteArray.size, maxLen]; omega)).mono ?_
  rintro en w' ⟨rfl, rfl⟩
  exact ⟨by rw [List.toList_toArray, h], rfl⟩
theorem up_const (n : Nat) (l : List UInt8) (h : upL n = l) (hn : n ≤ 18446744073709551615) (w : World) :
    Calls Try.prog 7 #[.int .u64 (n : Int)] w fun e w' => e = .returned (.string ⟨l.toArray⟩) ∧ Below w.heap.size w w' := by
  rw [← h]; exact up_any n w hn

theorem read_up (a : Nat) (s : ByteArray) (w : World) (ha : a ≤ 18446744073709551615) (hs : s.size ≤ 4611686018427387904) :
    Calls Try.prog 8 #[.string (⟨(upL a).toArray⟩ ++ s)] w fun en w' => en = .returned (.tuple #[.int .u64 (a : Int), .int .i64 ((upL a).length : Int), .int .i64 0]) ∧ w = w' := by
  have := upL_length a
  refine (read_any _ w (by rw [ByteArray.size_append, Str.size_mk]; unfold maxLen; omega)).mono ?_
  rintro en w' ⟨rfl, rfl⟩
  have e : (({ data := (upL a).toArray } : ByteArray) ++ s).data.toList = upL a ++ s.data.toList := by simp [ByteArray.data_append]
  exact ⟨by rw [e, rd_upL a (by omega)], rfl⟩
theorem read_row (a : Nat) (t : List UInt8) (w : World) (ha : a ≤ 18446744073709551615) (hs : t.length ≤ 4611686018427387904) :
    Calls Try.prog 8 #[.string ⟨(upL a ++ t).toArray⟩] w fun en w' => en = .returned (.tuple #[.int .u64 (a : Int), .int .i64 ((upL a).length : Int), .int .i64 0]) ∧ w = w' := by
  have := upL_length a
  refine (read_any _ w (by rw [Str.size_mk, List.length_append]; unfold maxLen; omega)).mono ?_
  rintro en w' ⟨rfl, rfl⟩
  exact ⟨by rw [List.toList_toArray, rd_upL a (by omega)], rfl⟩
theorem read_cut (a k : Nat) (w : World) (hk : k < (upL a).length) :
    Calls Try.prog 8 #[.string (({ data := (upL a).toArray } : ByteArray).extract 0 k)] w fun en w' => en = .returned (.tuple #[.int .u64 0, .int .i64 0, .int .i64 20]) ∧ w = w' := by
  have := upL_length a
  refine (read_any _ w (by rw [ByteArray.size_extract, Str.size_mk]; unfold maxLen; omega)).mono ?_
  rintro en w' ⟨rfl, rfl⟩
  have e : (({ data := (upL a).toArray } : ByteArray).extract 0 k).data.toList = (upL a).take k := by simp [ByteArray.data_extract]
  exact ⟨by rw [e, rdL_cut a k hk]; rfl, rfl⟩

set_option maxHeartbeats 400000 in
theorem works_any (w : World) : Calls Try.prog 6 #[] w fun e w' => e = .returned (.bool true) ∧ Below w.heap.size w w' := by
  have c1 := read_const [172, 2, 120] 300 2 0 (by decide)
  have c2 := read_const [128] 0 0 20 (by decide)
  have c3 := read_const [128, 0] 0 0 8 (by decide)
  have c4 := up_const 300 [172, 2] (by decide) (by decide)
  have H1 := Lib.hid c1; have H2 := Lib.hid c2; have H3 := Lib.hid c3; have H4 := Lib.hid c4
  clear c1 c2 c3 c4
  go_enter Try.func6, Try.ntmps6
  go_wp2_with fail
  refine (H1.out _ (by decide)).mono ?_
  rintro e w' ⟨rfl, rfl⟩
  go_wp2_with fail
  refine (H2.out _ (by decide)).mono ?_
  rintro e w' ⟨rfl, rfl⟩
  go_wp2_with fail
  refine (H3.out _ (by decide)).mono ?_
  rintro e w' ⟨rfl, rfl⟩
  go_wp2_with fail
  refine (H4.out _).mono ?_
  rintro e w' ⟨rfl, hb⟩
  go_wp2_with fail
  refine (turn_any _ _ (by decide) (by decide)).mono ?_
  rintro e w' ⟨rfl, rfl⟩
  go_wp2_with fail
  refine (back_any _ _ (by decide) (by decide)).mono ?_
  rintro e w' ⟨rfl, rfl⟩
  go_wp2
  go_ret
  exact ⟨rfl, hb⟩

end Num
end Go.Proofs.Ytjmejooalmcnfaa
