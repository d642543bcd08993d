/- Small facts on strings as lists of bytes, in plain Lean. -/
import Derived.WalkKit
namespace Go.Proofs.YtnpjkmomllkhpaaGreat
namespace Str

/-- A string out of its bytes. -/
abbrev mk (l : List UInt8) : ByteArray := ⟨l.toArray⟩
theorem size_mk (l : List UInt8) : (({ data := l.toArray } : ByteArray)).size = l.length := by show l.toArray.size = _; simp
theorem size_eq (s : ByteArray) : s.size = s.data.toList.length := by simp
theorem ext {s t : ByteArray} (h : s.data.toList = t.data.toList) : s = t := by
  cases s; cases t; simp at h; rw [h]
theorem mk_toList (s : ByteArray) : (({ data := s.data.toList.toArray } : ByteArray)) = s := ext (by simp)
theorem append_mk (l : List UInt8) (s : ByteArray) : ({ data := l.toArray } : ByteArray) ++ s = { data := (l ++ s.data.toList).toArray } := ext (by simp [ByteArray.data_append])
theorem mk_append_mk (l m : List UInt8) : ({ data := l.toArray } : ByteArray) ++ ({ data := m.toArray } : ByteArray) = { data := (l ++ m).toArray } := ext (by simp [ByteArray.data_append])
theorem toList_append (s t : ByteArray) : (s ++ t).data.toList = s.data.toList ++ t.data.toList := by simp [ByteArray.data_append]
theorem extract_toList (s : ByteArray) (i j : Nat) : (s.extract i j).data.toList = (s.data.toList.take j).drop i := by
  simp [ByteArray.data_extract, List.extract_eq_take_drop, List.drop_take]
theorem drop_mk (l t : List UInt8) : ({ data := (l ++ t).toArray } : ByteArray).extract l.length (l.length + t.length) = { data := t.toArray } := ext (by
  rw [extract_toList, List.toList_toArray, List.toList_toArray, List.take_of_length_le (by simp), List.drop_left])
theorem drop_at (s : ByteArray) (k : Nat) (h : k < s.size) : s.data.toList.drop k = s[k] :: s.data.toList.drop (k + 1) := by
  rw [List.drop_eq_getElem_cons (by simpa using h)]; rfl
theorem wrap_i64 (m : Int) : IntKind.i64.wrap m = if 9223372036854775808 ≤ m % 18446744073709551616 then m % 18446744073709551616 - 18446744073709551616 else m % 18446744073709551616 := by
  simp [IntKind.wrap, IntKind.bits, IntKind.signed]
theorem and_63 (a : Nat) (ha : a < 9223372036854775808) : bits .and .i64 (a : Int) 63 = ((a % 64 : Nat) : Int) := by
  have h1 : (BitVec.ofInt 64 (a : Int)).toNat = a := by
    rw [BitVec.ofInt_natCast, BitVec.toNat_ofNat]; exact Nat.mod_eq_of_lt (by omega)
  have h2 : (BitVec.ofInt 64 (63 : Int)).toNat = 63 := by decide
  show IntKind.i64.wrap ((BitVec.ofInt 64 (a : Int) &&& BitVec.ofInt 64 (63 : Int)).toNat : Int) = _
  rw [BitVec.toNat_and, h1, h2, show (63 : Nat) = 2 ^ 6 - 1 from rfl, Nat.and_two_pow_sub_one_eq_mod, wrap_i64, if_neg (by omega)]
  omega
theorem mk_inj {l m : List UInt8} (h : ({ data := l.toArray } : ByteArray) = { data := m.toArray }) : l = m := by simpa using h

end Str
end Go.Proofs.YtnpjkmomllkhpaaGreat
