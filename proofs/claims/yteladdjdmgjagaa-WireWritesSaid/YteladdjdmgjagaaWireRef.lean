/- The document's bytes of numbers, texts, truths: the same. -/
import Derived.Test.YteladdjdmgjagaaWireList
import Derived.Test.YteladdjdmgjagaaNumRef
import Derived.Deep.RegionHeld3
namespace Go.Proofs.Yteladdjdmgjagaa
open Go.RowKit
namespace Wire
open Num

set_option maxRecDepth 100000 in
set_option maxHeartbeats 2000000 in
theorem refnums_any (a : Option Addr) (len cap : Nat) (l : List Nat) (w : World) (h : Nats w a len l) (hl : len ≤ 1048576) :
    Calls Try.prog 10 #[.slice a len cap] w fun e w' => e = .returned (.string ⟨(cat l).toArray⟩) ∧ Below w.heap.size w w' := by
  have HN := Lib.hid h
  have hlen := Lib.hid h.1
  clear h
  go_enter Try.func10, Try.ntmps10
  go_wp2_with fail
  go_loopw [3, 4] (fun s i wr => ∃ k : Nat, k ≤ len ∧ i = .int .i64 k ∧ s = .string ⟨(cat (l.take k)).toArray⟩ ∧ Below w.heap.size w wr) (fun _ i _ => len - (intOf i).toNat)
  case atStart => exact ⟨0, by omega, rfl, rfl, Below.refl _ _⟩
  case round =>
    obtain ⟨k, hk, rfl, rfl, hb⟩ := hrel
    have hll := hlen.out
    by_cases hlt : k < len
    · obtain ⟨_, hmem, hcell⟩ := HN.out.below rfl hb
      obtain ⟨b, off, rfl, hblt, hc⟩ := hcell (by omega)
      have hck := hc k (by omega)
      have hle : l[k] ≤ 18446744073709551615 := hmem _ (List.getElem_mem _)
      have Hct := Lib.hid (cat_take l k (by omega))
      have hcl := cat_length (l.take k)
      rw [List.length_take] at hcl
      obtain ⟨n, hn⟩ : ∃ n, n = l[k] := ⟨_, rfl⟩
      rw [← hn] at hck hle Hct
      have hul := (upL_length n).2
      obtain ⟨sk, hsk⟩ : ∃ sk, sk = cat (l.take k) := ⟨_, rfl⟩
      rw [← hsk] at Hct hcl ⊢
      have hb1 : sk.length ≤ 10485760 := by omega
      clear hn hc hcell hmem hsk hcl hll
      go_wp2_with fail
      refine (refup_any n _ hle).mono ?_
      rintro e w1 ⟨rfl, b1⟩
      go_wp2
      go_roundw
      case rel => exact ⟨k + 1, by omega, by go_num, by rw [Str.mk_append_mk, Hct.out], bstep hb b1⟩
      case measure => simp [intOf]; omega
    · obtain rfl : k = len := by omega
      rw [List.take_of_length_le (by omega)]
      clear hll
      go_wp2
      go_ret
      exact ⟨rfl, hb⟩

theorem keep1 {w w' : World} {b o : Nat} {v : Value} (h : w.cell? ⟨b, o, none⟩ = some v) (k : Below w.heap.size w w') : w'.cell? ⟨b, o, none⟩ = some v :=
  (k.cell (p := ⟨b, o, none⟩) (World.block_lt_of_cell? _ _ h)).trans h

set_option maxRecDepth 100000 in
set_option maxHeartbeats 2000000 in
theorem reftexts_any (a : Option Addr) (len cap : Nat) (l : List ByteArray) (w : World) (h : Txts w a len l) (hl : (tcat l).length ≤ 1099511627776) (hlen0 : len ≤ 1099511627776) :
    Calls Try.prog 12 #[.slice a len cap] w fun e w' => e = .returned (.string ⟨(tcat l).toArray⟩) ∧ Below w.heap.size w w' := by
  have HN := Lib.hid h
  have hlen := Lib.hid h.1
  clear h
  go_enter Try.func12, Try.ntmps12
  go_wp2_with fail
  go_loopw [3, 4] (fun s i wr => ∃ k : Nat, k ≤ len ∧ i = .int .i64 k ∧ s = .string ⟨(tcat (l.take k)).toArray⟩ ∧ Below w.heap.size w wr) (fun _ i _ => len - (intOf i).toNat)
  case atStart => exact ⟨0, by omega, rfl, rfl, Below.refl _ _⟩
  case round =>
    obtain ⟨k, hk, rfl, rfl, hb⟩ := hrel
    have hll := hlen.out
    by_cases hlt : k < len
    · obtain ⟨_, hmem, hcell⟩ := HN.out.below rfl hb
      obtain ⟨b, off, rfl, hblt, hc⟩ := hcell (by omega)
      have hck := hc k (by omega)
      have hct := tcat_take l k (by omega)
      have hcl := tcat_le l (k + 1)
      have hone := one_length l[k]
      rw [hct, List.length_append] at hcl
      have Hct := Lib.hid hct
      obtain ⟨t, hn⟩ : ∃ t, t = l[k] := ⟨_, rfl⟩
      rw [← hn] at hck Hct hone hcl
      have hw : IntKind.u64.wrap (t.size : Int) = (t.size : Int) := by rw [IntKind.wrap_u64]; omega
      have hul := upL_length t.size
      obtain ⟨sk, hsk⟩ : ∃ sk, sk = tcat (l.take k) := ⟨_, rfl⟩
      rw [← hsk] at Hct hcl ⊢
      have hb1 : sk.length ≤ 1099511627776 := by omega
      have hb2 : t.size ≤ 1099511627776 := by omega
      have hb3 : (upL t.size).length ≤ 10 := hul.2
      have hle : t.size ≤ 18446744073709551615 := by omega
      have hs1 : ¬ (9223372036854775807 < sk.length + (upL t.size).length) := by omega
      have hs2 : ¬ (9223372036854775807 < sk.length + (upL t.size).length + t.size) := by omega
      clear hn hc hcell hmem hsk hcl hll hct hone hul
      go_wp2_with fail
      go_region_held3 (fun w' => w'.cell? ⟨b, off + k, none⟩ = some (.string t))
        (first | go_keep | exact keep1 (by assumption) k7)
        ((go_at_call 26; with_reducible refine (refup_any t.size _ hle).mono ?_; rintro e v1 ⟨rfl, k7⟩; go_wp2_with fail))
      go_wp2
      go_roundw
      case rel => exact ⟨k + 1, by omega, by go_num, by rw [Str.mk_append_mk, Str.append_mk, Hct.out, one, List.append_assoc], bstep (Below.drew hb) k7⟩
      case measure => simp [intOf]; omega
    · obtain rfl : k = len := by omega
      rw [List.take_of_length_le (by omega)]
      clear hll
      go_wp2
      go_ret
      exact ⟨rfl, hb⟩

theorem refbool_w (b : Bool) (w : World) :
    Calls Try.prog 14 #[.bool b] w fun e w' => e = .returned (.string ⟨#[tr b]⟩) ∧ w = w' := by
  cases b
  · go_enter Try.func14, Try.ntmps14
    go_wp2
    go_ret
    exact ⟨rfl, rfl⟩
  · go_enter Try.func14, Try.ntmps14
    go_wp2
    go_ret
    exact ⟨rfl, rfl⟩

end Wire
end Go.Proofs.Yteladdjdmgjagaa
